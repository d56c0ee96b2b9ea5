/- Names: ddiref01's Labels and Under answer as the program's; loops with an index. -/
import Derived.Test.YthhnnlipnpfkcaaDoorXaLw01p
set_option linter.all false
namespace Go.Proofs.YthhnnlipnpfkcaaDoor.Dn
open Go Go.Pev
set_option linter.unusedVariables false
set_option linter.unusedSimpArgs false
set_option maxRecDepth 4000
theorem for_idx {α R : Type} (l : List α) (hl : l.length ≤ 9223372036854775807) (L : Nat → Int → Option R) (B : Int → (Int → Option R) → Option R) (hL : ∀ n i, L (n + 1) i = B i (L n))
    (S : Nat → List α → Option R) (h0 : ∀ nx, B (l.length : Int) nx = S l.length [])
    (hs : ∀ (i : Nat) (a : α) (r : List α) nx, l.drop i = a :: r → l[i]? = some a → i < l.length → IntKind.i64.wrap ((i : Int) + 1) = ((i + 1 : Nat) : Int) → nx ((i + 1 : Nat) : Int) = S (i + 1) r → B (i : Int) nx = S i (a :: r)) :
    L FU 0 = S 0 l := by
  have := for_list0 l hl L B hL (fun r => S (l.length - r.length) r) (fun nx => by simpa using h0 nx) (fun i a r nx h1 h2 h3 h4 h5 => by
    have hr : r.length = l.length - (i + 1) := by
      have := congrArg List.length h1
      simp at this; omega
    have e1 : l.length - r.length = i + 1 := by omega
    have e2 : l.length - (a :: r).length = i := by simp; omega
    simp only [e1] at h5
    simp only [e2]
    exact hs i a r nx h1 h2 h3 h4 h5)
  simpa using this
theorem fitC_cons {l : LT} {ls : List LT} {cs : List AV} (h : fitC (l :: ls) cs = true) : ∃ x r, cs = x :: r ∧ fitL l x = true ∧ fitC ls r = true := by
  cases cs with
  | nil => simp [fitC] at h
  | cons x r =>
    simp only [fitC] at h
    cases hl : fitL l x
    · rw [hl] at h; cases h
    · rw [hl] at h; exact ⟨x, r, rfl, hl, h⟩
theorem fitC_nil {cs : List AV} (h : fitC [] cs = true) : cs = [] := by
  cases cs with
  | nil => rfl
  | cons x r => simp [fitC] at h
theorem fitC_mk {l : LT} {ls : List LT} {x : AV} {r : List AV} (h1 : fitL l x = true) (h2 : fitC ls r = true) : fitC (l :: ls) (x :: r) = true := by
  simp only [fitC, h1, h2]
theorem fitV_st {ls : List LT} {cs : List AV} (h : fitC ls cs = true) : fitV (.st ls) (.agg cs) = true := by
  simp [fitV, Pev.isAgg, AV.cells, h]
theorem fitL_sl {e : Nat} {x : AV} (h : fitL (.sl e) x = true) : x = .nils ∨ ∃ xs, x = .sl e xs := by
  unfold fitL at h
  cases x with
  | nils => exact .inl rfl
  | sl e' xs => exact .inr ⟨xs, by rw [Nat.eq_of_beq_eq_true h]⟩
  | _ => simp at h
theorem fitL_op_sl {e : Nat} {x : AV} (h : fitL (.sl e) x = true) : fitL .op x = true := by
  rcases fitL_sl h with rfl | ⟨xs, rfl⟩ <;> rfl
theorem spl_mid : ∀ (q cur y : List UInt8), spl cur (q ++ 46 :: y) = spl cur (q ++ [46]) ++ spl [] y
  | [], cur, y => by simp [spl]
  | c :: r, cur, y => by
    simp only [List.cons_append, spl]
    split
    · simp [spl_mid r [] y]
    · exact spl_mid r _ y
theorem spl_join : ∀ (x cur : List UInt8), x.getLast? = some 46 → (spl cur x).flatMap (· ++ [46]) = cur ++ x
  | [], cur, h => by simp at h
  | [c], cur, h => by
    have : c = 46 := by simpa using h
    subst this
    simp [spl]
  | c :: d :: r, cur, h => by
    have h' : (d :: r).getLast? = some 46 := by simpa using h
    unfold spl
    split
    · rename_i hc
      subst hc
      simp [spl_join (d :: r) [] h']
    · rw [spl_join (d :: r) _ h']
      simp
theorem okName_cases {x : List UInt8} (h : okName x = true) : x = [46] ∧ labelsF x = [] ∨ x ≠ [46] ∧ 2 ≤ x.length ∧ x.getLast? = some 46 ∧ labsOk true (spl [] x) = true ∧ labelsF x = spl [] x := by
  unfold okName at h
  unfold labelsF
  unfold splitW at h ⊢
  by_cases h1 : x = [46]
  · left; exact ⟨h1, by rw [if_pos h1]⟩
  · right
    rw [if_neg h1] at h ⊢
    split at h
    · rename_i h2
      rw [if_pos h2]
      have h3 := h2.1
      simp only [endsOk, Bool.and_eq_true, decide_eq_true_eq, beq_iff_eq] at h3
      exact ⟨h1, h3.1.1, h3.2, h2.2, rfl⟩
    · cases h
theorem sufB_iff {x y : List UInt8} : sufB x y = true ↔ y <:+ x := by
  unfold sufB
  rw [Bool.and_eq_true, decide_eq_true_eq, beq_iff_eq, List.suffix_iff_eq_drop]
  constructor
  · rintro ⟨_, h⟩; exact h.symm
  · intro h
    refine ⟨?_, h.symm⟩
    have := congrArg List.length h
    simp at this; omega
theorem under_iff {x y : List UInt8} (hx : okName x = true) (hy : okName y = true) : labelsF y <:+ labelsF x ↔ (y == [46] || x == y || sufB x (46 :: y)) = true := by
  simp only [Bool.or_eq_true, beq_iff_eq, sufB_iff]
  rcases okName_cases hy with ⟨rfl, e⟩ | ⟨y1, y2, y3, y4, y5⟩
  · simp [e]
  · have jy := spl_join y [] y3
    rw [List.nil_append] at jy
    rcases okName_cases hx with ⟨rfl, e⟩ | ⟨x1, x2, x3, x4, x5⟩
    · rw [e, y5]
      constructor
      · intro h
        have : spl [] y = [] := List.suffix_nil.1 h
        rw [this] at jy
        simp at jy
        subst jy
        simp at y2
      · rintro ((h | h) | h)
        · exact absurd h y1
        · exact absurd h.symm y1
        · have := h.length_le
          rw [List.length_cons, List.length_singleton] at this
          omega
    · have jx := spl_join x [] x3
      rw [List.nil_append] at jx
      rw [x5, y5]
      constructor
      · rintro ⟨p, hp⟩
        rw [← hp, List.flatMap_append, jy] at jx
        rcases List.eq_nil_or_concat p with rfl | ⟨q, l, rfl⟩
        · left; right; simpa using jx.symm
        · right
          rw [List.concat_eq_append] at jx
          refine ⟨q.flatMap (· ++ [46]) ++ l, ?_⟩
          rw [← jx]; simp
      · rintro ((h | h) | ⟨q, h⟩)
        · exact absurd h y1
        · subst h; exact List.suffix_refl _
        · rw [← h, spl_mid]
          exact ⟨_, rfl⟩
def comm : List (List UInt8) → List (List UInt8) → Nat
  | a :: r, b :: s => if a = b then comm r s + 1 else 0
  | _, _ => 0
theorem comm_all : ∀ (a b : List (List UInt8)), comm a b = b.length ↔ b <+: a
  | [], [] => by simp [comm]
  | [], _ :: _ => by simp [comm]
  | _ :: _, [] => by simp [comm]
  | a :: r, b :: s => by
    unfold comm
    by_cases h : a = b
    · subst h
      rw [if_pos rfl, List.cons_prefix_cons]
      simp [comm_all r s]
    · rw [if_neg h, List.cons_prefix_cons]
      simp
      exact fun e => absurd e.symm h
theorem avS_back (l : List (List UInt8)) (i : Nat) (h : i < l.length) : (avS l)[l.length - 1 - i]? = some (.str (l.reverse[i]'(by simpa using h))) := by
  unfold avS
  rw [List.getElem?_map, List.getElem_reverse, List.getElem?_eq_getElem (by omega)]
  rfl
theorem p_same01 (xs ys : List (List UInt8)) (hx : xs.length ≤ 1000000000) (hy : ys.length ≤ 1000000000) : ddiref01_same (avS xs) (avS ys) = some ((comm xs.reverse ys.reverse : Nat) : Int) := by
  rw [ddiref01_same_eq]; unfold ddiref01_same_i
  rw [ddiref01_same_L6_eq]
  have lx : (avS xs).length = xs.length := by simp [avS]
  have ly : (avS ys).length = ys.length := by simp [avS]
  have key := loop_is (fun n (i : Int) => ddiref01_same_L6_i (avS xs) (avS ys) (fun v5 => some v5) n i) (fun i nx => ddiref01_same_L6_b (avS xs) (avS ys) i nx (fun v5 => some v5)) (fun _ _ => rfl)
    (fun i => 0 ≤ i ∧ i ≤ xs.length) (fun i => (xs.length - i).toNat) (fun i => some (i + ((comm (xs.reverse.drop i.toNat) (ys.reverse.drop i.toNat) : Nat) : Int))) ?_ FU 0 (by simp) (FU_big (by simp; omega))
  · rw [show ddiref01_same_L6_i (avS xs) (avS ys) (fun v5 => some v5) FU 0 = _ from key]
    simp
  · rintro i ⟨h0, h1⟩ nx hn
    obtain ⟨i, rfl⟩ : ∃ j : Nat, i = j := ⟨i.toNat, by omega⟩
    unfold ddiref01_same_L6_b
    rw [ddiref01_same_J9_eq]; unfold ddiref01_same_J9_i
    simp only [lx, ly, Int.toNat_natCast]
    have hw : IntKind.i64.wrap ((i : Int) + 1) = ((i + 1 : Nat) : Int) := w64 (by omega) (by omega)
    by_cases hi : i < xs.length
    · have hdx : xs.reverse.drop i = xs.reverse[i]'(by simpa using hi) :: xs.reverse.drop (i + 1) := List.drop_eq_getElem_cons (by simpa using hi)
      by_cases hj : i < ys.length
      · have hdy : ys.reverse.drop i = ys.reverse[i]'(by simpa using hj) :: ys.reverse.drop (i + 1) := List.drop_eq_getElem_cons (by simpa using hj)
        have w1 : IntKind.i64.wrap (IntKind.i64.wrap ((xs.length : Int) - 1) - (i : Int)) = ((xs.length - 1 - i : Nat) : Int) := by
          rw [w64 (i := (xs.length : Int) - 1) (by omega) (by omega), w64 (by omega) (by omega)]; omega
        have w2 : IntKind.i64.wrap (IntKind.i64.wrap ((ys.length : Int) - 1) - (i : Int)) = ((ys.length - 1 - i : Nat) : Int) := by
          rw [w64 (i := (ys.length : Int) - 1) (by omega) (by omega), w64 (by omega) (by omega)]; omega
        have d1 : decide ((i : Int) < (xs.length : Int)) = true := decide_eq_true (by omega)
        have d2 : decide ((i : Int) < (ys.length : Int)) = true := decide_eq_true (by omega)
        simp only [d1, d2, cond_t, w1, w2, ixB_nat, avS_back _ _ hi, avS_back _ _ hj, oB_s, hw]
        have f : ∀ s : List UInt8, fitC [.s] (AV.str s).cells = true := fun _ => rfl
        have g : ∀ s : List UInt8, gS (AV.str s).cells 0 = s := fun _ => rfl
        simp only [f, cond_t, g]
        have hnx := hn ((i + 1 : Nat) : Int) ⟨by omega, by omega⟩ (by omega)
        simp only [Int.toNat_natCast] at hnx
        rw [hdx, hdy]
        unfold comm
        by_cases he : xs.reverse[i]'(by simpa using hi) = ys.reverse[i]'(by simpa using hj)
        · have hb : (xs.reverse[i]'(by simpa using hi) == ys.reverse[i]'(by simpa using hj)) = true := beq_iff_eq.2 he
          rw [hb, cond_t, hnx, if_pos he]
          congr 1; omega
        · have hb : (xs.reverse[i]'(by simpa using hi) == ys.reverse[i]'(by simpa using hj)) = false := by simpa using he
          rw [hb, cond_f, if_neg he]
          simp
      · have d1 : decide ((i : Int) < (xs.length : Int)) = true := decide_eq_true (by omega)
        have d2 : decide ((i : Int) < (ys.length : Int)) = false := decide_eq_false (by omega)
        have e : ys.reverse.drop i = [] := List.drop_eq_nil_of_le (by simp; omega)
        rw [e, hdx]
        simp only [d1, d2, cond_t, cond_f]
        simp [comm]
    · have d1 : decide ((i : Int) < (xs.length : Int)) = false := decide_eq_false (by omega)
      have e : xs.reverse.drop i = [] := List.drop_eq_nil_of_le (by simp; omega)
      rw [e]
      simp only [d1, cond_f]
      simp [comm]
theorem labels_len {x : List UInt8} : (labelsF x).length ≤ 254 := by
  unfold labelsF splitW
  split
  · simp
  · split
    · rename_i h
      have h3 := h.1
      simp only [endsOk, Bool.and_eq_true, decide_eq_true_eq, beq_iff_eq] at h3
      have := spl_len x []
      simp; omega
    · simp
theorem p_rLabels (x : List UInt8) (hx : x.length ≤ 9223372036854775807) : ddiref01_Labels x = some (avS (labelsF x)) := by
  rw [ddiref01_Labels_eq]; unfold ddiref01_Labels_i
  rw [p_split x hx]; rfl
theorem p_rUnder (x y : List UInt8) (hx : x.length ≤ 9223372036854775807) (hy : y.length ≤ 9223372036854775807) : ddiref01_Under x y = some (underB x y) := by
  rw [ddiref01_Under_eq]; unfold ddiref01_Under_i underB
  rw [p_split x hx, p_split y hy]
  simp only [oB_s]
  show (bif okName x && okName y then oB (ddiref01_same (avS (labelsF x)) (avS (labelsF y))) _ else _) = _
  cases h1 : okName x
  · rfl
  cases h2 : okName y
  · rfl
  have l1 := labels_len (x := x)
  have l2 := labels_len (x := y)
  rw [p_same01 _ _ (by omega) (by omega)]
  simp only [Bool.and_self, cond_t, oB_s, Bool.true_and]
  have ly : (avS (splitW y).1).length = (labelsF y).length := by simp [avS, labelsF]
  rw [ly]
  congr 1
  rw [Bool.eq_iff_iff, beq_iff_eq, ← under_iff h1 h2, ← List.reverse_prefix, ← comm_all, List.length_reverse]
  omega
end Go.Proofs.YthhnnlipnpfkcaaDoor.Dn
