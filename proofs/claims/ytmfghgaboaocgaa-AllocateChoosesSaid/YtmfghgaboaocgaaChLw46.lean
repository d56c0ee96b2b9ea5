/- Tables of blocks: what ddiref46's Check and Find, and the program's Find, answer. -/
import Derived.Test.YtmfghgaboaocgaaChLw03w
import Derived.Test.YtmfghgaboaocgaaChLibD
set_option linter.all false
namespace Go.Proofs.Ytmfghgaboaocgaa.Dn
open Go Go.Pev
set_option linter.unusedVariables false
set_option linter.unusedSimpArgs false
set_option maxRecDepth 4000
def qvq (y : AV) : Prop := fitC qe y.cells = true ∧ uok (gI y.cells 1) ∧ uok (gI y.cells 2) ∧ (gS y.cells 5).length ≤ 9223372036854775807 ∧ (gS y.cells 6).length ≤ 9223372036854775807
def qcc (l : List AV) : Prop := l.length ≤ 9223372036854775807 ∧ ∀ y, y ∈ l → qvq y
def qb4l : Ty := .st [.bool, .int .u64, .int .u64]
def qb4m : Ty := .st [qb4l, .int .i64]
def qb3e : Ty := .st [qb4m, .int .i64, .str, .str, .int .i64]
theorem blksFit_of {l : List AV} (h : l.length ≤ 9223372036854775807 ∧ ∀ y, y ∈ l → fitC qb3e.lts y.cells = true ∧ qb3e.good y.cells 0) : qcc l :=
  ⟨h.1, fun y hy => by
    obtain ⟨h1, h2⟩ := h.2 y hy
    simp only [qb3e, qb4m, qb4l, Ty.good.goods, Ty.good, Ty.size, Ty.sizes, Nat.zero_add, Nat.reduceAdd, and_true, true_and] at h2
    obtain ⟨⟨⟨h3, h4⟩, h5⟩, h6, h7, h8, h9⟩ := h2
    exact ⟨h1, h3, h4, h7, h8⟩⟩
def qql (s : List UInt8) : Bool := s.all fun c => decide (33 ≤ c.toNat) && decide (c.toNat ≤ 126)
theorem qbp3 (s : List UInt8) (hs : s.length ≤ 9223372036854775807) : qho s = some (qql s) := by
  rw [qzd]; unfold qqt
  rw [quk, qqr s hs (qjw s fun _ => some true) (fun i nx => qff s i nx fun _ => some true) (fun _ _ => rfl) (fun r => some (qql r))]
  · intro nx; simp [qff, qql]
  · intro i y r nx h1 h2 h3 h4 h5
    have h6 : (i : Int) < (s.length : Int) := by omega
    unfold qff
    simp only [h6, decide_true, cond_t, ixB_nat, h2, oB_s, h4, h5, qql, List.all_cons]
    by_cases a1 : (y.toNat : Int) < 33
    · have : ¬ 33 ≤ y.toNat := by omega
      simp [a1, this]
    · have b1 : 33 ≤ y.toNat := by omega
      by_cases a2 : (y.toNat : Int) > 126
      · have : ¬ y.toNat ≤ 126 := by omega
        simp [a1, a2, this]
      · have b2 : y.toNat ≤ 126 := by omega
        simp only [a1, a2, b1, b2, decide_true, decide_false, cond_f, Bool.true_and]
def mayB (y : AV) : Bool :=
  bif (bif decide (gI y.cells 4 < 1) then true else bif decide (gI y.cells 4 > 3) then true else bif gI y.cells 4 == 3 then gI y.cells 3 != qn (gB y.cells 0) else false) then false
  else bif (decide (((gS y.cells 5).length : Int) ≥ 1) && decide (((gS y.cells 5).length : Int) ≤ 63)) then (bif (qql (gS y.cells 5) && decide (((gS y.cells 6).length : Int) ≤ 32)) then ((qql (gS y.cells 6) && decide (gI y.cells 7 ≥ 0)) && decide (gI y.cells 7 ≤ 4294967295)) else false) else false
theorem qr0 {α : Type} (p : Bool) (a b : α) : (bif p then some a else some b) = some (bif p then a else b) := by cases p <;> rfl
theorem qb6k (y : AV) (hy : qvq y) : qnc (gB y.cells 0) (gI y.cells 1) (gI y.cells 2) (gI y.cells 3) (gI y.cells 4) (gS y.cells 5) (gS y.cells 6) (gI y.cells 7) = some (mayB y) := by
  have hw : qpx (gB y.cells 0) (gI y.cells 1) (gI y.cells 2) (gI y.cells 3) = some (qn (gB y.cells 0)) := by
    rw [q6r]; unfold qyq qn; cases gB y.cells 0 <;> rfl
  rw [q98]; unfold q3j mayB
  simp only [q4v, qwl, qbp3 _ hy.2.2.2.1, qbp3 _ hy.2.2.2.2, hw, oB_s]
  cases decide (gI y.cells 4 < 1) <;> cases decide (gI y.cells 4 > 3) <;> cases (gI y.cells 4 == 3) <;> simp only [cond_t, cond_f, qr0]
def cmpA (v6 : Bool) (hi lo : Int) (w6 : Bool) (whi wlo : Int) : Int :=
  bif (!((v6 == w6) && true)) then (bif w6 then -1 else 1) else bif (hi != whi) then (bif decide (hi < whi) then -1 else 1) else bif decide (lo < wlo) then -1 else bif decide (lo > wlo) then 1 else 0
theorem qb7a (v6 : Bool) (hi lo : Int) (w6 : Bool) (whi wlo : Int) : qnd v6 hi lo w6 whi wlo = some (cmpA v6 hi lo w6 whi wlo) := by
  rw [q2i]; unfold qul cmpA
  simp only [qr0]
def cmpP (v6 : Bool) (hi lo bits : Int) (w6 : Bool) (whi wlo wbits : Int) : Int :=
  bif (cmpA v6 hi lo w6 whi wlo != 0) then cmpA v6 hi lo w6 whi wlo else bif decide (bits < wbits) then -1 else bif decide (bits > wbits) then 1 else 0
theorem qb4n (v6 : Bool) (hi lo bits : Int) (w6 : Bool) (whi wlo wbits : Int) : qkn v6 hi lo bits w6 whi wlo wbits = some (cmpP v6 hi lo bits w6 whi wlo wbits) := by
  rw [q2j]; unfold qun cmpP
  simp only [qb7a, oB_s, qr0]
def ltP (v6 : Bool) (hi lo bits : Int) (w6 : Bool) (whi wlo wbits : Int) : Prop :=
  (v6 = false ∧ w6 = true) ∨ (v6 = w6 ∧ (hi < whi ∨ (hi = whi ∧ (lo < wlo ∨ (lo = wlo ∧ bits < wbits)))))
theorem qb4o {a : Bool} {b c d : Int} {a' : Bool} {b' c' d' : Int} {a2 : Bool} {b2 c2 d2 : Int} (h1 : ltP a b c d a' b' c' d') (h2 : ltP a' b' c' d' a2 b2 c2 d2) : ltP a b c d a2 b2 c2 d2 := by
  unfold ltP at *
  rcases h1 with ⟨rfl, rfl⟩ | ⟨rfl, h1⟩
  · rcases h2 with ⟨h, _⟩ | ⟨rfl, _⟩
    · cases h
    · exact .inl ⟨rfl, rfl⟩
  · rcases h2 with ⟨rfl, rfl⟩ | ⟨rfl, h2⟩
    · exact .inl ⟨rfl, rfl⟩
    · exact .inr ⟨rfl, by omega⟩
theorem qo0 {a : Bool} {b c d : Int} : ¬ ltP a b c d a b c d := by
  unfold ltP
  rintro (⟨rfl, h⟩ | ⟨_, h⟩)
  · cases h
  · omega
def atP (v6 : Bool) (hi lo bits : Int) (y : AV) : Bool := (gB y.cells 0 == v6) && ((gI y.cells 1 == hi) && ((gI y.cells 2 == lo) && ((gI y.cells 3 == bits) && true)))
theorem qb7b {v6 : Bool} {hi lo bits : Int} {y : AV} : atP v6 hi lo bits y = true ↔ gB y.cells 0 = v6 ∧ gI y.cells 1 = hi ∧ gI y.cells 2 = lo ∧ gI y.cells 3 = bits := by simp [atP]
def ltY (y z : AV) : Prop := ltP (gB y.cells 0) (gI y.cells 1) (gI y.cells 2) (gI y.cells 3) (gB z.cells 0) (gI z.cells 1) (gI z.cells 2) (gI z.cells 3)
def qye (y : AV) : Bool := qdy (gB y.cells 0) (gI y.cells 1) (gI y.cells 2) (gI y.cells 3)
def qbwr (y z : AV) : Bool := qm9 (gB y.cells 0) (gI y.cells 1) (gI y.cells 2) (gI y.cells 3) (gB z.cells 0) (gI z.cells 1) (gI z.cells 2) (gI z.cells 3)
def qdf (y z : AV) : Bool := bif (qbwr y z && decide (gI y.cells 3 > gI z.cells 3)) then (bif gI z.cells 4 == 3 then true else bif gI z.cells 4 == 2 then gI y.cells 4 != 3 else false) else false
theorem qb0z (y z : AV) (hy : qvq y) : qii (gB y.cells 0) (gI y.cells 1) (gI y.cells 2) (gI y.cells 3) (gI y.cells 4) (gS y.cells 5) (gS y.cells 6) (gI y.cells 7) (gB z.cells 0) (gI z.cells 1) (gI z.cells 2) (gI z.cells 3) (gI z.cells 4) (gS z.cells 5) (gS z.cells 6) (gI z.cells 7) = some (qdf y z) := by
  rw [q4y]; unfold qwo qdf
  rw [q3l]; unfold qx7
  simp only [q5x _ _ _ _ _ _ _ _ hy.2.1 hy.2.2.1, oB_s, qr0]
  rfl
structure Row (l : List AV) (j : Nat) (y : AV) : Prop where
  p : qye y = true
  may : mayB y = true
  lt : ∀ i z, j = i + 1 → l[i]? = some z → ltY z y
  bar : ∀ k z, k < j → l[k]? = some z → qdf y z = false
def q4i (l : List AV) : Prop := ∀ j y, l[j]? = some y → Row l j y
def blkV (y : AV) : AV := .agg [(.bool (gB y.cells 0)), (.int .u64 (gI y.cells 1)), (.int .u64 (gI y.cells 2)), (.int .i64 (gI y.cells 3)), (.int .i64 (gI y.cells 4)), (.str (gS y.cells 5)), (.str (gS y.cells 6)), (.int .i64 (gI y.cells 7))]
def blk0 : AV := .agg [(.bool false), (.int .u64 0), (.int .u64 0), (.int .i64 0), (.int .i64 0), (.str []), (.str []), (.int .i64 0)]
def qt7 (l : List AV) (v6 : Bool) (hi lo bits : Int) : AV × Bool := match l.find? (atP v6 hi lo bits) with
  | some y => (blkV y, true)
  | none => (blk0, false)
theorem qbm8 (l : List AV) (hl : qcc l) (v6 : Bool) (hi lo bits : Int) : qje l v6 hi lo bits = some (qt7 l v6 hi lo bits) := by
  rw [q8c]; unfold q00
  show qne l v6 hi lo bits false 0 0 0 0 [] [] 0 (fun _ => some (blk0, false)) FU 0 = _
  rw [q2k, qqr l hl.1 (qoa l v6 hi lo bits false 0 0 0 0 [] [] 0 fun _ => some (blk0, false)) (fun i nx => qhp l i v6 hi lo bits false 0 0 0 0 [] [] 0 nx fun _ => some (blk0, false)) (fun _ _ => rfl) (fun r => some (qt7 r v6 hi lo bits))]
  · intro nx; simp [qhp, qt7]
  · intro i y r nx h1 h2 h3 h4 h5
    have hy := hl.2 y (List.mem_of_getElem? h2)
    have h6 : (i : Int) < (l.length : Int) := by omega
    unfold qhp
    simp only [h6, decide_true, cond_t, ixB_nat, h2, oB_s, hy.1, h4, h5, qt7, List.find?_cons]
    rw [show ((gB y.cells 0 == v6) && ((gI y.cells 1 == hi) && ((gI y.cells 2 == lo) && ((gI y.cells 3 == bits) && true)))) = atP v6 hi lo bits y from rfl]
    cases atP v6 hi lo bits y <;> rfl
def idxO (q : AV → Bool) : List AV → Option Nat
  | [] => none
  | y :: r => if q y then some 0 else (idxO q r).map (· + 1)
theorem qbmr {q : AV → Bool} : ∀ (l : List AV) (k : Nat), idxO q l = some k → ∃ y, l[k]? = some y ∧ l.find? q = some y
  | y :: r, k, h => by
    unfold idxO at h
    cases hq : q y with
    | true => simp [hq] at h; subst h; exact ⟨y, rfl, by simp [hq]⟩
    | false =>
      simp [hq] at h
      obtain ⟨k', h1, rfl⟩ := h
      obtain ⟨z, h2, h3⟩ := qbmr r k' h1
      exact ⟨z, by simpa using h2, by simp [hq, h3]⟩
theorem qbxt {q : AV → Bool} : ∀ (l : List AV), idxO q l = none → l.find? q = none
  | [], _ => rfl
  | y :: r, h => by
    unfold idxO at h
    cases hq : q y with
    | true => simp [hq] at h
    | false => simp [hq] at h; simp [List.find?_cons, hq]; simpa using qbxt r h
def idxI (q : AV → Bool) (l : List AV) : Int := match idxO q l with
  | some k => (k : Int)
  | none => -1
theorem qb00 (l : List AV) (hl : qcc l) (v6 : Bool) (hi lo bits : Int) : qps l v6 hi lo bits = some (idxI (atP v6 hi lo bits) l) := by
  rw [q93]; unfold q3c
  rw [qfb]; unfold qc7
  rw [qes]
  have key := qg7 l hl.1 (fun n i (s : Bool × Int × Int × Int) => qb7 l (l.length : Int) (fun b0_0 b0_1 b0_2 b0_3 => some (-1 : Int)) (fun v4q1 b0_0q2 b0_1q3 b0_2q4 b0_3q5 => some v4q1) n i s.1 s.2.1 s.2.2.1 s.2.2.2)
    (fun i s nx => qbh l (l.length : Int) i s.1 s.2.1 s.2.2.1 s.2.2.2 (fun a b c d e => nx a (b, c, d, e)) (fun b0_0 b0_1 b0_2 b0_3 => some (-1 : Int)) (fun v4q1 b0_0q2 b0_1q3 b0_2q4 b0_3q5 => some v4q1)) (fun _ _ _ => rfl)
    (fun i s => s = (v6, hi, lo, bits)) (fun r s => some (match idxO (atP v6 hi lo bits) r with | some k => ((l.length - r.length + k : Nat) : Int) | none => -1)) ?_ ?_ (v6, hi, lo, bits) FU rfl (qkg (by have := hl.1; omega))
  · refine key.trans ?_
    unfold idxI
    cases idxO (atP v6 hi lo bits) l <;> simp
  · intro s nx hs
    simp [qbh, idxO]
  · rintro i y r _ nx h1 h2 h3 h4 rfl h5
    have hy := hl.2 y (List.mem_of_getElem? h2)
    have h6 : (i : Int) < (l.length : Int) := by omega
    have hr : r.length = l.length - (i + 1) := by
      have := congrArg List.length h1
      simp at this
      omega
    unfold qbh
    simp only [h6, decide_true, cond_t, ixB_nat, h2, oB_s, hy.1, q6m, qyf, h4]
    rw [show ((gB y.cells 0 == v6) && ((gI y.cells 1 == hi) && ((gI y.cells 2 == lo) && ((gI y.cells 3 == bits) && true)))) = atP v6 hi lo bits y from rfl]
    unfold idxO
    cases hq : atP v6 hi lo bits y with
    | true =>
      simp
      omega
    | false =>
      simp only [cond_f, Bool.false_eq_true, if_false]
      rw [h5 _ rfl]
      cases idxO (atP v6 hi lo bits) r with
      | none => rfl
      | some k => simp; omega
theorem qbws (l : List AV) (hl : qcc l) (v6 : Bool) (hi lo bits : Int) : qo2 l v6 hi lo bits = some (qt7 l v6 hi lo bits) := by
  rw [qbbx]; unfold q5z qt7
  simp only [qb00 l hl, oB_s]
  unfold idxI
  cases hq : idxO (atP v6 hi lo bits) l with
  | none =>
    rw [qbxt l hq]
    rfl
  | some k =>
    obtain ⟨y, h1, h2⟩ := qbmr l k hq
    have hy := hl.2 y (List.mem_of_getElem? h1)
    have h3 : (k : Int) ≥ 0 := by omega
    rw [h2]
    simp only [h3, decide_true, cond_t, ixB_nat, h1, oB_s, hy.1]
    rfl
end Go.Proofs.Ytmfghgaboaocgaa.Dn
