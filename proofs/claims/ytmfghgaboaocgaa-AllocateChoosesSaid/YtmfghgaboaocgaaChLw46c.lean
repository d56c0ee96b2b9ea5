/- Check: the program's and the reference's are one. -/
import Derived.Test.YtmfghgaboaocgaaChLw46b
set_option linter.all false
namespace Go.Proofs.Ytmfghgaboaocgaa.Dn
open Go Go.Pev
set_option linter.unusedVariables false
set_option linter.unusedSimpArgs false
set_option maxRecDepth 4000
def qr1 (pre : List AV) (q : AV → Bool) : Bool := match pre.getLast? with
  | some x => q x
  | none => false
def q7u (pre : List AV) (y : AV) : Int :=
  bif !qye y then 3 else bif !mayB y then 1 else bif qr1 pre (fun x => decide (cmpY x y > 0)) then 7 else bif qr1 pre (fun x => samP x y) then 12 else bif pre.any (qdf y) then 24 else 0
def chkR : List AV → List AV → Int
  | _, [] => 0
  | pre, y :: r => bif q7u pre y != 0 then q7u pre y else chkR (pre ++ [y]) r
def q9h (l : List AV) : Int := bif decide ((l.length : Int) > 512) then 9 else chkR [] l
theorem qbu2 {pre : List AV} {y : AV} : q7u pre y = 0 ↔ qye y = true ∧ mayB y = true ∧ qr1 pre (fun x => decide (cmpY x y > 0)) = false ∧ qr1 pre (fun x => samP x y) = false ∧ pre.any (qdf y) = false := by
  unfold q7u
  cases qye y <;> cases mayB y <;> cases qr1 pre (fun x => decide (cmpY x y > 0)) <;> cases qr1 pre (fun x => samP x y) <;> cases pre.any (qdf y) <;> simp
theorem qbav {α : Type} {l : List α} {i : Nat} (h : i + 1 ≤ l.length) : (l.take (i + 1)).getLast? = l[i]? := by
  rw [List.getLast?_eq_getElem?]
  have : (l.take (i + 1)).length = i + 1 := by simp; omega
  rw [this, List.getElem?_take]
  simp
theorem qb5u {α : Type} {l r : List α} {a : α} {i : Nat} (h : l.drop i = a :: r) : l.length - (a :: r).length = i ∧ l.length - r.length = i + 1 := by
  have h1 := congrArg List.length h
  have h2 : i < l.length := by
    rcases Nat.lt_or_ge i l.length with h3 | h3
    · exact h3
    · rw [List.drop_of_length_le h3] at h; cases h
  simp at h1 ⊢
  omega
theorem qb4r {α : Type} {l : List α} {i : Nat} {a : α} (h : l[i]? = some a) : l.take (i + 1) = l.take i ++ [a] := by
  rw [List.take_add_one, h]; rfl
theorem qb4s (l : List AV) (hl : qcc l) : qp2 l = some (q9h l) := by
  rw [q6w]; unfold qyu q9h
  by_cases hlen : (l.length : Int) > 512
  · simp [hlen]
  · simp only [hlen, decide_false, cond_f]
    rw [qzk, qqr l hl.1 (fun n i => qmr l (fun _ => some 0) n i) (fun i nx => qgo l i nx fun _ => some 0) (fun _ _ => rfl) (fun r => some (chkR (l.take (l.length - r.length)) r))]
    · simp
    · intro nx; simp [qgo, chkR]
    · intro i y r nx h1 h2 h3 h4 h5
      have hy := hl.2 y (List.mem_of_getElem? h2)
      have h6 : (i : Int) < (l.length : Int) := by omega
      obtain ⟨e1, e2⟩ := qb5u h1
      rw [e1]
      have inner : qlg l (i : Int) (fun _ => nx (IntKind.i64.wrap ((i : Int) + 1))) FU 0 = bif (l.take i).any (qdf y) then some 24 else nx ((i + 1 : Nat) : Int) := by
        have hti : (l.take i).length = i := by simp; omega
        rw [qzj, qqr (l.take i) (by have := hl.1; omega) (qmq l (i : Int) fun _ => nx (IntKind.i64.wrap ((i : Int) + 1))) (fun k nx' => qgm l (i : Int) k nx' fun _ => nx (IntKind.i64.wrap ((i : Int) + 1))) (fun _ _ => rfl) (fun r => bif r.any (qdf y) then some 24 else nx ((i + 1 : Nat) : Int))]
        · intro nx'
          unfold qgm
          rw [hti]
          simp [h4]
        · intro k z r nx' g1 g2 g3 g4 g5
          have g6 : (k : Int) < (i : Int) := by omega
          have g7 : l[k]? = some z := by rw [List.getElem?_take] at g2; split at g2; exact g2; cases g2
          have hz := hl.2 z (List.mem_of_getElem? g7)
          unfold qgm
          simp only [g6, decide_true, cond_t, ixB_nat, h2, g7, oB_s, hy.1, hz.1, qb0z y z hy, g4, g5, List.any_cons]
          cases qdf y z <;> simp
      unfold qgo chkR
      simp only [h6, decide_true, cond_t, ixB_nat, h2, oB_s, hy.1, q0d, qb6k y hy, inner, h5]
      rw [show l.take i ++ [y] = l.take (l.length - r.length) by rw [e2]; exact (qb4r h2).symm]
      rw [show qdy (gB y.cells 0) (gI y.cells 1) (gI y.cells 2) (gI y.cells 3) = qye y from rfl]
      have fin : (bif (l.take i).any (qdf y) then some (24 : Int) else some (chkR (l.take (l.length - r.length)) r)) = some (bif ((bif (l.take i).any (qdf y) then (24 : Int) else 0) != 0) then (bif (l.take i).any (qdf y) then (24 : Int) else 0) else chkR (l.take (l.length - r.length)) r) := by
        cases (l.take i).any (qdf y) <;> simp
      unfold q7u
      cases qye y with
      | false => simp
      | true =>
        cases mayB y with
        | false => simp
        | true =>
          simp only [Bool.not_true, cond_f, qzg, qqx, qzi, qqy]
          cases i with
          | zero =>
            have e0 : ∀ q, qr1 (l.take 0) q = false := fun q => by simp [qr1]
            simp only [e0, cond_f, Int.natCast_zero, Int.lt_irrefl, gt_iff_lt, decide_false]
            exact fin
          | succ i =>
            have hpos : ((i + 1 : Nat) : Int) > 0 := by omega
            have hw : IntKind.i64.wrap (((i + 1 : Nat) : Int) - 1) = (i : Int) := by rw [w64 (by omega) (by have := hl.1; omega)]; omega
            obtain ⟨x, hx⟩ : ∃ x, l[i]? = some x := ⟨l[i], by simp⟩
            have hxf := hl.2 x (List.mem_of_getElem? hx)
            have e0 : ∀ q, qr1 (l.take (i + 1)) q = q x := fun q => by unfold qr1; rw [qbav (by omega), hx]
            simp only [hpos, decide_true, cond_t, hw, ixB_nat, hx, h2, oB_s, hxf.1, hy.1, qb4n, e0]
            rw [show cmpP (gB x.cells 0) (gI x.cells 1) (gI x.cells 2) (gI x.cells 3) (gB y.cells 0) (gI y.cells 1) (gI y.cells 2) (gI y.cells 3) = cmpY x y from rfl]
            rw [show ((gB x.cells 0 == gB y.cells 0) && ((gI x.cells 1 == gI y.cells 1) && ((gI x.cells 2 == gI y.cells 2) && ((gI x.cells 3 == gI y.cells 3) && true)))) = samP x y from rfl]
            cases decide (cmpY x y > 0) with
            | true => simp
            | false =>
              cases samP x y with
              | true => simp
              | false =>
                simp only [cond_f]
                exact fin
theorem qbxw : ∀ (r pre : List AV), chkR pre r = 0 ↔ ∀ (i : Nat) (y : AV), r[i]? = some y → q7u (pre ++ r.take i) y = 0
  | [], pre => by simp [chkR]
  | y :: r, pre => by
    unfold chkR
    by_cases he : q7u pre y = 0
    · have he2 : (q7u pre y != 0) = false := by simpa using he
      rw [he2, cond_f, qbxw r (pre ++ [y])]
      constructor
      · intro h i z hz
        cases i with
        | zero => simp at hz; subst hz; simpa using he
        | succ i =>
          have := h i z (by simpa using hz)
          simpa using this
      · intro h i z hz
        have := h (i + 1) z (by simpa using hz)
        simpa using this
    · have he2 : (q7u pre y != 0) = true := by simpa using he
      rw [he2, cond_t]
      constructor
      · intro h; exact absurd h he
      · intro h; exact absurd (by simpa using h 0 y rfl) he
theorem qbxx {l : List AV} (hlen : l.length ≤ 512) : q9h l = 0 ↔ q4i l := by
  unfold q9h
  have h0 : ¬ (l.length : Int) > 512 := by omega
  simp only [h0, decide_false, cond_f]
  rw [qbxw]
  simp only [List.nil_append]
  have hs : ∀ x y : AV, (cmpY x y > 0 ∨ samP x y = true) ↔ ¬ ltY x y := fun x y => by
    obtain ⟨_, _, s3⟩ := qb4q x y
    rw [qb5s, ← s3]
    omega
  constructor
  · intro h j y hy
    obtain ⟨h1, h2, h3, h4, h5⟩ := qbu2.1 (h j y hy)
    have hjl : j < l.length := (List.getElem?_eq_some_iff.1 hy).1
    refine ⟨h1, h2, fun i z hj hz => ?_, fun k z hk hz => ?_⟩
    · subst hj
      unfold qr1 at h3 h4
      rw [qbav (by omega), hz] at h3 h4
      simp only [decide_eq_false_iff_not] at h3
      apply Classical.byContradiction
      intro hn
      rcases (hs z y).2 hn with h | h
      · exact h3 h
      · have h4' : samP z y = false := h4
        rw [h] at h4'; cases h4'
    · rw [List.any_eq_false] at h5
      have := h5 z (List.mem_of_getElem? (i := k) (by rw [List.getElem?_take, if_pos hk]; exact hz))
      simpa using this
  · intro h j y hy
    have hr := h j y hy
    have hjl : j < l.length := (List.getElem?_eq_some_iff.1 hy).1
    refine qbu2.2 ⟨hr.p, hr.may, ?_, ?_, ?_⟩
    · cases j with
      | zero => simp [qr1]
      | succ i =>
        obtain ⟨x, hx⟩ : ∃ x, l[i]? = some x := ⟨l[i], by simp⟩
        unfold qr1
        rw [qbav (by omega), hx]
        simp only [decide_eq_false_iff_not]
        exact fun hc => (hs x y).1 (.inl hc) (hr.lt i x rfl hx)
    · cases j with
      | zero => simp [qr1]
      | succ i =>
        obtain ⟨x, hx⟩ : ∃ x, l[i]? = some x := ⟨l[i], by simp⟩
        unfold qr1
        rw [qbav (by omega), hx]
        simp only
        rw [Bool.eq_false_iff]
        exact fun hc => (hs x y).1 (.inr hc) (hr.lt i x rfl hx)
    · rw [List.any_eq_false]
      intro z hz
      obtain ⟨k, hk⟩ := List.getElem?_of_mem hz
      rw [List.getElem?_take] at hk
      split at hk
      · rename_i hkj
        have := hr.bar k z hkj hk
        simp [this]
      · cases hk
end Go.Proofs.Ytmfghgaboaocgaa.Dn
