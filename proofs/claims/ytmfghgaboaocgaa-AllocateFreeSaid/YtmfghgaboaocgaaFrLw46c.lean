/- Check: the program's and the reference's are one. -/
import Derived.Test.YtmfghgaboaocgaaFrLw46b
set_option linter.all false
namespace Go.Proofs.Ytmfghgaboaocgaa.Dn
open Go Go.Pev
set_option linter.unusedVariables false
set_option linter.unusedSimpArgs false
set_option maxRecDepth 4000
theorem qbol {α : Type} (l : List α) (i : Nat) (h : i ≤ l.length) : cutI l none (some (i : Int)) = some (l.take i) := by
  unfold cutI
  simp only [Option.getD_none, Option.getD_some, Int.toNat_natCast]
  rw [if_pos ⟨by omega, by omega, by omega⟩]
  simp
def qoc (pre : List AV) (q : AV → Bool) : Bool := match pre.getLast? with
  | some x => q x
  | none => false
def qw3 (pre : List AV) (y : AV) : Int :=
  bif !qpu y then 3 else bif !mayB y then 1 else bif qoc pre (fun x => decide (cmpY x y > 0)) then 7 else bif qoc pre (fun x => samP x y) then 12 else bif pre.any (qda y) then 24 else 0
def chkR : List AV → List AV → Int
  | _, [] => 0
  | pre, y :: r => bif qw3 pre y != 0 then qw3 pre y else chkR (pre ++ [y]) r
def qx8 (l : List AV) : Int := bif decide ((l.length : Int) > 512) then 9 else chkR [] l
theorem qbfb {pre : List AV} {y : AV} : qw3 pre y = 0 ↔ qpu y = true ∧ mayB y = true ∧ qoc pre (fun x => decide (cmpY x y > 0)) = false ∧ qoc pre (fun x => samP x y) = false ∧ pre.any (qda y) = false := by
  unfold qw3
  cases qpu y <;> cases mayB y <;> cases qoc pre (fun x => decide (cmpY x y > 0)) <;> cases qoc pre (fun x => samP x y) <;> cases pre.any (qda y) <;> simp
theorem q1s {α : Type} {l : List α} {i : Nat} (h : i + 1 ≤ l.length) : (l.take (i + 1)).getLast? = l[i]? := by
  rw [List.getLast?_eq_getElem?]
  have : (l.take (i + 1)).length = i + 1 := by simp; omega
  rw [this, List.getElem?_take]
  simp
theorem qbpm {α : Type} {l r : List α} {a : α} {i : Nat} (h : l.drop i = a :: r) : l.length - (a :: r).length = i ∧ l.length - r.length = i + 1 := by
  have h1 := congrArg List.length h
  have h2 : i < l.length := by
    rcases Nat.lt_or_ge i l.length with h3 | h3
    · exact h3
    · rw [List.drop_of_length_le h3] at h; cases h
  simp at h1 ⊢
  omega
theorem qbhz {α : Type} {l : List α} {i : Nat} {a : α} (h : l[i]? = some a) : l.take (i + 1) = l.take i ++ [a] := by
  rw [List.take_add_one, h]; rfl
theorem qbk0 (l : List AV) (hl : qc4 l) : qmv l = some (qx8 l) := by
  rw [q1b]; unfold qwd qx8
  by_cases hlen : (l.length : Int) > 512
  · simp [hlen]
  · simp only [hlen, decide_false, cond_f]
    rw [qvx]
    have key := qkl (σ := Unit) l hl.1 (fun n i _ => ql0 l l (l.length : Int) (fun _ => some 0) n i) (fun i _ nx => qgu l l (l.length : Int) i (fun j => nx j ()) fun _ => some 0) (fun _ _ _ => rfl)
      (fun i _ => ∀ z, z ∈ l.take i → mayB z = true) (fun r _ => some (chkR (l.take (l.length - r.length)) r)) ?_ ?_ () FU (by simp) (qou (by have := hl.1; omega))
    · simpa using key
    · intro _ nx _; simp [qgu, chkR]
    · rintro i y r _ nx h1 h2 h3 h4 hJ h5
      have hy := hl.2 y (List.mem_of_getElem? h2)
      have h6 : (i : Int) < (l.length : Int) := by omega
      obtain ⟨e1, e2⟩ := qbpm h1
      have hti : qc4 (l.take i) := ⟨by have := hl.1; simp; omega, fun z hz => hl.2 z (List.mem_of_mem_take hz)⟩
      have hmis : (l.take i).any (misY y) = (l.take i).any (qda y) := by
        rw [Bool.eq_iff_iff, List.any_eq_true, List.any_eq_true]
        constructor <;> (rintro ⟨z, hz, hb⟩; refine ⟨z, hz, ?_⟩; simpa [qbmg (hJ z hz)] using hb)
      rw [e1]
      unfold qgu chkR
      simp only [h6, decide_true, cond_t, ixB_nat, h2, oB_s, hy.1, qbmf y hy, h4, qbol l i (by omega), qbbm _ hti, hmis]
      rw [show l.take i ++ [y] = l.take (l.length - r.length) by rw [e2]; exact (qbhz h2).symm]
      -- behind the block by itself
      by_cases hf : qvc y = 0
      · have hf2 : (qvc y != 0) = false := by simpa using hf
        have hpm : qpu y = true ∧ mayB y = true := by
          unfold qvc at hf
          cases hp : qpu y <;> cases hm : mayB y <;> simp [hp, hm] at hf ⊢
        have hnx : nx ((i + 1 : Nat) : Int) () = some (chkR (l.take (l.length - r.length)) r) := by
          refine h5 () fun z hz => ?_
          rw [qbhz h2] at hz
          rcases List.mem_append.1 hz with hz | hz
          · exact hJ z hz
          · simp at hz; subst hz; exact hpm.2
        simp only [hf2, cond_f, hnx]
        have fin : (bif (l.take i).any (qda y) then some (24 : Int) else some (chkR (l.take (l.length - r.length)) r)) = some (bif ((bif (l.take i).any (qda y) then (24 : Int) else 0) != 0) then (bif (l.take i).any (qda y) then (24 : Int) else 0) else chkR (l.take (l.length - r.length)) r) := by
          cases (l.take i).any (qda y) <;> simp
        rw [qvw]; unfold qqv qw3
        simp only [hpm.1, hpm.2, Bool.not_true, cond_f]
        cases i with
        | zero =>
          have e0 : ∀ q, qoc (l.take 0) q = false := fun q => by simp [qoc]
          simp only [e0, cond_f, Int.natCast_zero, Int.lt_irrefl, gt_iff_lt, decide_false]
          exact fin
        | succ i =>
          have hpos : ((i + 1 : Nat) : Int) > 0 := by omega
          have hw : IntKind.i64.wrap (((i + 1 : Nat) : Int) - 1) = (i : Int) := by rw [w64 (by omega) (by have := hl.1; omega)]; omega
          obtain ⟨x, hx⟩ : ∃ x, l[i]? = some x := ⟨l[i], by simp⟩
          have hxf := hl.2 x (List.mem_of_getElem? hx)
          have e0 : ∀ q, qoc (l.take (i + 1)) q = q x := fun q => by unfold qoc; rw [q1s (by omega), hx]
          simp only [hpos, decide_true, cond_t, hw, ixB_nat, hx, oB_s, hxf.1, qbok, e0]
          obtain ⟨s1, s2, s3⟩ := qx7 x y
          rw [show cmpP (gB y.cells 0) (gI y.cells 1) (gI y.cells 2) (gI y.cells 3) (gB x.cells 0) (gI x.cells 1) (gI x.cells 2) (gI x.cells 3) = cmpY y x from rfl]
          by_cases hc : cmpY y x < 0
          · have hc2 := s1.2 hc
            simp [hc, hc2]
          · have hc2 : ¬ cmpY x y > 0 := fun h => hc (s1.1 h)
            simp only [hc, hc2, decide_false, cond_f]
            by_cases hq : cmpY y x = 0
            · have hs : samP x y = true := q5e.2 (s2.2 hq)
              simp [hq, hs]
            · have hs : samP x y = false := by
                rw [Bool.eq_false_iff]; exact fun h => hq (s2.1 (q5e.1 h))
              have hq2 : (cmpY y x == 0) = false := by simpa using hq
              simp only [hq2, hs, cond_f]
              exact fin
      · have hf2 : (qvc y != 0) = true := by simpa using hf
        simp only [hf2, cond_t]
        unfold qw3
        unfold qvc at hf ⊢
        cases hp : qpu y <;> cases hm : mayB y <;> simp [hp, hm] at hf ⊢
theorem qbh0 : ∀ (r pre : List AV), chkR pre r = 0 ↔ ∀ (i : Nat) (y : AV), r[i]? = some y → qw3 (pre ++ r.take i) y = 0
  | [], pre => by simp [chkR]
  | y :: r, pre => by
    unfold chkR
    by_cases he : qw3 pre y = 0
    · have he2 : (qw3 pre y != 0) = false := by simpa using he
      rw [he2, cond_f, qbh0 r (pre ++ [y])]
      constructor
      · intro h i z hz
        cases i with
        | zero => simp at hz; subst hz; simpa using he
        | succ i =>
          have := h i z (by simpa using hz)
          simpa using this
      · intro h i z hz
        have := h (i + 1) z (by simpa using hz)
        simpa using this
    · have he2 : (qw3 pre y != 0) = true := by simpa using he
      rw [he2, cond_t]
      constructor
      · intro h; exact absurd h he
      · intro h; exact absurd (by simpa using h 0 y rfl) he
theorem q9b {l : List AV} (hlen : l.length ≤ 512) : qx8 l = 0 ↔ qg2 l := by
  unfold qx8
  have h0 : ¬ (l.length : Int) > 512 := by omega
  simp only [h0, decide_false, cond_f]
  rw [qbh0]
  simp only [List.nil_append]
  have hs : ∀ x y : AV, (cmpY x y > 0 ∨ samP x y = true) ↔ ¬ ltY x y := fun x y => by
    obtain ⟨_, _, s3⟩ := qx7 x y
    rw [q5e, ← s3]
    omega
  constructor
  · intro h j y hy
    obtain ⟨h1, h2, h3, h4, h5⟩ := qbfb.1 (h j y hy)
    have hjl : j < l.length := (List.getElem?_eq_some_iff.1 hy).1
    refine ⟨h1, h2, fun i z hj hz => ?_, fun k z hk hz => ?_⟩
    · subst hj
      unfold qoc at h3 h4
      rw [q1s (by omega), hz] at h3 h4
      simp only [decide_eq_false_iff_not] at h3
      apply Classical.byContradiction
      intro hn
      rcases (hs z y).2 hn with h | h
      · exact h3 h
      · have h4' : samP z y = false := h4
        rw [h] at h4'; cases h4'
    · rw [List.any_eq_false] at h5
      have := h5 z (List.mem_of_getElem? (i := k) (by rw [List.getElem?_take, if_pos hk]; exact hz))
      simpa using this
  · intro h j y hy
    have hr := h j y hy
    have hjl : j < l.length := (List.getElem?_eq_some_iff.1 hy).1
    refine qbfb.2 ⟨hr.p, hr.may, ?_, ?_, ?_⟩
    · cases j with
      | zero => simp [qoc]
      | succ i =>
        obtain ⟨x, hx⟩ : ∃ x, l[i]? = some x := ⟨l[i], by simp⟩
        unfold qoc
        rw [q1s (by omega), hx]
        simp only [decide_eq_false_iff_not]
        exact fun hc => (hs x y).1 (.inl hc) (hr.lt i x rfl hx)
    · cases j with
      | zero => simp [qoc]
      | succ i =>
        obtain ⟨x, hx⟩ : ∃ x, l[i]? = some x := ⟨l[i], by simp⟩
        unfold qoc
        rw [q1s (by omega), hx]
        simp only
        rw [Bool.eq_false_iff]
        exact fun hc => (hs x y).1 (.inr hc) (hr.lt i x rfl hx)
    · rw [List.any_eq_false]
      intro z hz
      obtain ⟨k, hk⟩ := List.getElem?_of_mem hz
      rw [List.getElem?_take] at hk
      split at hk
      · rename_i hkj
        have := hr.bar k z hkj hk
        simp [this]
      · cases hk
end Go.Proofs.Ytmfghgaboaocgaa.Dn
