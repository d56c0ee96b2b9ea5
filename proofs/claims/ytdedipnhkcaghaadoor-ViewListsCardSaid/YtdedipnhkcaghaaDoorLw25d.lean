/- Views: the law ViewLists. -/
import Derived.Test.YtdedipnhkcaghaaDoorLw25c
set_option linter.all false
namespace Go.Proofs.YtdedipnhkcaghaaDoor.Dn
open Go Go.Pev
set_option linter.unusedVariables false
set_option linter.unusedSimpArgs false
set_option maxRecDepth 4000

def yesB (v6 : Bool) (hi lo : Int) (y : AV) : Bool := !(gB y.cells 5) && hitB y v6 hi lo
theorem matchF_cons (v6 : Bool) (hi lo : Int) (y : AV) (r : List AV) : matchF v6 hi lo (y :: r) = bif gB y.cells 4 || contF (gB y.cells 0) (gI y.cells 1) (gI y.cells 2) (gI y.cells 3) v6 hi lo then !(gB y.cells 5) else matchF v6 hi lo r := rfl
theorem match_any (v6 : Bool) (hi lo : Int) : ∀ l : List AV, matchF v6 hi lo l = true → l.any (yesB v6 hi lo) = true
  | [], h => by simp [matchF] at h
  | y :: r, h => by
    unfold matchF at h
    rw [List.any_cons]
    unfold yesB
    cases hh : hitB y v6 hi lo
    · rw [hh] at h
      have h' : matchF v6 hi lo r = true := h
      have := match_any v6 hi lo r h'
      unfold yesB at this
      rw [this]; simp
    · rw [hh] at h
      have h' : (!(gB y.cells 5)) = true := h
      rw [h']; rfl
theorem p_L34 (l : List AV) (hl : matchesFit l) (w : Bool) (v6 : Bool) (hi lo : Int) (kx : Bool → Option Bool) : ddilaw25_ViewLists_L34 w l (l.length : Int) v6 hi lo kx FU false 0 = kx (l.any (yesB v6 hi lo)) := by
  rw [ddilaw25_ViewLists_L34_eq]
  have key := for_list l hl.1 (fun n i s => ddilaw25_ViewLists_L34_i w l (l.length : Int) v6 hi lo kx n s i) (fun i s nx => ddilaw25_ViewLists_L34_b w s l (l.length : Int) i v6 hi lo (fun a b => nx b a) kx) (fun _ _ _ => rfl)
    (fun _ _ => True) (fun r s => kx (s || r.any (yesB v6 hi lo))) ?_ ?_ false FU trivial (FU_big (by have := hl.1; omega))
  · simpa using key
  · intro s nx _; simp [ddilaw25_ViewLists_L34_b]
  · intro i y r s nx h1 h2 h3 h4 _ h5
    have hy := hl.2 y (List.mem_of_getElem? h2)
    have h6 : (i : Int) < (l.length : Int) := by omega
    unfold ddilaw25_ViewLists_L34_b
    simp only [h6, decide_true, cond_t, ddilaw25_ViewLists_J42_eq, ddilaw25_ViewLists_J42_i, ixB_nat, h2, oB_s, hy, p_pContains, h4, h5 _ trivial, List.any_cons]
    unfold yesB hitB
    cases s
    · cases gB y.cells 5
      · cases gB y.cells 4 <;> rfl
      · rfl
    · rfl
theorem law_ViewLists (l : List AV) (hl : matchesFit l) (v6 : Bool) (hi lo : Int) : ddilaw25_ViewLists l v6 hi lo = some true := by
  rw [ddilaw25_ViewLists_eq]; unfold ddilaw25_ViewLists_i
  have hf := matchesFit_take hl 70
  simp only [cut_min _ 70 70 rfl, oB_s, p_vMatch _ hf]
  generalize l.take 70 = L at hf
  cases L with
  | nil =>
    simp [ddilaw25_ViewLists_J9_eq, ddilaw25_ViewLists_J9_i, p_vMatch _ matchesFit_nil, matchF, p_awake]
  | cons y r =>
    have hr : matchesFit r := ⟨by have := hf.1; simp at this; omega, fun z hz => hf.2 z (List.mem_cons_of_mem _ hz)⟩
    have hy := hf.2 y List.mem_cons_self
    have e0 : ((((y :: r).length : Nat) : Int) == 0) = false := by simp; omega
    have e1 : cutI (y :: r) (some 1) none = some r := by
      unfold cutI
      simp only [Option.getD_none, Option.getD_some]
      rw [if_pos ⟨by omega, by simp; omega, by omega⟩]
      simp
    simp only [e0, cond_f, e1, oB_s, p_vMatch _ hr, ddilaw25_ViewLists_J15_eq, ddilaw25_ViewLists_J15_i, ddilaw25_ViewLists_J16_eq, ddilaw25_ViewLists_J16_i, ixB_zero, List.getElem?_cons_zero, hy, cond_t, p_pContains, p_L34 _ hf, p_awake]
    have hany := match_any v6 hi lo (y :: r)
    rw [matchF_cons] at hany
    simp only [matchF_cons]
    generalize (y :: r).any (yesB v6 hi lo) = A at hany
    cases h4 : gB y.cells 4
    · cases hc : contF (gB y.cells 0) (gI y.cells 1) (gI y.cells 2) (gI y.cells 3) v6 hi lo
      · simp only [h4, hc, Bool.or_self, cond_f] at hany
        cases hm : matchF v6 hi lo r
        · cases A <;> simp
        · rw [hany hm]; simp
      · simp only [h4, hc, Bool.or_true, cond_t] at hany
        cases hm : gB y.cells 5
        · rw [hany (by rw [hm]; rfl)]; simp
        · cases A <;> simp
    · simp only [h4, Bool.true_or, cond_t] at hany
      cases hm : gB y.cells 5
      · rw [hany (by rw [hm]; rfl)]; simp
      · cases A <;> simp
end Go.Proofs.YtdedipnhkcaghaaDoor.Dn
