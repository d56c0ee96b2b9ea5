/- Safe tells of all pairs of times. -/
import Derived.Test.YtmoedhehjonnhaaGreatDoorRyLw22k
set_option linter.all false
namespace Go.Proofs.YtmoedhehjonnhaaGreatDoor.Dn
open Go Go.Pev
set_option linter.unusedVariables false
set_option linter.unusedSimpArgs false
set_option maxRecDepth 8000
def qgr (L : List Mg) : List Int := L.flatMap Mg.ts
def Same (L : List Mg) (t s : Int) : Prop := ∀ x, x ∈ qgr L → (x ≤ t ↔ x ≤ s)
theorem qba0 {L : List Mg} {e : Mg} (he : e ∈ L) : e.p ∈ qgr L ∧ e.a ∈ qgr L ∧ e.r ∈ qgr L ∧ e.m ∈ qgr L := by
  unfold qgr
  simp only [List.mem_flatMap]
  exact ⟨⟨e, he, by simp [Mg.ts]⟩, ⟨e, he, by simp [Mg.ts]⟩, ⟨e, he, by simp [Mg.ts]⟩, ⟨e, he, by simp [Mg.ts]⟩⟩
theorem Same.sig {L : List Mg} {t s : Int} (h : Same L t s) {e : Mg} (he : e ∈ L) : mSig e t = mSig e s := by
  obtain ⟨h1, h2, h3, h4⟩ := qba0 he
  have ha := h _ h2
  have hr := h _ h3
  unfold mSig
  rw [Bool.eq_iff_iff]
  simp only [Bool.and_eq_true, decide_eq_true_eq]
  omega
theorem Same.pub {L : List Mg} {t s : Int} (h : Same L t s) {e : Mg} (he : e ∈ L) : mPub e t = mPub e s := by
  obtain ⟨h1, h2, h3, h4⟩ := qba0 he
  have ha := h _ h1
  have hr := h _ h4
  unfold mPub
  rw [Bool.eq_iff_iff]
  simp only [Bool.and_eq_true, decide_eq_true_eq]
  omega
end Go.Proofs.YtmoedhehjonnhaaGreatDoor.Dn
