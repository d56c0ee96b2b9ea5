/- Names: ddiref01's Labels and Under answer as_ the program's; loops with an index. -/
import Derived.Test.YtmoedhehjonnhaaGreatDoorRtLw01p
set_option linter.all false
namespace Go.Proofs.YtmoedhehjonnhaaGreatDoor.Dn
open Go Go.Pev
set_option linter.unusedVariables false
set_option linter.unusedSimpArgs false
set_option maxRecDepth 4000
theorem qjt {l : LT} {ls : List LT} {cs : List AV} (h : fitC (l :: ls) cs = true) : ∃ x r, cs = x :: r ∧ fitL l x = true ∧ fitC ls r = true := by
  cases cs with
  | nil => simp [fitC] at h
  | cons x r =>
    simp only [fitC] at h
    cases hl : fitL l x
    · rw [hl] at h; cases h
    · rw [hl] at h; exact ⟨x, r, rfl, hl, h⟩
theorem qbc4 {cs : List AV} (h : fitC [] cs = true) : cs = [] := by
  cases cs with
  | nil => rfl
  | cons x r => simp [fitC] at h
theorem q69 {x : List UInt8} (h : qqf x = true) : x = [46] ∧ q21 x = [] ∨ x ≠ [46] ∧ 2 ≤ x.length ∧ x.getLast? = some 46 ∧ qs5 true (spl [] x) = true ∧ q21 x = spl [] x := by
  unfold qqf at h
  unfold q21
  unfold q1y at h ⊢
  by_cases h1 : x = [46]
  · left; exact ⟨h1, by rw [if_pos h1]⟩
  · right
    rw [if_neg h1] at h ⊢
    split at h
    · rename_i h2
      rw [if_pos h2]
      have h3 := h2.1
      simp only [q1x, Bool.and_eq_true, decide_eq_true_eq, beq_iff_eq] at h3
      exact ⟨h1, h3.1.1, h3.2, h2.2, rfl⟩
    · cases h
end Go.Proofs.YtmoedhehjonnhaaGreatDoor.Dn
