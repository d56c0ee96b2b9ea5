/- Names: ddiref01's Labels and Under answer as_ the program's; loops with an index. -/
import Derived.Test.YtmoedhehjonnhaaGreatDoorRyLw01p
set_option linter.all false
namespace Go.Proofs.YtmoedhehjonnhaaGreatDoor.Dn
open Go Go.Pev
set_option linter.unusedVariables false
set_option linter.unusedSimpArgs false
set_option maxRecDepth 4000
theorem qi6 {l : LT} {ls : List LT} {cs : List AV} (h : fitC (l :: ls) cs = true) : ∃ x r, cs = x :: r ∧ fitL l x = true ∧ fitC ls r = true := by
  cases cs with
  | nil => simp [fitC] at h
  | cons x r =>
    simp only [fitC] at h
    cases hl : fitL l x
    · rw [hl] at h; cases h
    · rw [hl] at h; exact ⟨x, r, rfl, hl, h⟩
theorem qbb3 {cs : List AV} (h : fitC [] cs = true) : cs = [] := by
  cases cs with
  | nil => rfl
  | cons x r => simp [fitC] at h
theorem q6d {x : List UInt8} (h : qpp x = true) : x = [46] ∧ q2d x = [] ∨ x ≠ [46] ∧ 2 ≤ x.length ∧ x.getLast? = some 46 ∧ qsi true (spl [] x) = true ∧ q2d x = spl [] x := by
  unfold qpp at h
  unfold q2d
  unfold q1d at h ⊢
  by_cases h1 : x = [46]
  · left; exact ⟨h1, by rw [if_pos h1]⟩
  · right
    rw [if_neg h1] at h ⊢
    split at h
    · rename_i h2
      rw [if_pos h2]
      have h3 := h2.1
      simp only [q1c, Bool.and_eq_true, decide_eq_true_eq, beq_iff_eq] at h3
      exact ⟨h1, h3.1.1, h3.2, h2.2, rfl⟩
    · cases h
end Go.Proofs.YtmoedhehjonnhaaGreatDoor.Dn
