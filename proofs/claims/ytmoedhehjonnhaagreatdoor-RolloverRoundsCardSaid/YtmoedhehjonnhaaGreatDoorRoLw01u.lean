/- Names: ddiref01's Labels and Under answer as_ the program's; loops with an index. -/
import Derived.Test.YtmoedhehjonnhaaGreatDoorRoLw01p
set_option linter.all false
namespace Go.Proofs.YtmoedhehjonnhaaGreatDoor.Dn
open Go Go.Pev
set_option linter.unusedVariables false
set_option linter.unusedSimpArgs false
set_option maxRecDepth 4000
theorem q5h {x : List UInt8} (h : qo0 x = true) : x = [46] ∧ q1f x = [] ∨ x ≠ [46] ∧ 2 ≤ x.length ∧ x.getLast? = some 46 ∧ qro true (spl [] x) = true ∧ q1f x = spl [] x := by
  unfold qo0 at h
  unfold q1f
  unfold q0h at h ⊢
  by_cases h1 : x = [46]
  · left; exact ⟨h1, by rw [if_pos h1]⟩
  · right
    rw [if_neg h1] at h ⊢
    split at h
    · rename_i h2
      rw [if_pos h2]
      have h3 := h2.1
      simp only [q0g, Bool.and_eq_true, decide_eq_true_eq, beq_iff_eq] at h3
      exact ⟨h1, h3.1.1, h3.2, h2.2, rfl⟩
    · cases h
end Go.Proofs.YtmoedhehjonnhaaGreatDoor.Dn
