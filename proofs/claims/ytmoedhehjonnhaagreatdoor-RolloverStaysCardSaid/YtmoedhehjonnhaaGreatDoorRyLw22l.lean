/- The laws RolloverChecks and RolloverRolls. -/
import Derived.Test.YtmoedhehjonnhaaGreatDoorRyLw22k
set_option linter.all false
namespace Go.Proofs.YtmoedhehjonnhaaGreatDoor.Dn
open Go Go.Pev
set_option linter.unusedVariables false
set_option linter.unusedSimpArgs false
set_option maxRecDepth 8000
theorem qbaz {y : AV} (h : fitC qc y.cells = true) : y = (mgOf y).av := by
  obtain ⟨x1, r1, e1, f1, g1⟩ := qi6 h
  obtain ⟨x2, r2, rfl, f2, g2⟩ := qi6 g1
  obtain ⟨x3, r3, rfl, f3, g3⟩ := qi6 g2
  obtain ⟨x4, r4, rfl, f4, g4⟩ := qi6 g3
  obtain ⟨x5, r5, rfl, f5, g5⟩ := qi6 g4
  obtain ⟨x6, r6, rfl, f6, g6⟩ := qi6 g5
  obtain ⟨x7, r7, rfl, f7, g7⟩ := qi6 g6
  have h8 := qbb3 g7
  subst h8
  have hy : y = .agg [x1, x2, x3, x4, x5, x6, x7] := by
    cases y <;> simp [AV.cells] at e1
    rw [e1]
  subst hy
  cases x1 <;> simp [fitL] at f1
  cases x2 <;> simp [fitL] at f2
  cases x3 <;> simp [fitL] at f3
  cases x4 <;> simp [fitL] at f4
  cases x5 <;> simp [fitL] at f5
  cases x6 <;> simp [fitL] at f6
  cases x7 <;> simp [fitL] at f7
  subst f3 f4 f5 f6 f7
  rfl
theorem q8t {l : List AV} (h : ∀ y, y ∈ l → fitC qc y.cells = true) : l = mgL (l.map mgOf) := by
  unfold mgL
  rw [List.map_map]
  refine ((List.map_congr_left fun y hy => ?_).trans (List.map_id l)).symm
  exact (qbaz (h y hy)).symm
end Go.Proofs.YtmoedhehjonnhaaGreatDoor.Dn
