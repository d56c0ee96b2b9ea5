/- The laws RolloverChecks and RolloverRolls. -/
import Derived.Test.YtmoedhehjonnhaaGreatDoorRcLw22k
set_option linter.all false
namespace Go.Proofs.YtmoedhehjonnhaaGreatDoor.Dn
open Go Go.Pev
set_option linter.unusedVariables false
set_option linter.unusedSimpArgs false
set_option maxRecDepth 8000
theorem qbkw {y : AV} (h : fitC qb y.cells = true) : y = (mgOf y).av := by
  obtain ⟨x1, r1, e1, f1, g1⟩ := qlw h
  obtain ⟨x2, r2, rfl, f2, g2⟩ := qlw g1
  obtain ⟨x3, r3, rfl, f3, g3⟩ := qlw g2
  obtain ⟨x4, r4, rfl, f4, g4⟩ := qlw g3
  obtain ⟨x5, r5, rfl, f5, g5⟩ := qlw g4
  obtain ⟨x6, r6, rfl, f6, g6⟩ := qlw g5
  obtain ⟨x7, r7, rfl, f7, g7⟩ := qlw g6
  have h8 := qbl0 g7
  subst h8
  have hy : y = .agg [x1, x2, x3, x4, x5, x6, x7] := by
    cases y <;> simp [AV.cells] at e1
    rw [e1]
  subst hy
  cases x1 <;> simp [fitL] at f1
  cases x2 <;> simp [fitL] at f2
  cases x3 <;> simp [fitL] at f3
  cases x4 <;> simp [fitL] at f4
  cases x5 <;> simp [fitL] at f5
  cases x6 <;> simp [fitL] at f6
  cases x7 <;> simp [fitL] at f7
  subst f3 f4 f5 f6 f7
  rfl
theorem qbii {l : List AV} (h : ∀ y, y ∈ l → fitC qb y.cells = true) : l = mgL (l.map mgOf) := by
  unfold mgL
  rw [List.map_map]
  refine ((List.map_congr_left fun y hy => ?_).trans (List.map_id l)).symm
  exact (qbkw (h y hy)).symm
theorem law_RolloverChecks (l : List AV) (now : Int) (hl : l.length ≤ 9223372036854775807) (hf : ∀ y, y ∈ l → fitC qb y.cells = true) : qe7 l now = some true := by
  rw [qbii hf, qr6]
  unfold qea
  generalize hL0 : l.map mgOf = L0
  have hL0l : L0.length ≤ 9223372036854775807 := by rw [← hL0]; simpa using hl
  rw [qbp9 L0 hL0l, oB_s]
  generalize hL : fewF L0 = L
  have h20 : L.length ≤ 20 := by rw [← hL]; exact qbn5 L0
  have hz : qjd L := by rw [← hL]; exact qbkh L0
  rw [qbki L now (by omega), oB_s, qbn6 L now (by omega), oB_s, qy1 L (by omega) hz, oB_s, qbl9 L (by omega) hz, oB_s]
  simp only [beq_self_eq_true, Bool.and_self, cond_t]
  rw [q7e L now (by omega), oB_s, qbf4 L now (by omega), oB_s, q8l _ (Nat.le_trans (List.length_filter_le _ _) (by omega)), oB_s, cond_t,
    qbc3 L now (by omega), oB_s, qbig L now (by omega), oB_s, q8l _ (Nat.le_trans (List.length_filter_le _ _) (by omega)), oB_s, cond_t,
    qbkn L now (by omega), oB_s, qbih L now (by omega), oB_s, q8l _ (Nat.le_trans (List.length_filter_le _ _) (by omega)), oB_s, cond_t, qbof]
  rfl
end Go.Proofs.YtmoedhehjonnhaaGreatDoor.Dn
