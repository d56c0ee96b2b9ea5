/- The laws RolloverChecks and RolloverRolls. -/
import Derived.Test.YtmoedhehjonnhaaGreatDoorRrLw22k
set_option linter.all false
namespace Go.Proofs.YtmoedhehjonnhaaGreatDoor.Dn
open Go Go.Pev
set_option linter.unusedVariables false
set_option linter.unusedSimpArgs false
set_option maxRecDepth 8000
theorem qbiz {y : AV} (h : fitC qc y.cells = true) : y = (mgOf y).av := by
  obtain ⟨x1, r1, e1, f1, g1⟩ := qk3 h
  obtain ⟨x2, r2, rfl, f2, g2⟩ := qk3 g1
  obtain ⟨x3, r3, rfl, f3, g3⟩ := qk3 g2
  obtain ⟨x4, r4, rfl, f4, g4⟩ := qk3 g3
  obtain ⟨x5, r5, rfl, f5, g5⟩ := qk3 g4
  obtain ⟨x6, r6, rfl, f6, g6⟩ := qk3 g5
  obtain ⟨x7, r7, rfl, f7, g7⟩ := qk3 g6
  have h8 := qbj3 g7
  subst h8
  have hy : y = .agg [x1, x2, x3, x4, x5, x6, x7] := by
    cases y <;> simp [AV.cells] at e1
    rw [e1]
  subst hy
  cases x1 <;> simp [fitL] at f1
  cases x2 <;> simp [fitL] at f2
  cases x3 <;> simp [fitL] at f3
  cases x4 <;> simp [fitL] at f4
  cases x5 <;> simp [fitL] at f5
  cases x6 <;> simp [fitL] at f6
  cases x7 <;> simp [fitL] at f7
  subst f3 f4 f5 f6 f7
  rfl
theorem qbgo {l : List AV} (h : ∀ y, y ∈ l → fitC qc y.cells = true) : l = mgL (l.map mgOf) := by
  unfold mgL
  rw [List.map_map]
  refine ((List.map_congr_left fun y hy => ?_).trans (List.map_id l)).symm
  exact (qbiz (h y hy)).symm
theorem law_RolloverRolls (l : List AV) (z : List UInt8) (k : Bool) (s now wait life : Int) (hl : l.length ≤ 9223372036854775807) (hf : ∀ y, y ∈ l → fitC qc y.cells = true) : qfk l z k s now wait life = some true := by
  rw [qbgo hf, qrw]
  unfold qek
  generalize hL0 : l.map mgOf = L0
  have hL0l : L0.length ≤ 9223372036854775807 := by rw [← hL0]; simpa using hl
  rw [qboe L0 hL0l, oB_s, qbfs, oB_s]
  generalize hL : fewF L0 = L
  have h20 : L.length ≤ 20 := by rw [← hL]; exact qbl9 L0
  have hz : qgs L := by rw [← hL]; exact qbin L0
  have hzz : (z.take 300).length ≤ 1000000 := by simp; omega
  have hr := qbir L (z.take 300) k s now wait life
  rw [qbiq L (by omega) hz _ hzz, oB_s, qbmc L (by omega) hz _ hzz, oB_s]
  dsimp only
  rw [qbmd _ (by omega), oB_s]
  simp only [beq_self_eq_true, Bool.and_self, cond_t]
  rw [qbmi]
  rfl
end Go.Proofs.YtmoedhehjonnhaaGreatDoor.Dn
