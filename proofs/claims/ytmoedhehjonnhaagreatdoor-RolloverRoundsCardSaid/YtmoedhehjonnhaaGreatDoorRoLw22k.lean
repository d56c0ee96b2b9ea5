/- The examples of the chapter. -/
import Derived.Test.YtmoedhehjonnhaaGreatDoorRoLw22j
set_option linter.all false
namespace Go.Proofs.YtmoedhehjonnhaaGreatDoor.Dn
open Go Go.Pev
set_option linter.unusedVariables false
set_option linter.unusedSimpArgs false
set_option maxRecDepth 100000
def exN : List UInt8 := [101, 120, 97, 109, 112, 108, 101, 46]
def ex1 : Mg := ⟨exN, false, 1, 0, 0, 100, 110⟩
def ex2 : Mg := ⟨exN, true, 2, 0, 0, 1000, 1000⟩
def ex3 : Mg := ⟨exN, false, 3, 50, 60, 160, 170⟩
def ex4 : Mg := ⟨exN, false, 1, 0, 10, 20, 30⟩
theorem q94 : chk [ex1, ex2] = 0 := by decide +kernel
theorem qbde : qmk [ex1, ex2] exN false 3 50 10 100 = ([{ ex1 with r := 60, m := 70 }, ex2, ex3], 0) := by
  have h1 : chk [{ ex1 with r := 60, m := 70 }, ex2, ex3] = 0 := by decide +kernel
  unfold qmk
  rw [q94]
  have h2 : qch false 50 10 [ex1, ex2] ++ [newK exN false 3 50 10 100] = [{ ex1 with r := 60, m := 70 }, ex2, ex3] := rfl
  rw [h2, h1]
  rfl
theorem qben : chk [ex1, ex1] = 18 := by decide +kernel
theorem qbeo : chk [ex4] = 0 := by decide +kernel
theorem qbdf : q3n 10 (0, false) [ex4] = (20, true) := rfl
theorem qbdg : qp5 [ex1, ex2] 5 0 99 = true := by
  unfold qp5
  rw [q94]
  have h0 : ((0 : Int) != 0 || qir 5 0 99) = false := rfl
  rw [h0, cond_f, List.all_eq_true]
  intro t1 h1
  rw [List.all_eq_true]
  intro t2 h2
  rw [ql6] at h1 h2
  have key : (([0, 99] ++ momL 0 99 [ex1, ex2]).all fun t1 => ([0, 99] ++ momL 0 99 [ex1, ex2]).all fun t2 => qll [ex1, ex2] 5 t1 t2) = true := by decide +kernel
  exact List.all_eq_true.1 (List.all_eq_true.1 key t1 h1) t2 h2
theorem q95 : qp5 [ex4] 0 10 12 = false := by
  unfold qp5
  rw [qbeo]
  have h0 : ((0 : Int) != 0 || qir 0 10 12) = false := rfl
  rw [h0, cond_f]
  have hm : (10 : Int) ∈ momS 10 12 [ex4] := (ql6 10 12 [ex4] 10).2 (by simp)
  have hp : qll [ex4] 0 10 10 = false := by decide +kernel
  rw [List.all_eq_false]
  exact ⟨10, hm, by
    rw [Bool.not_eq_true, List.all_eq_false]
    exact ⟨10, hm, by rw [hp]; simp⟩⟩
theorem ql7 (b : Bool) (n : Int) : qb8 b n = some (.agg [.str exN, .bool b, .int .i64 n]) := by rw [qxa]; rfl
theorem ex_z : qjk [ex1, ex2] := fun e he => by
  simp at he
  rcases he with rfl | rfl <;> decide
theorem qbfa : qjk [ex4] := fun e he => by
  simp at he
  subst he; decide
theorem qbfb : qjk [ex1, ex1] := fun e he => by
  simp at he
  subst he; decide
theorem qbep (kn : Bool → Option Bool) : qgq (mgL [{ ex1 with r := 60, m := 70 }, ex2, ex3]) 0 (mgL [ex1, ex2]) kn = kn false := by
  rw [qsi]
  unfold qfu
  rw [ql7]
  rfl
theorem q63 : qiw = some true := by
  have hRoll : qe2 (mgL [ex1, ex2]) exN false 3 50 10 100 = some (mgL [{ ex1 with r := 60, m := 70 }, ex2, ex3], 0) := by
    rw [q9z [ex1, ex2] (by simp) ex_z exN (by decide), qbde]
  have hNext : qhp (mgL [ex4]) 10 = some (20, true) := by rw [qbei _ _ (by simp), qbdf]
  have hPub : qex (mgL [ex4]) 29 = some (kyL [ex4]) := by rw [q6f _ _ (by simp)]; rfl
  have hSig : qfl (mgL [ex4]) 20 = some (kyL []) := by rw [q9y _ _ (by simp)]; rfl
  have hS1 : qc3 (mgL [ex1, ex2]) 5 0 99 = some true := by rw [q5m _ (by simp) ex_z, qbdg]
  have hS2 : qc3 (mgL [ex4]) 0 10 12 = some false := by rw [q5m _ (by simp) qbfa, q95]
  have hC : qco (mgL [ex1, ex1]) = some 18 := by rw [qrq _ (by simp) qbfb, qben]
  rw [qxc]
  unfold qhg
  rw [ql7, oB_s, ql7, oB_s, ql7, oB_s]
  show (bif hd (mgL [ex1, ex2]) (mgL [ex1, ex2]).length then (oB (qe2 (mgL [ex1, ex2]) exN false 3 50 10 100) _) else none) = _
  rw [hd_self, cond_t, hRoll, oB_s]
  show (bif (hd (mgL [ex1, ex2]) (mgL [ex1, ex2]).length && true) then (qgq (mgL [{ ex1 with r := 60, m := 70 }, ex2, ex3]) 0 (mgL [ex1, ex2]) _) else none) = _
  rw [hd_self, Bool.and_self, cond_t, qbep, cond_f, oB_s]
  show (bif hd (mgL [ex4]) (mgL [ex4]).length then (oB (qhp (mgL [ex4]) 10) _) else none) = _
  rw [hd_self, cond_t, hNext, oB_s]
  show (bif hd (mgL [ex4]) (mgL [ex4]).length then (oB (qex (mgL [ex4]) 29) _) else none) = _
  rw [hd_self, cond_t, hPub, oB_s]
  show (bif hd (mgL [ex4]) (mgL [ex4]).length then (oB (qfl (mgL [ex4]) 20) _) else none) = _
  rw [hd_self, cond_t, hSig, oB_s]
  show (bif hd (mgL [ex1, ex2]) (mgL [ex1, ex2]).length then (oB (qc3 (mgL [ex1, ex2]) 5 0 99) _) else none) = _
  rw [hd_self, cond_t, hS1, oB_s, cond_t]
  show (bif hd (mgL [ex4]) (mgL [ex4]).length then (oB (qc3 (mgL [ex4]) 0 10 12) _) else none) = _
  rw [hd_self, cond_t, hS2, oB_s]
  show oB (qco (mgL [ex1, ex1])) (fun r16 => some (r16 == 18)) = some true
  rw [hC]
  rfl
end Go.Proofs.YtmoedhehjonnhaaGreatDoor.Dn
