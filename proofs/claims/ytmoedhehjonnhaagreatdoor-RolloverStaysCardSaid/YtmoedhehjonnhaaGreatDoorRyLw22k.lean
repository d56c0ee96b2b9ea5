/- The examples of the chapter. -/
import Derived.Test.YtmoedhehjonnhaaGreatDoorRyLw22j
set_option linter.all false
namespace Go.Proofs.YtmoedhehjonnhaaGreatDoor.Dn
open Go Go.Pev
set_option linter.unusedVariables false
set_option linter.unusedSimpArgs false
set_option maxRecDepth 100000
def exN : List UInt8 := [101, 120, 97, 109, 112, 108, 101, 46]
def ex1 : Mg := ⟨exN, false, 1, 0, 0, 100, 110⟩
def ex2 : Mg := ⟨exN, true, 2, 0, 0, 1000, 1000⟩
def ex3 : Mg := ⟨exN, false, 3, 50, 60, 160, 170⟩
def ex4 : Mg := ⟨exN, false, 1, 0, 10, 20, 30⟩
theorem qbax : chk [ex1, ex2] = 0 := by decide +kernel
theorem qbd9 : q1i [ex1, ex2] exN false 3 50 10 100 = ([{ ex1 with r := 60, m := 70 }, ex2, ex3], 0) := by
  have h1 : chk [{ ex1 with r := 60, m := 70 }, ex2, ex3] = 0 := by decide +kernel
  unfold q1i
  rw [qbax]
  have h2 : qfm false 50 10 [ex1, ex2] ++ [newK exN false 3 50 10 100] = [{ ex1 with r := 60, m := 70 }, ex2, ex3] := rfl
  rw [h2, h1]
  rfl
theorem qbfj : chk [ex1, ex1] = 18 := by decide +kernel
theorem qbfk : chk [ex4] = 0 := by decide +kernel
theorem qbea : qom 10 (0, false) [ex4] = (20, true) := rfl
theorem qbeb : qxb [ex1, ex2] 5 0 99 = true := by
  unfold qxb
  rw [qbax]
  have h0 : ((0 : Int) != 0 || qpq 5 0 99) = false := rfl
  rw [h0, cond_f, List.all_eq_true]
  intro t1 h1
  rw [List.all_eq_true]
  intro t2 h2
  rw [qzm] at h1 h2
  have key : (([0, 99] ++ momL 0 99 [ex1, ex2]).all fun t1 => ([0, 99] ++ momL 0 99 [ex1, ex2]).all fun t2 => qqz [ex1, ex2] 5 t1 t2) = true := by decide +kernel
  exact List.all_eq_true.1 (List.all_eq_true.1 key t1 h1) t2 h2
theorem qbay : qxb [ex4] 0 10 12 = false := by
  unfold qxb
  rw [qbfk]
  have h0 : ((0 : Int) != 0 || qpq 0 10 12) = false := rfl
  rw [h0, cond_f]
  have hm : (10 : Int) ∈ momS 10 12 [ex4] := (qzm 10 12 [ex4] 10).2 (by simp)
  have hp : qqz [ex4] 0 10 10 = false := by decide +kernel
  rw [List.all_eq_false]
  exact ⟨10, hm, by
    rw [Bool.not_eq_true, List.all_eq_false]
    exact ⟨10, hm, by rw [hp]; simp⟩⟩
theorem qxc (b : Bool) (n : Int) : qew b n = some (.agg [.str exN, .bool b, .int .i64 n]) := by rw [qx4]; rfl
theorem ex_z : qi7 [ex1, ex2] := fun e he => by
  simp at he
  rcases he with rfl | rfl <;> decide
theorem qbf5 : qi7 [ex4] := fun e he => by
  simp at he
  subst he; decide
theorem qbf6 : qi7 [ex1, ex1] := fun e he => by
  simp at he
  subst he; decide
theorem qbfl (kn : Bool → Option Bool) : qg5 (mgL [{ ex1 with r := 60, m := 70 }, ex2, ex3]) 0 (mgL [ex1, ex2]) kn = kn false := by
  rw [qtc]
  unfold qf5
  rw [qxc]
  rfl
theorem q7w : qhb = some true := by
  have hRoll : qh4 (mgL [ex1, ex2]) exN false 3 50 10 100 = some (mgL [{ ex1 with r := 60, m := 70 }, ex2, ex3], 0) := by
    rw [qbfe [ex1, ex2] (by simp) ex_z exN (by decide), qbd9]
  have hNext : qf9 (mgL [ex4]) 10 = some (20, true) := by rw [qbap _ _ (by simp), qbea]
  have hPub : qb9 (mgL [ex4]) 29 = some (kyL [ex4]) := by rw [qm2 _ _ (by simp)]; rfl
  have hSig : qcb (mgL [ex4]) 20 = some (kyL []) := by rw [qqy _ _ (by simp)]; rfl
  have hS1 : qec (mgL [ex1, ex2]) 5 0 99 = some true := by rw [qbaw _ (by simp) ex_z, qbeb]
  have hS2 : qec (mgL [ex4]) 0 10 12 = some false := by rw [qbaw _ (by simp) qbf5, qbay]
  have hC : qcr (mgL [ex1, ex1]) = some 18 := by rw [qsk _ (by simp) qbf6, qbfj]
  rw [qx6]
  unfold qhv
  rw [qxc, oB_s, qxc, oB_s, qxc, oB_s]
  show (bif hd (mgL [ex1, ex2]) (mgL [ex1, ex2]).length then (oB (qh4 (mgL [ex1, ex2]) exN false 3 50 10 100) _) else none) = _
  rw [hd_self, cond_t, hRoll, oB_s]
  show (bif (hd (mgL [ex1, ex2]) (mgL [ex1, ex2]).length && true) then (qg5 (mgL [{ ex1 with r := 60, m := 70 }, ex2, ex3]) 0 (mgL [ex1, ex2]) _) else none) = _
  rw [hd_self, Bool.and_self, cond_t, qbfl, cond_f, oB_s]
  show (bif hd (mgL [ex4]) (mgL [ex4]).length then (oB (qf9 (mgL [ex4]) 10) _) else none) = _
  rw [hd_self, cond_t, hNext, oB_s]
  show (bif hd (mgL [ex4]) (mgL [ex4]).length then (oB (qb9 (mgL [ex4]) 29) _) else none) = _
  rw [hd_self, cond_t, hPub, oB_s]
  show (bif hd (mgL [ex4]) (mgL [ex4]).length then (oB (qcb (mgL [ex4]) 20) _) else none) = _
  rw [hd_self, cond_t, hSig, oB_s]
  show (bif hd (mgL [ex1, ex2]) (mgL [ex1, ex2]).length then (oB (qec (mgL [ex1, ex2]) 5 0 99) _) else none) = _
  rw [hd_self, cond_t, hS1, oB_s, cond_t]
  show (bif hd (mgL [ex4]) (mgL [ex4]).length then (oB (qec (mgL [ex4]) 0 10 12) _) else none) = _
  rw [hd_self, cond_t, hS2, oB_s]
  show oB (qcr (mgL [ex1, ex1])) (fun r16 => some (r16 == 18)) = some true
  rw [hC]
  rfl
end Go.Proofs.YtmoedhehjonnhaaGreatDoor.Dn
