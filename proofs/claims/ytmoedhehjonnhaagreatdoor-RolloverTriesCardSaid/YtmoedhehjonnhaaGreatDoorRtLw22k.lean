/- The examples of the chapter. -/
import Derived.Test.YtmoedhehjonnhaaGreatDoorRtLw22j
set_option linter.all false
namespace Go.Proofs.YtmoedhehjonnhaaGreatDoor.Dn
open Go Go.Pev
set_option linter.unusedVariables false
set_option linter.unusedSimpArgs false
set_option maxRecDepth 100000
def exN : List UInt8 := [101, 120, 97, 109, 112, 108, 101, 46]
def ex1 : Mg := ⟨exN, false, 1, 0, 0, 100, 110⟩
def ex2 : Mg := ⟨exN, true, 2, 0, 0, 1000, 1000⟩
def ex3 : Mg := ⟨exN, false, 3, 50, 60, 160, 170⟩
def ex4 : Mg := ⟨exN, false, 1, 0, 10, 20, 30⟩
theorem qbbw : chk [ex1, ex2] = 0 := by decide +kernel
theorem qbfd : q14 [ex1, ex2] exN false 3 50 10 100 = ([{ ex1 with r := 60, m := 70 }, ex2, ex3], 0) := by
  have h1 : chk [{ ex1 with r := 60, m := 70 }, ex2, ex3] = 0 := by decide +kernel
  unfold q14
  rw [qbbw]
  have h2 : qf1 false 50 10 [ex1, ex2] ++ [newK exN false 3 50 10 100] = [{ ex1 with r := 60, m := 70 }, ex2, ex3] := rfl
  rw [h2, h1]
  rfl
theorem qbgo : chk [ex1, ex1] = 18 := by decide +kernel
theorem qbgp : chk [ex4] = 0 := by decide +kernel
theorem qbfe : q5g 10 (0, false) [ex4] = (20, true) := rfl
theorem qbff : qmo [ex1, ex2] 5 0 99 = true := by
  unfold qmo
  rw [qbbw]
  have h0 : ((0 : Int) != 0 || qhz 5 0 99) = false := rfl
  rw [h0, cond_f, List.all_eq_true]
  intro t1 h1
  rw [List.all_eq_true]
  intro t2 h2
  rw [qnm] at h1 h2
  have key : (([0, 99] ++ momL 0 99 [ex1, ex2]).all fun t1 => ([0, 99] ++ momL 0 99 [ex1, ex2]).all fun t2 => qmn [ex1, ex2] 5 t1 t2) = true := by decide +kernel
  exact List.all_eq_true.1 (List.all_eq_true.1 key t1 h1) t2 h2
theorem qbbx : qmo [ex4] 0 10 12 = false := by
  unfold qmo
  rw [qbgp]
  have h0 : ((0 : Int) != 0 || qhz 0 10 12) = false := rfl
  rw [h0, cond_f]
  have hm : (10 : Int) ∈ momS 10 12 [ex4] := (qnm 10 12 [ex4] 10).2 (by simp)
  have hp : qmn [ex4] 0 10 10 = false := by decide +kernel
  rw [List.all_eq_false]
  exact ⟨10, hm, by
    rw [Bool.not_eq_true, List.all_eq_false]
    exact ⟨10, hm, by rw [hp]; simp⟩⟩
theorem qxz (b : Bool) (n : Int) : qe4 b n = some (.agg [.str exN, .bool b, .int .i64 n]) := by rw [qyr]; rfl
theorem ex_z : qjv [ex1, ex2] := fun e he => by
  simp at he
  rcases he with rfl | rfl <;> decide
theorem qbhb : qjv [ex4] := fun e he => by
  simp at he
  subst he; decide
theorem qbhc : qjv [ex1, ex1] := fun e he => by
  simp at he
  subst he; decide
theorem qbgq (kn : Bool → Option Bool) : qhn (mgL [{ ex1 with r := 60, m := 70 }, ex2, ex3]) 0 (mgL [ex1, ex2]) kn = kn false := by
  rw [qty]
  unfold qgl
  rw [qxz]
  rfl
theorem q28 : qht = some true := by
  have hRoll : qiq (mgL [ex1, ex2]) exN false 3 50 10 100 = some (mgL [{ ex1 with r := 60, m := 70 }, ex2, ex3], 0) := by
    rw [qbgj [ex1, ex2] (by simp) ex_z exN (by decide), qbfd]
  have hNext : qim (mgL [ex4]) 10 = some (20, true) := by rw [qbgi _ _ (by simp), qbfe]
  have hPub : qds (mgL [ex4]) 29 = some (kyL [ex4]) := by rw [qzb _ _ (by simp)]; rfl
  have hSig : qe3 (mgL [ex4]) 20 = some (kyL []) := by rw [q4c _ _ (by simp)]; rfl
  have hS1 : qcx (mgL [ex1, ex2]) 5 0 99 = some true := by rw [q15 _ (by simp) ex_z, qbff]
  have hS2 : qcx (mgL [ex4]) 0 10 12 = some false := by rw [q15 _ (by simp) qbhb, qbbx]
  have hC : qcy (mgL [ex1, ex1]) = some 18 := by rw [qs7 _ (by simp) qbhc, qbgo]
  rw [qyt]
  unfold qie
  rw [qxz, oB_s, qxz, oB_s, qxz, oB_s]
  show (bif hd (mgL [ex1, ex2]) (mgL [ex1, ex2]).length then (oB (qiq (mgL [ex1, ex2]) exN false 3 50 10 100) _) else none) = _
  rw [hd_self, cond_t, hRoll, oB_s]
  show (bif (hd (mgL [ex1, ex2]) (mgL [ex1, ex2]).length && true) then (qhn (mgL [{ ex1 with r := 60, m := 70 }, ex2, ex3]) 0 (mgL [ex1, ex2]) _) else none) = _
  rw [hd_self, Bool.and_self, cond_t, qbgq, cond_f, oB_s]
  show (bif hd (mgL [ex4]) (mgL [ex4]).length then (oB (qim (mgL [ex4]) 10) _) else none) = _
  rw [hd_self, cond_t, hNext, oB_s]
  show (bif hd (mgL [ex4]) (mgL [ex4]).length then (oB (qds (mgL [ex4]) 29) _) else none) = _
  rw [hd_self, cond_t, hPub, oB_s]
  show (bif hd (mgL [ex4]) (mgL [ex4]).length then (oB (qe3 (mgL [ex4]) 20) _) else none) = _
  rw [hd_self, cond_t, hSig, oB_s]
  show (bif hd (mgL [ex1, ex2]) (mgL [ex1, ex2]).length then (oB (qcx (mgL [ex1, ex2]) 5 0 99) _) else none) = _
  rw [hd_self, cond_t, hS1, oB_s, cond_t]
  show (bif hd (mgL [ex4]) (mgL [ex4]).length then (oB (qcx (mgL [ex4]) 0 10 12) _) else none) = _
  rw [hd_self, cond_t, hS2, oB_s]
  show oB (qcy (mgL [ex1, ex1])) (fun r16 => some (r16 == 18)) = some true
  rw [hC]
  rfl
end Go.Proofs.YtmoedhehjonnhaaGreatDoor.Dn
