/- The examples of the chapter. -/
import Derived.Test.YtmoedhehjonnhaaGreatDoorRcLw22j
set_option linter.all false
namespace Go.Proofs.YtmoedhehjonnhaaGreatDoor.Dn
open Go Go.Pev
set_option linter.unusedVariables false
set_option linter.unusedSimpArgs false
set_option maxRecDepth 100000
def exN : List UInt8 := [101, 120, 97, 109, 112, 108, 101, 46]
def ex1 : Mg := ⟨exN, false, 1, 0, 0, 100, 110⟩
def ex2 : Mg := ⟨exN, true, 2, 0, 0, 1000, 1000⟩
def ex3 : Mg := ⟨exN, false, 3, 50, 60, 160, 170⟩
def ex4 : Mg := ⟨exN, false, 1, 0, 10, 20, 30⟩
theorem qbku : chk [ex1, ex2] = 0 := by decide +kernel
theorem qboc : qbat [ex1, ex2] exN false 3 50 10 100 = ([{ ex1 with r := 60, m := 70 }, ex2, ex3], 0) := by
  have h1 : chk [{ ex1 with r := 60, m := 70 }, ex2, ex3] = 0 := by decide +kernel
  unfold qbat
  rw [qbku]
  have h2 : qgw false 50 10 [ex1, ex2] ++ [newK exN false 3 50 10 100] = [{ ex1 with r := 60, m := 70 }, ex2, ex3] := rfl
  rw [h2, h1]
  rfl
theorem qbps : chk [ex1, ex1] = 18 := by decide +kernel
theorem qbpt : chk [ex4] = 0 := by decide +kernel
theorem qbod : q5p 10 (0, false) [ex4] = (20, true) := rfl
theorem qboe : q5r [ex1, ex2] 5 0 99 = true := by
  unfold q5r
  rw [qbku]
  have h0 : ((0 : Int) != 0 || quv 5 0 99) = false := rfl
  rw [h0, cond_f, List.all_eq_true]
  intro t1 h1
  rw [List.all_eq_true]
  intro t2 h2
  rw [q8n] at h1 h2
  have key : (([0, 99] ++ momL 0 99 [ex1, ex2]).all fun t1 => ([0, 99] ++ momL 0 99 [ex1, ex2]).all fun t2 => qwj [ex1, ex2] 5 t1 t2) = true := by decide +kernel
  exact List.all_eq_true.1 (List.all_eq_true.1 key t1 h1) t2 h2
theorem qbkv : q5r [ex4] 0 10 12 = false := by
  unfold q5r
  rw [qbpt]
  have h0 : ((0 : Int) != 0 || quv 0 10 12) = false := rfl
  rw [h0, cond_f]
  have hm : (10 : Int) ∈ momS 10 12 [ex4] := (q8n 10 12 [ex4] 10).2 (by simp)
  have hp : qwj [ex4] 0 10 10 = false := by decide +kernel
  rw [List.all_eq_false]
  exact ⟨10, hm, by
    rw [Bool.not_eq_true, List.all_eq_false]
    exact ⟨10, hm, by rw [hp]; simp⟩⟩
theorem q5s (b : Bool) (n : Int) : qfu b n = some (.agg [.str exN, .bool b, .int .i64 n]) := by rw [q6u]; rfl
theorem ex_z : qjd [ex1, ex2] := fun e he => by
  simp at he
  rcases he with rfl | rfl <;> decide
theorem qbqd : qjd [ex4] := fun e he => by
  simp at he
  subst he; decide
theorem qbqe : qjd [ex1, ex1] := fun e he => by
  simp at he
  subst he; decide
theorem qbpu (kn : Bool → Option Bool) : qi0 (mgL [{ ex1 with r := 60, m := 70 }, ex2, ex3]) 0 (mgL [ex1, ex2]) kn = kn false := by
  rw [q0p]
  unfold qhq
  rw [q5s]
  rfl
theorem qbof : qqr = some true := by
  have hRoll : qke (mgL [ex1, ex2]) exN false 3 50 10 100 = some (mgL [{ ex1 with r := 60, m := 70 }, ex2, ex3], 0) := by
    rw [qbpn [ex1, ex2] (by simp) ex_z exN (by decide), qboc]
  have hNext : qhv (mgL [ex4]) 10 = some (20, true) := by rw [qbki _ _ (by simp), qbod]
  have hPub : qd0 (mgL [ex4]) 29 = some (kyL [ex4]) := by rw [q7e _ _ (by simp)]; rfl
  have hSig : qft (mgL [ex4]) 20 = some (kyL []) := by rw [qbc3 _ _ (by simp)]; rfl
  have hS1 : qe3 (mgL [ex1, ex2]) 5 0 99 = some true := by rw [qbkt _ (by simp) ex_z, qboe]
  have hS2 : qe3 (mgL [ex4]) 0 10 12 = some false := by rw [qbkt _ (by simp) qbqd, qbkv]
  have hC : qcx (mgL [ex1, ex1]) = some 18 := by rw [qy1 _ (by simp) qbqe, qbps]
  rw [q6w]
  unfold qj1
  rw [q5s, oB_s, q5s, oB_s, q5s, oB_s]
  show (bif hd (mgL [ex1, ex2]) (mgL [ex1, ex2]).length then (oB (qke (mgL [ex1, ex2]) exN false 3 50 10 100) _) else none) = _
  rw [hd_self, cond_t, hRoll, oB_s]
  show (bif (hd (mgL [ex1, ex2]) (mgL [ex1, ex2]).length && true) then (qi0 (mgL [{ ex1 with r := 60, m := 70 }, ex2, ex3]) 0 (mgL [ex1, ex2]) _) else none) = _
  rw [hd_self, Bool.and_self, cond_t, qbpu, cond_f, oB_s]
  show (bif hd (mgL [ex4]) (mgL [ex4]).length then (oB (qhv (mgL [ex4]) 10) _) else none) = _
  rw [hd_self, cond_t, hNext, oB_s]
  show (bif hd (mgL [ex4]) (mgL [ex4]).length then (oB (qd0 (mgL [ex4]) 29) _) else none) = _
  rw [hd_self, cond_t, hPub, oB_s]
  show (bif hd (mgL [ex4]) (mgL [ex4]).length then (oB (qft (mgL [ex4]) 20) _) else none) = _
  rw [hd_self, cond_t, hSig, oB_s]
  show (bif hd (mgL [ex1, ex2]) (mgL [ex1, ex2]).length then (oB (qe3 (mgL [ex1, ex2]) 5 0 99) _) else none) = _
  rw [hd_self, cond_t, hS1, oB_s, cond_t]
  show (bif hd (mgL [ex4]) (mgL [ex4]).length then (oB (qe3 (mgL [ex4]) 0 10 12) _) else none) = _
  rw [hd_self, cond_t, hS2, oB_s]
  show oB (qcx (mgL [ex1, ex1])) (fun r16 => some (r16 == 18)) = some true
  rw [hC]
  rfl
end Go.Proofs.YtmoedhehjonnhaaGreatDoor.Dn
