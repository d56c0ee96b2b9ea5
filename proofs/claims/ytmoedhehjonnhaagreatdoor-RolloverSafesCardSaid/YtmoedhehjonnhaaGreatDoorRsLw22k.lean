/- The examples of the chapter. -/
import Derived.Test.YtmoedhehjonnhaaGreatDoorRsLw22j
set_option linter.all false
namespace Go.Proofs.YtmoedhehjonnhaaGreatDoor.Dn
open Go Go.Pev
set_option linter.unusedVariables false
set_option linter.unusedSimpArgs false
set_option maxRecDepth 100000
def exN : List UInt8 := [101, 120, 97, 109, 112, 108, 101, 46]
def ex1 : Mg := ⟨exN, false, 1, 0, 0, 100, 110⟩
def ex2 : Mg := ⟨exN, true, 2, 0, 0, 1000, 1000⟩
def ex3 : Mg := ⟨exN, false, 3, 50, 60, 160, 170⟩
def ex4 : Mg := ⟨exN, false, 1, 0, 10, 20, 30⟩
theorem qbkz : chk [ex1, ex2] = 0 := by decide +kernel
theorem qbon : qbaq [ex1, ex2] exN false 3 50 10 100 = ([{ ex1 with r := 60, m := 70 }, ex2, ex3], 0) := by
  have h1 : chk [{ ex1 with r := 60, m := 70 }, ex2, ex3] = 0 := by decide +kernel
  unfold qbaq
  rw [qbkz]
  have h2 : qgn false 50 10 [ex1, ex2] ++ [newK exN false 3 50 10 100] = [{ ex1 with r := 60, m := 70 }, ex2, ex3] := rfl
  rw [h2, h1]
  rfl
theorem qbp7 : chk [ex1, ex1] = 18 := by decide +kernel
theorem qbp8 : chk [ex4] = 0 := by decide +kernel
theorem qboo : qbd4 10 (0, false) [ex4] = (20, true) := rfl
theorem qbop : qpy [ex1, ex2] 5 0 99 = true := by
  unfold qpy
  rw [qbkz]
  have h0 : ((0 : Int) != 0 || qi6 5 0 99) = false := rfl
  rw [h0, cond_f, List.all_eq_true]
  intro t1 h1
  rw [List.all_eq_true]
  intro t2 h2
  rw [qqs] at h1 h2
  have key : (([0, 99] ++ momL 0 99 [ex1, ex2]).all fun t1 => ([0, 99] ++ momL 0 99 [ex1, ex2]).all fun t2 => qpx [ex1, ex2] 5 t1 t2) = true := by decide +kernel
  exact List.all_eq_true.1 (List.all_eq_true.1 key t1 h1) t2 h2
theorem qbk0 : qpy [ex4] 0 10 12 = false := by
  unfold qpy
  rw [qbp8]
  have h0 : ((0 : Int) != 0 || qi6 0 10 12) = false := rfl
  rw [h0, cond_f]
  have hm : (10 : Int) ∈ momS 10 12 [ex4] := (qqs 10 12 [ex4] 10).2 (by simp)
  have hp : qpx [ex4] 0 10 10 = false := by decide +kernel
  rw [List.all_eq_false]
  exact ⟨10, hm, by
    rw [Bool.not_eq_true, List.all_eq_false]
    exact ⟨10, hm, by rw [hp]; simp⟩⟩
theorem q5m (b : Bool) (n : Int) : qfk b n = some (.agg [.str exN, .bool b, .int .i64 n]) := by rw [q6p]; rfl
theorem ex_z : qic [ex1, ex2] := fun e he => by
  simp at he
  rcases he with rfl | rfl <;> decide
theorem qbqu : qic [ex4] := fun e he => by
  simp at he
  subst he; decide
theorem qbqv : qic [ex1, ex1] := fun e he => by
  simp at he
  subst he; decide
theorem qbp9 (kn : Bool → Option Bool) : qis (mgL [{ ex1 with r := 60, m := 70 }, ex2, ex3]) 0 (mgL [ex1, ex2]) kn = kn false := by
  rw [qzw]
  unfold qhf
  rw [q5m]
  rfl
theorem qboq : qqi = some true := by
  have hRoll : qj7 (mgL [ex1, ex2]) exN false 3 50 10 100 = some (mgL [{ ex1 with r := 60, m := 70 }, ex2, ex3], 0) := by
    rw [qbp2 [ex1, ex2] (by simp) ex_z exN (by decide), qbon]
  have hNext : qj3 (mgL [ex4]) 10 = some (20, true) := by rw [qbp0 _ _ (by simp), qboo]
  have hPub : qfx (mgL [ex4]) 29 = some (kyL [ex4]) := by rw [qbg0 _ _ (by simp)]; rfl
  have hSig : qg0 (mgL [ex4]) 20 = some (kyL []) := by rw [qbkt _ _ (by simp)]; rfl
  have hS1 : qde (mgL [ex1, ex2]) 5 0 99 = some true := by rw [qbf5 _ (by simp) ex_z, qbop]
  have hS2 : qde (mgL [ex4]) 0 10 12 = some false := by rw [qbf5 _ (by simp) qbqu, qbk0]
  have hC : qdq (mgL [ex1, ex1]) = some 18 := by rw [q5l _ (by simp) qbqv, qbp7]
  rw [q6r]
  unfold qjv
  rw [q5m, oB_s, q5m, oB_s, q5m, oB_s]
  show (bif hd (mgL [ex1, ex2]) (mgL [ex1, ex2]).length then (oB (qj7 (mgL [ex1, ex2]) exN false 3 50 10 100) _) else none) = _
  rw [hd_self, cond_t, hRoll, oB_s]
  show (bif (hd (mgL [ex1, ex2]) (mgL [ex1, ex2]).length && true) then (qis (mgL [{ ex1 with r := 60, m := 70 }, ex2, ex3]) 0 (mgL [ex1, ex2]) _) else none) = _
  rw [hd_self, Bool.and_self, cond_t, qbp9, cond_f, oB_s]
  show (bif hd (mgL [ex4]) (mgL [ex4]).length then (oB (qj3 (mgL [ex4]) 10) _) else none) = _
  rw [hd_self, cond_t, hNext, oB_s]
  show (bif hd (mgL [ex4]) (mgL [ex4]).length then (oB (qfx (mgL [ex4]) 29) _) else none) = _
  rw [hd_self, cond_t, hPub, oB_s]
  show (bif hd (mgL [ex4]) (mgL [ex4]).length then (oB (qg0 (mgL [ex4]) 20) _) else none) = _
  rw [hd_self, cond_t, hSig, oB_s]
  show (bif hd (mgL [ex1, ex2]) (mgL [ex1, ex2]).length then (oB (qde (mgL [ex1, ex2]) 5 0 99) _) else none) = _
  rw [hd_self, cond_t, hS1, oB_s, cond_t]
  show (bif hd (mgL [ex4]) (mgL [ex4]).length then (oB (qde (mgL [ex4]) 0 10 12) _) else none) = _
  rw [hd_self, cond_t, hS2, oB_s]
  show oB (qdq (mgL [ex1, ex1])) (fun r16 => some (r16 == 18)) = some true
  rw [hC]
  rfl
end Go.Proofs.YtmoedhehjonnhaaGreatDoor.Dn
