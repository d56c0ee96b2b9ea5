/- The reference's Safe. -/
import Derived.Test.YtmoedhehjonnhaaGreatDoorRsLw22m
set_option linter.all false
namespace Go.Proofs.YtmoedhehjonnhaaGreatDoor.Dn
open Go Go.Pev
set_option linter.unusedVariables false
set_option linter.unusedSimpArgs false
set_option maxRecDepth 8000
def insF (n : Int) : List Int → List Int
  | [] => [n]
  | x :: r => bif decide (x > n) then n :: x :: r else x :: insF n r
def putF (l : List Int) (n : Int) : List Int := bif l.contains n then l else insF n l
theorem q5n (L : List Int) (i : Nat) : (inL L)[i]? = (L[i]?).map (AV.int .i64) := by simp [inL]
theorem qbf8 (n : Int) : ∀ l, (insF n l).length = l.length + 1
  | [] => rfl
  | x :: r => by
    unfold insF
    cases decide (x > n)
    · rw [cond_f, List.length_cons, qbf8 n r, List.length_cons]
    · rfl
theorem qbmp (l : List Int) (n : Int) : (putF l n).length ≤ l.length + 1 := by
  unfold putF
  cases l.contains n
  · rw [cond_f, qbf8]; omega
  · rw [cond_t]; omega
theorem qbqw (l : List Int) (n : Int) (hl : l.length ≤ 1000000) : qtz (inL l) n = some (inL (putF l n)) := by
  rw [q88]
  unfold qlz
  have h0 : (hd ([] : List AV) ([] : List AV).length && true) = true := rfl
  rw [h0, cond_t, q2n]
  generalize hK : (fun (v6q1 : Bool) (a0q2 : List AV) => (bif (!v6q1) then (bif hd a0q2 a0q2.length then (bif hd ([(.int .i64 n)] : List AV) (([(.int .i64 n)] : List AV).length) then (bif decide ((a0q2.length + ([(.int .i64 n)] : List AV).length) * 8 ≤ 140737488355328) then (bif hd (a0q2 ++ ([(.int .i64 n)] : List AV)) ((a0q2 ++ ([(.int .i64 n)] : List AV)).length) then (some (a0q2 ++ ([(.int .i64 n)] : List AV))) else none) else none) else none) else none) else (bif hd a0q2 a0q2.length then (some a0q2) else none))) = K
  have hK1 : ∀ q : List Int, q.length ≤ 2000000 → K false (inL q) = some (inL (q ++ [n])) := by
    intro q hq
    rw [← hK]
    dsimp only
    have h1l : hd [AV.int .i64 n] ([AV.int .i64 n] : List AV).length = true := rfl
    have h2l : hd (inL q ++ [AV.int .i64 n]) (inL q ++ [AV.int .i64 n]).length = true := hd_self _
    rw [Bool.not_false, cond_t, hd_self, cond_t, h1l, cond_t, decide_eq_true (show ((inL q).length + ([AV.int .i64 n] : List AV).length) * 8 ≤ 140737488355328 by rw [qdw, List.length_singleton]; omega), cond_t, h2l, cond_t]
    simp [inL]
  have hK2 : ∀ q : List Int, K true (inL q) = some (inL q) := by
    intro q
    rw [← hK]
    dsimp only
    rw [Bool.not_true, cond_f, hd_self, cond_t]
  have key := qbw (σ := Bool × List AV) l (by omega) (fun m i s => qf0 (inL l) n K m s.1 i s.2) (fun i s nx => qfz (inL l) n s.1 i s.2 (fun x j y => nx j (x, y)) K) (fun m i s => rfl)
    (fun i s => ∃ q : List Int, s.2 = inL q ∧ q.length ≤ 2 * i) (fun r s => bif r.contains n then some (inL l) else bif s.1 then some (s.2 ++ inL r) else some (s.2 ++ inL (insF n r))) (fun s nx hJ => by
      obtain ⟨d, a⟩ := s
      obtain ⟨q, h1, h2⟩ := hJ
      dsimp only at h1 ⊢
      subst h1
      unfold qfz
      rw [qdw, decide_eq_false (show ¬ (l.length : Int) < (l.length : Int) by omega), cond_f]
      have hc : ([] : List Int).contains n = false := rfl
      rw [hc, cond_f]
      cases d with
      | true => rw [hK2, cond_t]; simp [inL]
      | false => rw [hK1 q (by omega), cond_f]; simp [inL, insF])
    (fun i x r s nx h1 h2 h3 h4 hJ hnx => by
      obtain ⟨d, a⟩ := s
      obtain ⟨q, h5, h6⟩ := hJ
      dsimp only at h5 ⊢
      subst h5
      have hg : (inL l)[i]? = some (.int .i64 x) := by rw [q5n, h2]; rfl
      unfold qfz
      rw [qdw, decide_eq_true (show (i : Int) < (l.length : Int) by omega), cond_t, ixB_nat, hg, oB_s]
      have e1 : fitC [(.i .i64)] (AV.int .i64 x).cells = true := rfl
      have e2 : gI (AV.int .i64 x).cells 0 = x := rfl
      rw [e1, cond_t, e2, List.contains_cons]
      by_cases hx : x = n
      · subst hx
        simp
      · have hb : (x == n) = false := by simpa using hx
        have hb' : (n == x) = false := by simpa using fun h => hx h.symm
        rw [hb, hb', cond_f, hd_self, Bool.and_self, cond_t, Bool.false_or, q2m]
        unfold qh7
        rw [ixB_nat, hg, oB_s, e1, cond_t, e2, h4]
        have h1l : ∀ y : Int, hd [AV.int .i64 y] ([AV.int .i64 y] : List AV).length = true := fun _ => rfl
        have fin : ∀ (d' : Bool) (q' : List Int), q'.length ≤ 2 * i + 1 → (bif hd (inL q') (inL q').length then (bif hd ([(.int .i64 x)] : List AV) (([(.int .i64 x)] : List AV).length) then (bif decide (((inL q').length + ([(.int .i64 x)] : List AV).length) * 8 ≤ 140737488355328) then (nx ((i + 1 : Nat) : Int) (d', inL q' ++ ([(.int .i64 x)] : List AV))) else none) else none) else none) = bif r.contains n then some (inL l) else bif d' then some (inL (q' ++ [x]) ++ inL r) else some (inL (q' ++ [x]) ++ inL (insF n r)) := by
          intro d' q' hq'
          rw [hd_self, cond_t, h1l, cond_t, decide_eq_true (show ((inL q').length + ([AV.int .i64 x] : List AV).length) * 8 ≤ 140737488355328 by rw [qdw, List.length_singleton]; omega), cond_t]
          have e3 : inL q' ++ [AV.int .i64 x] = inL (q' ++ [x]) := by simp [inL]
          rw [e3]
          exact hnx (d', inL (q' ++ [x])) ⟨q' ++ [x], rfl, by rw [List.length_append, List.length_singleton]; omega⟩
        cases d with
        | true =>
          rw [Bool.not_true, Bool.and_false, cond_f]
          refine Eq.trans (fin true q (by omega)) ?_
          cases r.contains n with
          | true => rfl
          | false => simp [inL]
        | false =>
          rw [Bool.not_false, Bool.and_true]
          cases hgt : decide (x > n) with
          | true =>
            rw [cond_t, hd_self, cond_t, h1l, cond_t, decide_eq_true (show ((inL q).length + ([AV.int .i64 n] : List AV).length) * 8 ≤ 140737488355328 by rw [qdw, List.length_singleton]; omega), cond_t]
            have e3 : inL q ++ [AV.int .i64 n] = inL (q ++ [n]) := by simp [inL]
            rw [e3]
            refine Eq.trans (fin true (q ++ [n]) (by rw [List.length_append, List.length_singleton]; omega)) ?_
            unfold insF
            rw [hgt]
            cases r.contains n with
            | true => rfl
            | false => simp [inL]
          | false =>
            rw [cond_f]
            refine Eq.trans (fin false q (by omega)) ?_
            rw [insF, hgt]
            cases r.contains n with
            | true => rfl
            | false => simp [inL]) (false, []) FU ⟨[], rfl, by simp⟩ (qcc (by omega))
  refine key.trans ?_
  unfold putF
  dsimp only
  cases l.contains n <;> rfl
end Go.Proofs.YtmoedhehjonnhaaGreatDoor.Dn
