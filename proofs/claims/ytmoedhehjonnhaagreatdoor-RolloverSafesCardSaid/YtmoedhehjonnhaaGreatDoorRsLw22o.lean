/- The reference's Safe: points and intervals. -/
import Derived.Test.YtmoedhehjonnhaaGreatDoorRsLw22n
set_option linter.all false
namespace Go.Proofs.YtmoedhehjonnhaaGreatDoor.Dn
open Go Go.Pev
set_option linter.unusedVariables false
set_option linter.unusedSimpArgs false
set_option maxRecDepth 8000
theorem qbqx (L : List Mg) (i : Nat) (e : Mg) (h : L[i]? = some e) (t1 t2 : Int) (a b : Bool) (kn : Bool → Option Bool) : qmq (mgL L) t1 t2 a b (i : Int) kn = kn (sv1 t1 t2 e) := by
  have hg : (mgL L)[i]? = some e.av := by rw [qet, h]; rfl
  rw [qzy]
  unfold qhg sv1
  rw [ixB_nat, hg, oB_s, qdx, cond_t]
  have e1 : gB e.av.cells 1 = e.k := rfl
  rw [e1]
  cases e.k with
  | true => rfl
  | false =>
    rw [Bool.not_false, cond_t, oB_s, qdx, cond_t]
    refine Eq.trans (congrArg (fun q => oB q _) (qbf3 e t1)) ?_
    rw [oB_s]
    cases mSig e t1 with
    | false => rfl
    | true =>
      rw [cond_t, oB_s, qdx, cond_t]
      refine Eq.trans (congrArg (fun q => oB q _) (qbp1 e t2)) ?_
      rfl
theorem qbm9 (L : List Mg) (i : Nat) (e : Mg) (h : L[i]? = some e) (t1 t2 : Int) (a b : Bool) (kn : Bool → Option Bool) : qmr (mgL L) t1 t2 a b (i : Int) kn = kn (sv2 t1 t2 e) := by
  have hg : (mgL L)[i]? = some e.av := by rw [qet, h]; rfl
  rw [qz2]
  unfold qhi sv2
  rw [ixB_nat, hg, oB_s, qdx, cond_t]
  have e1 : gB e.av.cells 1 = e.k := rfl
  rw [e1]
  cases e.k with
  | false => rfl
  | true =>
    rw [cond_t, oB_s, qdx, cond_t]
    refine Eq.trans (congrArg (fun q => oB q _) (qbf3 e t1)) ?_
    rw [oB_s]
    cases mSig e t1 with
    | false => rfl
    | true =>
      rw [cond_t, oB_s, qdx, cond_t]
      refine Eq.trans (congrArg (fun q => oB q _) (qbf3 e t2)) ?_
      rfl
theorem qbqa (L : List Mg) (hL : L.length ≤ 1000000) (t1 t2 : Int) : qrx (mgL L) t1 t2 = some (qfm L t1 t2) := by
  rw [q72]
  unfold qkx
  rw [qz3]
  refine (qbw (σ := Bool × Bool) L (by omega) (fun n i s => qe8 (mgL L) t1 t2 (fun v7q1 v8q2 => (some (v7q1 && v8q2))) n s.1 s.2 i) (fun i s nx => qe7 (mgL L) t1 t2 s.1 s.2 i (fun x y j => nx j (x, y)) (fun v7q1 v8q2 => (some (v7q1 && v8q2)))) (fun n i s => rfl)
    (fun _ _ => True) (fun r s => some ((s.1 || r.any (sv1 t1 t2)) && (s.2 || r.any (sv2 t1 t2)))) (fun s nx _ => by
      unfold qe7
      rw [qcy, decide_eq_false (show ¬ (L.length : Int) < (L.length : Int) by omega), cond_f]
      simp)
    (fun i e r s nx h1 h2 h3 h4 _ hnx => by
      obtain ⟨a, b⟩ := s
      unfold qe7
      dsimp only
      rw [qcy, decide_eq_true (show (i : Int) < (L.length : Int) by omega), cond_t, qz0]
      unfold qhh
      rw [qbqx L i e h2, h4, List.any_cons, List.any_cons]
      cases sv1 t1 t2 e with
      | true =>
        rw [cond_t]
        dsimp only
        rw [qbm9 L i e h2]
        cases sv2 t1 t2 e with
        | true => rw [cond_t, hnx (true, true) trivial]; simp
        | false => rw [cond_f, hnx (true, b) trivial]; simp
      | false =>
        rw [cond_f]
        dsimp only
        rw [qbm9 L i e h2]
        cases sv2 t1 t2 e with
        | true => rw [cond_t, hnx (a, true) trivial]; simp
        | false => rw [cond_f, hnx (a, b) trivial]; simp) (false, false) FU trivial (qcc (by omega))).trans ?_
  rfl
def ptS (f u : Int) (q : List Int) (x : Int) : List Int := bif decide (x > f) && decide (x ≤ u) then putF q x else q
def ptL (f u : Int) (q : List Int) (M : List Int) : List Int := M.foldl (ptS f u) q
def ptA (f u : Int) (q : List Int) (L : List Mg) : List Int := L.foldl (fun q e => ptL f u q e.ts) q
theorem qbhv (f u : Int) (q : List Int) (x : Int) : (ptS f u q x).length ≤ q.length + 1 := by
  unfold ptS
  cases decide (x > f) && decide (x ≤ u)
  · rw [cond_f]; omega
  · rw [cond_t]; exact qbmp q x
theorem qbbw (f u : Int) : ∀ (M q : List Int), (ptL f u q M).length ≤ q.length + M.length
  | [], q => by simp [ptL]
  | x :: M, q => by
    have h1 := qbbw f u M (ptS f u q x)
    have h2 := qbhv f u q x
    unfold ptL at h1 ⊢
    rw [List.foldl_cons, List.length_cons]
    omega
theorem qbqy (l : List AV) (w f u : Int) (q : List AV) (c : Int) (M : List Int) (i : Nat) (x : Int) (h : M[i]? = some x) (hi : i < M.length) (kn : Bool → Option Bool) : qms l w f u q c (i : Int) (inL M) kn = kn (decide (x > f) && decide (x ≤ u)) := by
  have hg : (inL M)[((i : Nat) : Int).toNat]? = some (.int .i64 x) := by rw [Int.toNat_natCast, q5n, h]; rfl
  rw [qz5]
  unfold qhj
  have e1 : rdE (AV.int .i64 x) 0 false 1 = some (.int .i64 x) := rfl
  have e2 : fitV (.one (.i .i64)) (.int .i64 x) = true := rfl
  have e3 : aI (.int .i64 x) = x := rfl
  rw [hd_self, cond_t, decide_eq_true (show (0 : Int) ≤ (i : Int) ∧ (i : Int) < ((inL M).length : Int) by rw [qdw]; omega), cond_t, cond_t, hg, oB_s, e1, oB_s, e2, cond_t, e3]
  cases decide (x > f) with
  | false => rfl
  | true =>
    rw [cond_t, Bool.true_and, oB_s]
    rfl
theorem qbqb (l : List AV) (w f u : Int) (c : Int) (M : List Int) (hM : M.length ≤ 1000) (q : List Int) (hq : q.length ≤ 100000) (kx : List AV → Option Bool) : qmt l w f u c (inL M) kx FU (inL q) 0 = kx (inL (ptL f u q M)) := by
  rw [qz6]
  refine (qbw (σ := List AV) M (by omega) (fun n i s => qfa l w f u c (inL M) kx n s i) (fun i s nx => qe9 l w f u s c i (inL M) (fun x j => nx j x) kx) (fun n i s => rfl)
    (fun i s => ∃ q1 : List Int, s = inL q1 ∧ q1.length ≤ 100000 + i) (fun r s => kx (inL (ptL f u (s.map fun y => gI y.cells 0) r))) (fun s nx hJ => by
      obtain ⟨q1, rfl, hq1⟩ := hJ
      unfold qe9
      rw [qdw, decide_eq_false (show ¬ (M.length : Int) < (M.length : Int) by omega), cond_f, qig]
      rfl)
    (fun i x r s nx h1 h2 h3 h4 hJ hnx => by
      obtain ⟨q1, rfl, hq1⟩ := hJ
      unfold qe9
      have hl := qbhv f u q1 x
      rw [show ((inL M).length : Int) = (M.length : Int) by rw [qdw], decide_eq_true (show (i : Int) < (M.length : Int) by omega), cond_t, hd_self, Bool.and_self, cond_t, qbqy l w f u _ c M i x h2 h3]
      have e0 : ptL f u ((inL q1).map fun y => gI y.cells 0) (x :: r) = ptL f u (ptS f u q1 x) r := by rw [qig]; rfl
      have e9 : nx ((i + 1 : Nat) : Int) (inL (ptS f u q1 x)) = kx (inL (ptL f u (ptS f u q1 x) r)) := by
        rw [hnx _ ⟨_, rfl, by omega⟩, qig]
      rw [e0, ← e9, h4]
      unfold ptS
      cases decide (x > f) && decide (x ≤ u) with
      | false => rw [cond_f, cond_f]
      | true =>
        have hg : (inL M)[((i : Nat) : Int).toNat]? = some (.int .i64 x) := by rw [Int.toNat_natCast, q5n, h2]; rfl
        have e1 : rdE (AV.int .i64 x) 0 false 1 = some (.int .i64 x) := rfl
        have e2 : fitV (.one (.i .i64)) (.int .i64 x) = true := rfl
        have e3 : aI (.int .i64 x) = x := rfl
        rw [cond_t, cond_t, decide_eq_true (show (0 : Int) ≤ (i : Int) ∧ (i : Int) < (M.length : Int) by omega), cond_t, hg, oB_s, e1, oB_s, e2, cond_t, e3, qbqw q1 x (by omega), oB_s]
        rfl) (inL q) FU ⟨q, rfl, by omega⟩ (qcc (by omega))).trans ?_
  rw [qig]
theorem qbqz (w f u : Int) (L : List Mg) (hL : L.length ≤ 1000) (q : List Int) (hq : q.length ≤ 10) (kx : List AV → Option Bool) : qmu (mgL L) w f u kx FU (inL q) 0 = kx (inL (ptA f u q L)) := by
  rw [qz7]
  refine (qbw (σ := List AV) L (by omega) (fun n i s => qfc (mgL L) w f u kx n s i) (fun i s nx => qfb (mgL L) w f u s i (fun x j => nx j x) kx) (fun n i s => rfl)
    (fun i s => ∃ q1 : List Int, s = inL q1 ∧ q1.length ≤ 10 + 4 * i) (fun r s => kx (inL (ptA f u (s.map fun y => gI y.cells 0) r))) (fun s nx hJ => by
      obtain ⟨q1, rfl, hq1⟩ := hJ
      unfold qfb
      rw [qcy, decide_eq_false (show ¬ (L.length : Int) < (L.length : Int) by omega), cond_f, qig]
      rfl)
    (fun i e r s nx h1 h2 h3 h4 hJ hnx => by
      obtain ⟨q1, rfl, hq1⟩ := hJ
      have hg : (mgL L)[i]? = some e.av := by rw [qet, h2]; rfl
      unfold qfb
      have hl := qbbw f u e.ts q1
      have hl4 : e.ts.length = 4 := rfl
      simp only [qcy, decide_eq_true (show (i : Int) < (L.length : Int) by omega), cond_t, ixB_nat, hg, oB_s, qdx, hd_self, Bool.and_self]
      refine Eq.trans (qbqb (mgL L) w f u (i : Int) e.ts (by rw [hl4]; omega) q1 (by omega) _) ?_
      rw [h4, hnx _ ⟨_, rfl, by omega⟩, qig, qig]
      rfl) (inL q) FU ⟨q, rfl, by omega⟩ (qcc (by omega))).trans ?_
  rw [qig]
end Go.Proofs.YtmoedhehjonnhaaGreatDoor.Dn
