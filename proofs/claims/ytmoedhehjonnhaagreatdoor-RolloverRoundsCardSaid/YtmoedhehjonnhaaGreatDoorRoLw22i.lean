/- Whether what is signed at one time is accepted at another; the program's Safe. -/
import Derived.Test.YtmoedhehjonnhaaGreatDoorRoLw22h
set_option linter.all false
namespace Go.Proofs.YtmoedhehjonnhaaGreatDoor.Dn
open Go Go.Pev
set_option linter.unusedVariables false
set_option linter.unusedSimpArgs false
set_option maxRecDepth 8000
def sv1 (t1 t2 : Int) (e : Mg) : Bool := !e.k && (mSig e t1 && mPub e t2)
def sv2 (t1 t2 : Int) (e : Mg) : Bool := e.k && (mSig e t1 && mSig e t2)
def qgz (L : List Mg) (t1 t2 : Int) : Bool := L.any (sv1 t1 t2) && L.any (sv2 t1 t2)
theorem q90 {R : Type} (e : Mg) (t1 t2 : Int) (kr : Bool → Int → Int → Option R) : qje e.z e.k e.s e.p e.a e.r e.m t1 t2 kr = kr (sv1 t1 t2 e) t1 t2 := by
  rw [qsc]
  unfold qfs sv1
  rw [q3o, qbb5]
  cases e.k <;> simp only [Bool.not_true, Bool.not_false, cond_t, cond_f, oB_s, Bool.true_and, Bool.false_and]
  cases mSig e t1 <;> rfl
theorem q91 {R : Type} (e : Mg) (t1 t2 : Int) (kr : Bool → Int → Int → Option R) : qjf e.z e.k e.s e.p e.a e.r e.m t1 t2 kr = kr (sv2 t1 t2 e) t1 t2 := by
  rw [qse]
  unfold qft sv2
  rw [q3o, q3o]
  cases e.k <;> simp only [cond_t, cond_f, oB_s, Bool.true_and, Bool.false_and]
  cases mSig e t1 <;> rfl
theorem qbej {R : Type} (L : List Mg) (hL : L.length ≤ 1000000) (t1 t2 : Int) (kr : Bool → Int → Int → Option R) : q8 (mgL L) t1 t2 kr = kr (L.any (sv1 t1 t2)) t1 t2 := by
  rw [qcz]
  unfold qm
  rw [qdo]
  unfold qo
  rw [qcx, qi4]
  exact qde (σ := Int × Int) L (by omega) (fun n i s => qi (mgL L) (L.length : Int) (fun b0_0q1 b1_0q2 => ((fun v4q1 b0_0q2 b1_0q3 => (kr (decide (v4q1 ≥ 0)) b0_0q2 b1_0q3)) (-1 : Int) b0_0q1 b1_0q2)) (fun v4q1 b0_0q2 b1_0q3 => (kr (decide (v4q1 ≥ 0)) b0_0q2 b1_0q3)) n i s.1 s.2)
    (fun i s nx => qh (mgL L) (L.length : Int) i s.1 s.2 (fun j x y => nx j (x, y)) (fun b0_0q1 b1_0q2 => ((fun v4q1 b0_0q2 b1_0q3 => (kr (decide (v4q1 ≥ 0)) b0_0q2 b1_0q3)) (-1 : Int) b0_0q1 b1_0q2)) (fun v4q1 b0_0q2 b1_0q3 => (kr (decide (v4q1 ≥ 0)) b0_0q2 b1_0q3))) (fun n i s => rfl)
    (fun _ s => s = (t1, t2)) (fun r s => kr (r.any (sv1 t1 t2)) t1 t2) (fun s nx hJ => by
      subst hJ
      unfold qh
      rw [decide_eq_false (show ¬ (L.length : Int) < (L.length : Int) by omega), cond_f]
      rfl)
    (fun i e r s nx h1 h2 h3 h4 hJ hnx => by
      subst hJ
      have hg : (mgL L)[i]? = some e.av := by rw [qi5, h2]; rfl
      unfold qh
      rw [decide_eq_true (show (i : Int) < (L.length : Int) by omega), cond_t, ixB_nat, hg, oB_s, qlj, cond_t]
      refine (q90 e t1 t2 _).trans ?_
      rw [List.any_cons]
      cases h : sv1 t1 t2 e with
      | true =>
        rw [cond_t, Bool.true_or]
        dsimp only
        rw [decide_eq_true (show (i : Int) ≥ 0 by omega)]
      | false =>
        rw [cond_f, Bool.false_or, h4]
        exact hnx (t1, t2) rfl) (t1, t2) FU rfl (qek (by omega))
theorem qbek {R : Type} (L : List Mg) (hL : L.length ≤ 1000000) (t1 t2 : Int) (kr : Bool → Int → Int → Option R) : q9 (mgL L) t1 t2 kr = kr (L.any (sv2 t1 t2)) t1 t2 := by
  rw [qc2]
  unfold qn
  rw [qdq]
  unfold qp
  rw [qc0, qi4]
  exact qde (σ := Int × Int) L (by omega) (fun n i s => qk (mgL L) (L.length : Int) (fun b0_0q1 b1_0q2 => ((fun v4q1 b0_0q2 b1_0q3 => (kr (decide (v4q1 ≥ 0)) b0_0q2 b1_0q3)) (-1 : Int) b0_0q1 b1_0q2)) (fun v4q1 b0_0q2 b1_0q3 => (kr (decide (v4q1 ≥ 0)) b0_0q2 b1_0q3)) n i s.1 s.2)
    (fun i s nx => qj (mgL L) (L.length : Int) i s.1 s.2 (fun j x y => nx j (x, y)) (fun b0_0q1 b1_0q2 => ((fun v4q1 b0_0q2 b1_0q3 => (kr (decide (v4q1 ≥ 0)) b0_0q2 b1_0q3)) (-1 : Int) b0_0q1 b1_0q2)) (fun v4q1 b0_0q2 b1_0q3 => (kr (decide (v4q1 ≥ 0)) b0_0q2 b1_0q3))) (fun n i s => rfl)
    (fun _ s => s = (t1, t2)) (fun r s => kr (r.any (sv2 t1 t2)) t1 t2) (fun s nx hJ => by
      subst hJ
      unfold qj
      rw [decide_eq_false (show ¬ (L.length : Int) < (L.length : Int) by omega), cond_f]
      rfl)
    (fun i e r s nx h1 h2 h3 h4 hJ hnx => by
      subst hJ
      have hg : (mgL L)[i]? = some e.av := by rw [qi5, h2]; rfl
      unfold qj
      rw [decide_eq_true (show (i : Int) < (L.length : Int) by omega), cond_t, ixB_nat, hg, oB_s, qlj, cond_t]
      refine (q91 e t1 t2 _).trans ?_
      rw [List.any_cons]
      cases h : sv2 t1 t2 e with
      | true =>
        rw [cond_t, Bool.true_or]
        dsimp only
        rw [decide_eq_true (show (i : Int) ≥ 0 by omega)]
      | false =>
        rw [cond_f, Bool.false_or, h4]
        exact hnx (t1, t2) rfl) (t1, t2) FU rfl (qek (by omega))
theorem qbbl (L : List Mg) (hL : L.length ≤ 1000000) (t1 t2 : Int) : qk4 (mgL L) t1 t2 = some (qgz L t1 t2) := by
  rw [qu1]
  unfold qgp
  rw [qbej L hL, qbek L hL]
  rfl
def qlk (f u t : Int) : List Int := [t - 1, t, t + 1].filter fun x => decide (x ≥ f) && decide (x ≤ u)
def momL (f u : Int) (L : List Mg) : List Int := L.flatMap fun e => e.ts.flatMap (qlk f u)
def inR (L : List Mg) : Prop := ∀ e, e ∈ L → ∀ t, t ∈ e.ts → 0 ≤ t ∧ t ≤ 4294967295
theorem q1i (b : Bool) (x : Int) : (bif b then [x] else []).length ≤ 1 := by cases b <;> simp
theorem qbel (f u t : Int) (ht : 0 ≤ t ∧ t ≤ 4294967295) (v16 : List AV) (v17 v18 a b c d v24 : Int) (q : List Int) (hq : q.length ≤ 100000000) (kx : List AV → Option (List AV)) :
    qhe f u t v16 v17 v18 a b c d v24 kx FU (-1) (inL q) = kx (inL (q ++ qlk f u t)) := by
  rw [qpa]
  obtain ⟨m, hm⟩ : ∃ m, FU = m + 1 + 1 + 1 + 1 := ⟨FU - 4, by rw [qwb]⟩
  rw [hm]
  have st : ∀ (n : Nat) (x j : Int) (q : List Int), q.length ≤ 200000000 → -1 ≤ x → x ≤ 1 → IntKind.i64.wrap (x + 1) = j → qbk f u t v16 v17 v18 a b c d v24 kx (n + 1) x (inL q) = qbk f u t v16 v17 v18 a b c d v24 kx n j (inL (q ++ bif decide (t + x ≥ f) && decide (t + x ≤ u) then [t + x] else [])) := by
    intro n x j q hq h1 h2 hj
    rw [qbk]
    unfold qet
    dsimp only
    rw [decide_eq_true (show x ≤ 1 by omega), cond_t, w64 (show -9223372036854775808 ≤ t + x by omega) (by omega), hj]
    cases decide (t + x ≥ f) && decide (t + x ≤ u) with
    | true =>
      rw [cond_t, cond_t, hd_self, cond_t]
      have h1l : hd [AV.int .i64 (t + x)] ([AV.int .i64 (t + x)] : List AV).length = true := rfl
      rw [h1l, cond_t, decide_eq_true (show ((inL q).length + ([AV.int .i64 (t + x)] : List AV).length) * 8 ≤ 140737488355328 by rw [qrp, List.length_singleton]; omega), cond_t]
      congr 1
      simp [inL]
    | false =>
      rw [cond_f, cond_f, List.append_nil]
  rw [st _ (-1) 0 q (by omega) (by omega) (by omega) rfl, st _ 0 1 _ (by rw [List.length_append]; have := q1i (decide (t + -1 ≥ f) && decide (t + -1 ≤ u)) (t + -1); omega) (by omega) (by omega) rfl, st _ 1 2 _ (by rw [List.length_append, List.length_append]; have := q1i (decide (t + -1 ≥ f) && decide (t + -1 ≤ u)) (t + -1); have := q1i (decide (t + 0 ≥ f) && decide (t + 0 ≤ u)) (t + 0); omega) (by omega) (by omega) rfl]
  rw [qbk]
  unfold qet
  dsimp only
  rw [decide_eq_false (by decide), cond_f]
  congr 2
  unfold qlk
  rw [List.append_assoc, List.append_assoc]
  congr 1
  have e1 : t + -1 = t - 1 := by omega
  have e2 : t + 0 = t := by omega
  rw [e1, e2]
  simp only [List.filter_cons, List.filter_nil]
  cases decide (t - 1 ≥ f) && decide (t - 1 ≤ u) <;> cases decide (t ≥ f) && decide (t ≤ u) <;> cases decide (t + 1 ≥ f) && decide (t + 1 ≤ u) <;> rfl
theorem qmy (f u t : Int) : (qlk f u t).length ≤ 3 := by
  unfold qlk
  exact Nat.le_trans (List.length_filter_le _ _) (by simp)
theorem qbem (f u : Int) (v16 : List AV) (v17 v18 : Int) (e : Mg) (he : ∀ t, t ∈ e.ts → 0 ≤ t ∧ t ≤ 4294967295) (q : List Int) (hq : q.length ≤ 10000000) (kx : List AV → Option (List AV)) :
    qhf f u v16 v17 v18 e.p e.a e.r e.m kx FU 0 (inL q) = kx (inL (q ++ e.ts.flatMap (qlk f u))) := by
  rw [qpb]
  have key := qde (σ := List AV) e.ts (by simp [Mg.ts]) (fun n i s => qcu f u v16 v17 v18 e.p e.a e.r e.m kx n i s) (fun i s nx => qct f u v16 v17 v18 e.p e.a e.r e.m i s nx kx) (fun n i s => rfl)
    (fun i s => ∃ q1 : List Int, s = inL q1 ∧ q1.length ≤ 10000000 + 3 * i) (fun r s => kx (s ++ inL (r.flatMap (qlk f u)))) (fun s nx hJ => by
      unfold qct
      have : ((e.ts.length : Nat) : Int) = 4 := rfl
      rw [this, decide_eq_false (by decide), cond_f]
      simp [inL])
    (fun i t r s nx h1 h2 h3 h4 hJ hnx => by
      obtain ⟨q1, rfl, hq1⟩ := hJ
      have h3' : i < 4 := h3
      unfold qct
      rw [decide_eq_true (show (i : Int) < 4 by omega), cond_t, qbb4 _ _ _ _ t i h2]
      show (bif fitV (.one (.i .i64)) (.int .i64 t) then _ else none) = _
      have e1 : fitV (.one (.i .i64)) (.int .i64 t) = true := rfl
      have e2 : aI (.int .i64 t) = t := rfl
      rw [e1, cond_t, hd_self, Bool.and_self, cond_t, e2]
      refine (qbel f u t (he t (List.mem_of_getElem? h2)) _ _ _ _ _ _ _ _ q1 (by omega) _).trans ?_
      rw [h4]
      have hl := qmy f u t
      refine (hnx _ ⟨_, rfl, by rw [List.length_append]; omega⟩).trans ?_
      simp [inL]) (inL q) FU ⟨q, rfl, by omega⟩ (qek (by simp [Mg.ts]))
  simpa [inL] using key
theorem q92 (f u : Int) (e : Mg) : (e.ts.flatMap (qlk f u)).length ≤ 12 := by
  have h1 := qmy f u e.p
  have h2 := qmy f u e.a
  have h3 := qmy f u e.r
  have h4 := qmy f u e.m
  simp [Mg.ts]
  omega
theorem qyq (f u : Int) : ∀ L : List Mg, (momL f u L).length ≤ 12 * L.length
  | [] => by simp [momL]
  | e :: L => by
    have h1 := qyq f u L
    have h2 := q92 f u e
    unfold momL at h1 ⊢
    rw [List.flatMap_cons, List.length_append, List.length_cons]
    omega
def momS (f u : Int) (L : List Mg) : List Int := Lib.compact (([f, u] ++ momL f u L).mergeSort fun x y => decide (x ≤ y))
theorem q93 (f u : Int) (L : List Mg) (hL : L.length ≤ 1000) (hR : inR L) : qj1 (mgL L) f u = some (inL (momS f u L)) := by
  rw [qt5]
  unfold qf8
  have h0 : ([(.int .i64 f), (.int .i64 u)] : List AV) = inL [f, u] := rfl
  rw [h0, hd_self, Bool.and_self, cond_t, qqf, qi4]
  have fin : ∀ q : List Int, q.length ≤ 1000000 → 0 < q.length → (fun a0q1 => (bif hd a0q1 a0q1.length then (oB (qiq a0q1) fun r2 => (bif hd r2 a0q1.length then (oB (qfc r2) fun r3 => (bif hd r3 r3.length then (some r3) else none)) else none)) else none)) (inL q) = some (inL (Lib.compact (q.mergeSort fun x y => decide (x ≤ y)))) := by
    intro q hq hq0
    have h1 : qiq (inL q) = some (inL (q.mergeSort fun x y => decide (x ≤ y))) := by
      unfold qiq inL
      rw [qtc]
      have e1 : Nat.blt 0 q.length = true := by simpa using hq0
      have e2 : Nat.blt q.length 4611686018427387904 = true := by simp; omega
      simp [e1, e2]
    have h2 : qfc (inL (q.mergeSort fun x y => decide (x ≤ y))) = some (inL (Lib.compact (q.mergeSort fun x y => decide (x ≤ y)))) := by
      unfold qfc inL
      rw [qtc]
      have e1 : Nat.blt 0 q.length = true := by simpa using hq0
      have e2 : Nat.blt q.length 4611686018427387904 = true := by simp; omega
      simp [e1, e2]
    have h3 : hd (inL (q.mergeSort fun x y => decide (x ≤ y))) (inL q).length = true := by simp [hd, inL]
    dsimp only
    rw [hd_self, cond_t, h1, oB_s, h3, cond_t, h2, oB_s, hd_self, cond_t]
  have key := qde (σ := List AV) L (by omega) (fun n i s => qdh f u (mgL L) (L.length : Int) (fun a0q1 => (bif hd a0q1 a0q1.length then (oB (qiq a0q1) fun r2 => (bif hd r2 a0q1.length then (oB (qfc r2) fun r3 => (bif hd r3 r3.length then (some r3) else none)) else none)) else none)) n i s) (fun i s nx => qdg f u (mgL L) (L.length : Int) i s nx (fun a0q1 => (bif hd a0q1 a0q1.length then (oB (qiq a0q1) fun r2 => (bif hd r2 a0q1.length then (oB (qfc r2) fun r3 => (bif hd r3 r3.length then (some r3) else none)) else none)) else none))) (fun n i s => rfl)
    (fun i s => ∃ q1 : List Int, s = inL q1 ∧ q1.length ≤ 2 + 12 * i ∧ 0 < q1.length) (fun r s => (fun a0q1 => (bif hd a0q1 a0q1.length then (oB (qiq a0q1) fun r2 => (bif hd r2 a0q1.length then (oB (qfc r2) fun r3 => (bif hd r3 r3.length then (some r3) else none)) else none)) else none)) (s ++ inL (momL f u r))) (fun s nx hJ => by
      unfold qdg
      rw [decide_eq_false (show ¬ (L.length : Int) < (L.length : Int) by omega), cond_f]
      simp [momL, inL])
    (fun i e r s nx h1 h2 h3 h4 hJ hnx => by
      obtain ⟨q1, rfl, hq1, hq2⟩ := hJ
      have hg : (mgL L)[i]? = some e.av := by rw [qi5, h2]; rfl
      unfold qdg
      rw [decide_eq_true (show (i : Int) < (L.length : Int) by omega), cond_t, ixB_nat, hg, oB_s, qlj, cond_t]
      have ht : qel (gS e.av.cells 0) (gB e.av.cells 1) (gI e.av.cells 2) (gI e.av.cells 3) (gI e.av.cells 4) (gI e.av.cells 5) (gI e.av.cells 6) = some (.agg [.int .i64 e.p, .int .i64 e.a, .int .i64 e.r, .int .i64 e.m]) := q1h e
      rw [ht, oB_s, hd_self, Bool.and_self, cond_t]
      refine (qbem f u _ _ _ e (hR e (List.mem_of_getElem? h2)) q1 (by omega) _).trans ?_
      rw [h4]
      have hl := q92 f u e
      refine (hnx _ ⟨_, rfl, by rw [List.length_append]; omega, by rw [List.length_append]; omega⟩).trans ?_
      congr 1
      simp [inL, momL]) (inL [f, u]) FU ⟨_, rfl, by simp, by simp⟩ (qek (by omega))
  refine key.trans ?_
  have hl := qyq f u L
  have := fin ([f, u] ++ momL f u L) (by simp; omega) (by simp)
  refine Eq.trans ?_ this
  first
    | rfl
    | (congr 1; simp [inL])
end Go.Proofs.YtmoedhehjonnhaaGreatDoor.Dn
