/- The keys that are published, that sign, that are trusted. -/
import Derived.Test.YtmoedhehjonnhaaGreatDoorRyLw22f
set_option linter.all false
namespace Go.Proofs.YtmoedhehjonnhaaGreatDoor.Dn
open Go Go.Pev
set_option linter.unusedVariables false
set_option linter.unusedSimpArgs false
set_option maxRecDepth 8000
def Mg.key (e : Mg) : AV := .agg [.str e.z, .bool e.k, .int .i64 e.s]
def kyL (L : List Mg) : List AV := L.map Mg.key
theorem q2g (L : List Mg) : (kyL L).length = L.length := by simp [kyL]
theorem q2h (e : Mg) : fitC qb8 e.key.cells = true := rfl
def mPub (e : Mg) (t : Int) : Bool := decide (e.p ≤ t) && decide (t < e.m)
def mSig (e : Mg) (t : Int) : Bool := decide (e.a ≤ t) && decide (t < e.r)
theorem qbcy (e : Mg) (t : Int) : qgh e.z e.k e.s e.p e.a e.r e.m t = some (mPub e t) := by rw [qrv]; rfl
theorem q4k (e : Mg) (t : Int) : qfq e.z e.k e.s e.p e.a e.r e.m t = some (mSig e t) := by rw [qx3]; rfl
theorem q69 {R : Type} (e : Mg) (now : Int) (a1 : List AV) (z : List UInt8) (k : Bool) (s p a r m : Int) (kr : Bool → Int → List AV → List UInt8 → Bool → Int → Int → Int → Int → Int → Option R) :
    qgt e.z e.k e.s e.p e.a e.r e.m now a1 z k s p a r m kr = kr (mPub e now) now a1 z k s p a r m := by
  rw [qn8]
  unfold qd2
  rw [qbcy, oB_s]
theorem q1h {R : Type} (L : List Mg) (now : Int) (hL : L.length ≤ 1000000) (kr : Int → List AV → Option R) :
    qcs (mgL L) now kr = kr now (kyL (L.filter fun e => mPub e now)) := by
  rw [qid]
  unfold qbv
  rw [hd_self, Bool.and_self, cond_t, qhh, qhg]
  have key := qco (σ := Int × List AV) L (by omega) (fun n i s => qbb (mgL L) (L.length : Int) (fun b0_0q1 a1q2 => (kr b0_0q1 a1q2)) n i s.1 s.2) (fun i s nx => qba (mgL L) (L.length : Int) i s.1 s.2 (fun j t q => nx j (t, q)) (fun b0_0q1 a1q2 => (kr b0_0q1 a1q2))) (fun n i s => rfl)
    (fun i s => s.1 = now ∧ s.2.length ≤ i) (fun r s => kr now (s.2 ++ kyL (r.filter fun e => mPub e now))) (fun s nx hJ => by
      unfold qba
      rw [decide_eq_false (show ¬ (L.length : Int) < (L.length : Int) by omega), cond_f, hJ.1]
      simp [kyL])
    (fun i e r s nx h1 h2 h3 h4 hJ hnx => by
      obtain ⟨t, q⟩ := s
      obtain ⟨ht, hq⟩ := hJ
      simp only at ht hq hnx ⊢
      subst ht
      have hg : (mgL L)[i]? = some e.av := by rw [qia, h2]; rfl
      unfold qba
      rw [decide_eq_true (show (i : Int) < (L.length : Int) by omega), cond_t, ixB_nat, hg, oB_s, qjy, cond_t]
      refine (q69 e t q _ _ _ _ _ _ _ _).trans ?_
      have hk : (AV.agg [(.str (gS e.av.cells 0)), (.bool (gB e.av.cells 1)), (.int .i64 (gI e.av.cells 2))]) = e.key := rfl
      have h1l : hd [e.key] ([e.key] : List AV).length = true := rfl
      cases hp : mPub e t with
      | true =>
        rw [cond_t, hd_self, cond_t, hk, h1l, cond_t, decide_eq_true (show (q.length + ([e.key] : List AV).length) * 32 ≤ 140737488355328 by rw [List.length_singleton]; omega), cond_t, hd_self, cond_t, h4]
        refine (hnx (t, q ++ [e.key]) ⟨rfl, by simp; omega⟩).trans ?_
        simp [kyL, hp]
      | false =>
        rw [cond_f, hd_self, cond_t, h4]
        refine (hnx (t, q) ⟨rfl, by simp only; omega⟩).trans ?_
        simp [kyL, hp]) (now, []) FU ⟨rfl, by simp⟩ (qd7 (by omega))
  simpa using key
theorem qm2 (L : List Mg) (now : Int) (hL : L.length ≤ 1000000) : qb9 (mgL L) now = some (kyL (L.filter fun e => mPub e now)) := by
  rw [qrw]
  unfold qfj
  rw [q1h L now hL, hd_self, cond_t]
theorem qbaq {R : Type} (e : Mg) (now : Int) (a1 : List AV) (z : List UInt8) (k : Bool) (s p a r m : Int) (kr : Bool → Int → List AV → List UInt8 → Bool → Int → Int → Int → Int → Int → Option R) :
    qhs e.z e.k e.s e.p e.a e.r e.m now a1 z k s p a r m kr = kr (mSig e now) now a1 z k s p a r m := by
  rw [qpz]
  unfold qe1
  rw [q4k, oB_s]
theorem q33 {R : Type} (L : List Mg) (now : Int) (hL : L.length ≤ 1000000) (kr : Int → List AV → Option R) :
    qcx (mgL L) now kr = kr now (kyL (L.filter fun e => mSig e now)) := by
  rw [qiw]
  unfold qb1
  rw [hd_self, Bool.and_self, cond_t, qh3, qhg]
  have key := qco (σ := Int × List AV) L (by omega) (fun n i s => qbf (mgL L) (L.length : Int) (fun b0_0q1 a1q2 => (kr b0_0q1 a1q2)) n i s.1 s.2) (fun i s nx => qbe (mgL L) (L.length : Int) i s.1 s.2 (fun j t q => nx j (t, q)) (fun b0_0q1 a1q2 => (kr b0_0q1 a1q2))) (fun n i s => rfl)
    (fun i s => s.1 = now ∧ s.2.length ≤ i) (fun r s => kr now (s.2 ++ kyL (r.filter fun e => mSig e now))) (fun s nx hJ => by
      unfold qbe
      rw [decide_eq_false (show ¬ (L.length : Int) < (L.length : Int) by omega), cond_f, hJ.1]
      simp [kyL])
    (fun i e r s nx h1 h2 h3 h4 hJ hnx => by
      obtain ⟨t, q⟩ := s
      obtain ⟨ht, hq⟩ := hJ
      simp only at ht hq hnx ⊢
      subst ht
      have hg : (mgL L)[i]? = some e.av := by rw [qia, h2]; rfl
      unfold qbe
      rw [decide_eq_true (show (i : Int) < (L.length : Int) by omega), cond_t, ixB_nat, hg, oB_s, qjy, cond_t]
      refine (qbaq e t q _ _ _ _ _ _ _ _).trans ?_
      have hk : (AV.agg [(.str (gS e.av.cells 0)), (.bool (gB e.av.cells 1)), (.int .i64 (gI e.av.cells 2))]) = e.key := rfl
      have h1l : hd [e.key] ([e.key] : List AV).length = true := rfl
      cases hp : mSig e t with
      | true =>
        rw [cond_t, hd_self, cond_t, hk, h1l, cond_t, decide_eq_true (show (q.length + ([e.key] : List AV).length) * 32 ≤ 140737488355328 by rw [List.length_singleton]; omega), cond_t, hd_self, cond_t, h4]
        refine (hnx (t, q ++ [e.key]) ⟨rfl, by simp; omega⟩).trans ?_
        simp [kyL, hp]
      | false =>
        rw [cond_f, hd_self, cond_t, h4]
        refine (hnx (t, q) ⟨rfl, by simp only; omega⟩).trans ?_
        simp [kyL, hp]) (now, []) FU ⟨rfl, by simp⟩ (qd7 (by omega))
  simpa using key
theorem qqy (L : List Mg) (now : Int) (hL : L.length ≤ 1000000) : qcb (mgL L) now = some (kyL (L.filter fun e => mSig e now)) := by
  rw [quu]
  unfold qgi
  rw [q33 L now hL, hd_self, cond_t]
theorem q6g (A : List Mg) (hA : A.length ≤ 1000000) : qj7 (kyL A) (kyL A) = some true := by
  rw [qy5]
  unfold qil
  rw [bne_self_eq_false, cond_f, qsz, q2g]
  exact qne A (by omega) (fun n i => qem (kyL A) (kyL A) (A.length : Int) (fun (_ : Unit) => (some true)) n i) (fun i nx => qel (kyL A) (kyL A) (A.length : Int) i nx (fun (_ : Unit) => (some true))) (fun n i => rfl) (fun _ => some true) (fun nx => by
      unfold qel
      rw [decide_eq_false (show ¬ (A.length : Int) < (A.length : Int) by omega), cond_f])
    (fun i e r nx h1 h2 h3 h4 hnx => by
      have hg : (kyL A)[i]? = some e.key := by
        unfold kyL
        rw [List.getElem?_map, h2]; rfl
      unfold qel
      rw [decide_eq_true (show (i : Int) < (A.length : Int) by omega), cond_t, ixB_nat, hg]
      simp only [oB_s, q2h, cond_t, beq_self_eq_true, Bool.and_self, Bool.not_true, cond_f]
      rw [h4, hnx])
end Go.Proofs.YtmoedhehjonnhaaGreatDoor.Dn
