/- The keys that are published, that sign, that are trusted. -/
import Derived.Test.YtmoedhehjonnhaaGreatDoorRsLw22f
set_option linter.all false
namespace Go.Proofs.YtmoedhehjonnhaaGreatDoor.Dn
open Go Go.Pev
set_option linter.unusedVariables false
set_option linter.unusedSimpArgs false
set_option maxRecDepth 8000
def Mg.key (e : Mg) : AV := .agg [.str e.z, .bool e.k, .int .i64 e.s]
def kyL (L : List Mg) : List AV := L.map Mg.key
def mPub (e : Mg) (t : Int) : Bool := decide (e.p ≤ t) && decide (t < e.m)
def mSig (e : Mg) (t : Int) : Bool := decide (e.a ≤ t) && decide (t < e.r)
theorem qbm8 (e : Mg) (t : Int) : qh4 e.z e.k e.s e.p e.a e.r e.m t = some (mPub e t) := by rw [qxo]; rfl
theorem qbp1 (e : Mg) (t : Int) : qk9 e.z e.k e.s e.p e.a e.r e.m t = some (mPub e t) := by rw [qxq]; rfl
theorem qbd5 (e : Mg) (t : Int) : qgs e.z e.k e.s e.p e.a e.r e.m t = some (mSig e t) := by rw [q6n]; rfl
theorem qbf3 (e : Mg) (t : Int) : qi0 e.z e.k e.s e.p e.a e.r e.m t = some (mSig e t) := by rw [q6o]; rfl
theorem qbgz {R : Type} (e : Mg) (now : Int) (a1 : List AV) (z : List UInt8) (k : Bool) (s p a r m : Int) (kr : Bool → Int → List AV → List UInt8 → Bool → Int → Int → Int → Int → Int → Option R) :
    qie e.z e.k e.s e.p e.a e.r e.m now a1 z k s p a r m kr = kr (mPub e now) now a1 z k s p a r m := by
  rw [qsv]
  unfold qei
  rw [qbm8, oB_s]
theorem qbap {R : Type} (L : List Mg) (now : Int) (hL : L.length ≤ 1000000) (kr : Int → List AV → Option R) :
    qcv (mgL L) now kr = kr now (kyL (L.filter fun e => mPub e now)) := by
  rw [qkg]
  unfold qb3
  rw [hd_self, Bool.and_self, cond_t, qi7, qcy]
  have key := qbw (σ := Int × List AV) L (by omega) (fun n i s => qbf (mgL L) (L.length : Int) (fun b0_0q1 a1q2 => (kr b0_0q1 a1q2)) n i s.1 s.2) (fun i s nx => qbe (mgL L) (L.length : Int) i s.1 s.2 (fun j t q => nx j (t, q)) (fun b0_0q1 a1q2 => (kr b0_0q1 a1q2))) (fun n i s => rfl)
    (fun i s => s.1 = now ∧ s.2.length ≤ i) (fun r s => kr now (s.2 ++ kyL (r.filter fun e => mPub e now))) (fun s nx hJ => by
      unfold qbe
      rw [decide_eq_false (show ¬ (L.length : Int) < (L.length : Int) by omega), cond_f, hJ.1]
      simp [kyL])
    (fun i e r s nx h1 h2 h3 h4 hJ hnx => by
      obtain ⟨t, q⟩ := s
      obtain ⟨ht, hq⟩ := hJ
      simp only at ht hq hnx ⊢
      subst ht
      have hg : (mgL L)[i]? = some e.av := by rw [qet, h2]; rfl
      unfold qbe
      rw [decide_eq_true (show (i : Int) < (L.length : Int) by omega), cond_t, ixB_nat, hg, oB_s, qdx, cond_t]
      refine (qbgz e t q _ _ _ _ _ _ _ _).trans ?_
      have hk : (AV.agg [(.str (gS e.av.cells 0)), (.bool (gB e.av.cells 1)), (.int .i64 (gI e.av.cells 2))]) = e.key := rfl
      have h1l : hd [e.key] ([e.key] : List AV).length = true := rfl
      cases hp : mPub e t with
      | true =>
        rw [cond_t, hd_self, cond_t, hk, h1l, cond_t, decide_eq_true (show (q.length + ([e.key] : List AV).length) * 32 ≤ 140737488355328 by rw [List.length_singleton]; omega), cond_t, hd_self, cond_t, h4]
        refine (hnx (t, q ++ [e.key]) ⟨rfl, by simp; omega⟩).trans ?_
        simp [kyL, hp]
      | false =>
        rw [cond_f, hd_self, cond_t, h4]
        refine (hnx (t, q) ⟨rfl, by simp only; omega⟩).trans ?_
        simp [kyL, hp]) (now, []) FU ⟨rfl, by simp⟩ (qcc (by omega))
  simpa using key
theorem qbg0 (L : List Mg) (now : Int) (hL : L.length ≤ 1000000) : qfx (mgL L) now = some (kyL (L.filter fun e => mPub e now)) := by
  rw [qxp]
  unfold qgl
  rw [qbap L now hL, hd_self, cond_t]
theorem qbks {R : Type} (e : Mg) (now : Int) (a1 : List AV) (z : List UInt8) (k : Bool) (s p a r m : Int) (kr : Bool → Int → List AV → List UInt8 → Bool → Int → Int → Int → Int → Int → Option R) :
    qjs e.z e.k e.s e.p e.a e.r e.m now a1 z k s p a r m kr = kr (mSig e now) now a1 z k s p a r m := by
  rw [quz]
  unfold qfq
  rw [qbd5, oB_s]
theorem qbdo {R : Type} (L : List Mg) (now : Int) (hL : L.length ≤ 1000000) (kr : Int → List AV → Option R) :
    qc2 (mgL L) now kr = kr now (kyL (L.filter fun e => mSig e now)) := by
  rw [qlb]
  unfold qcb
  rw [hd_self, Bool.and_self, cond_t, qj6, qcy]
  have key := qbw (σ := Int × List AV) L (by omega) (fun n i s => qbk (mgL L) (L.length : Int) (fun b0_0q1 a1q2 => (kr b0_0q1 a1q2)) n i s.1 s.2) (fun i s nx => qbj (mgL L) (L.length : Int) i s.1 s.2 (fun j t q => nx j (t, q)) (fun b0_0q1 a1q2 => (kr b0_0q1 a1q2))) (fun n i s => rfl)
    (fun i s => s.1 = now ∧ s.2.length ≤ i) (fun r s => kr now (s.2 ++ kyL (r.filter fun e => mSig e now))) (fun s nx hJ => by
      unfold qbj
      rw [decide_eq_false (show ¬ (L.length : Int) < (L.length : Int) by omega), cond_f, hJ.1]
      simp [kyL])
    (fun i e r s nx h1 h2 h3 h4 hJ hnx => by
      obtain ⟨t, q⟩ := s
      obtain ⟨ht, hq⟩ := hJ
      simp only at ht hq hnx ⊢
      subst ht
      have hg : (mgL L)[i]? = some e.av := by rw [qet, h2]; rfl
      unfold qbj
      rw [decide_eq_true (show (i : Int) < (L.length : Int) by omega), cond_t, ixB_nat, hg, oB_s, qdx, cond_t]
      refine (qbks e t q _ _ _ _ _ _ _ _).trans ?_
      have hk : (AV.agg [(.str (gS e.av.cells 0)), (.bool (gB e.av.cells 1)), (.int .i64 (gI e.av.cells 2))]) = e.key := rfl
      have h1l : hd [e.key] ([e.key] : List AV).length = true := rfl
      cases hp : mSig e t with
      | true =>
        rw [cond_t, hd_self, cond_t, hk, h1l, cond_t, decide_eq_true (show (q.length + ([e.key] : List AV).length) * 32 ≤ 140737488355328 by rw [List.length_singleton]; omega), cond_t, hd_self, cond_t, h4]
        refine (hnx (t, q ++ [e.key]) ⟨rfl, by simp; omega⟩).trans ?_
        simp [kyL, hp]
      | false =>
        rw [cond_f, hd_self, cond_t, h4]
        refine (hnx (t, q) ⟨rfl, by simp only; omega⟩).trans ?_
        simp [kyL, hp]) (now, []) FU ⟨rfl, by simp⟩ (qcc (by omega))
  simpa using key
theorem qbkt (L : List Mg) (now : Int) (hL : L.length ≤ 1000000) : qg0 (mgL L) now = some (kyL (L.filter fun e => mSig e now)) := by
  rw [q2b]
  unfold qh5
  rw [qbdo L now hL, hd_self, cond_t]
end Go.Proofs.YtmoedhehjonnhaaGreatDoor.Dn
