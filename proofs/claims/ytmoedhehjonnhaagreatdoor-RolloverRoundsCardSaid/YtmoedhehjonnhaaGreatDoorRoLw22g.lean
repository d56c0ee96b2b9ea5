/- The keys that are published, that sign, that are trusted. -/
import Derived.Test.YtmoedhehjonnhaaGreatDoorRoLw22f
set_option linter.all false
namespace Go.Proofs.YtmoedhehjonnhaaGreatDoor.Dn
open Go Go.Pev
set_option linter.unusedVariables false
set_option linter.unusedSimpArgs false
set_option maxRecDepth 8000
def Mg.key (e : Mg) : AV := .agg [.str e.z, .bool e.k, .int .i64 e.s]
def kyL (L : List Mg) : List AV := L.map Mg.key
def mPub (e : Mg) (t : Int) : Bool := decide (e.p ≤ t) && decide (t < e.m)
def mSig (e : Mg) (t : Int) : Bool := decide (e.a ≤ t) && decide (t < e.r)
theorem qbb5 (e : Mg) (t : Int) : qf6 e.z e.k e.s e.p e.a e.r e.m t = some (mPub e t) := by rw [qq1]; rfl
theorem q3o (e : Mg) (t : Int) : qfe e.z e.k e.s e.p e.a e.r e.m t = some (mSig e t) := by rw [qw9]; rfl
theorem q6e {R : Type} (e : Mg) (now : Int) (a1 : List AV) (z : List UInt8) (k : Bool) (s p a r m : Int) (kr : Bool → Int → List AV → List UInt8 → Bool → Int → Int → Int → Int → Int → Option R) :
    qge e.z e.k e.s e.p e.a e.r e.m now a1 z k s p a r m kr = kr (mPub e now) now a1 z k s p a r m := by
  rw [qnp]
  unfold qdy
  rw [qbb5, oB_s]
theorem q0k {R : Type} (L : List Mg) (now : Int) (hL : L.length ≤ 1000000) (kr : Int → List AV → Option R) :
    qcp (mgL L) now kr = kr now (kyL (L.filter fun e => mPub e now)) := by
  rw [qhy]
  unfold qbv
  rw [hd_self, Bool.and_self, cond_t, qg1, qi4]
  have key := qde (σ := Int × List AV) L (by omega) (fun n i s => qbb (mgL L) (L.length : Int) (fun b0_0q1 a1q2 => (kr b0_0q1 a1q2)) n i s.1 s.2) (fun i s nx => qba (mgL L) (L.length : Int) i s.1 s.2 (fun j t q => nx j (t, q)) (fun b0_0q1 a1q2 => (kr b0_0q1 a1q2))) (fun n i s => rfl)
    (fun i s => s.1 = now ∧ s.2.length ≤ i) (fun r s => kr now (s.2 ++ kyL (r.filter fun e => mPub e now))) (fun s nx hJ => by
      unfold qba
      rw [decide_eq_false (show ¬ (L.length : Int) < (L.length : Int) by omega), cond_f, hJ.1]
      simp [kyL])
    (fun i e r s nx h1 h2 h3 h4 hJ hnx => by
      obtain ⟨t, q⟩ := s
      obtain ⟨ht, hq⟩ := hJ
      simp only at ht hq hnx ⊢
      subst ht
      have hg : (mgL L)[i]? = some e.av := by rw [qi5, h2]; rfl
      unfold qba
      rw [decide_eq_true (show (i : Int) < (L.length : Int) by omega), cond_t, ixB_nat, hg, oB_s, qlj, cond_t]
      refine (q6e e t q _ _ _ _ _ _ _ _).trans ?_
      have hk : (AV.agg [(.str (gS e.av.cells 0)), (.bool (gB e.av.cells 1)), (.int .i64 (gI e.av.cells 2))]) = e.key := rfl
      have h1l : hd [e.key] ([e.key] : List AV).length = true := rfl
      cases hp : mPub e t with
      | true =>
        rw [cond_t, hd_self, cond_t, hk, h1l, cond_t, decide_eq_true (show (q.length + ([e.key] : List AV).length) * 32 ≤ 140737488355328 by rw [List.length_singleton]; omega), cond_t, hd_self, cond_t, h4]
        refine (hnx (t, q ++ [e.key]) ⟨rfl, by simp; omega⟩).trans ?_
        simp [kyL, hp]
      | false =>
        rw [cond_f, hd_self, cond_t, h4]
        refine (hnx (t, q) ⟨rfl, by simp only; omega⟩).trans ?_
        simp [kyL, hp]) (now, []) FU ⟨rfl, by simp⟩ (qek (by omega))
  simpa using key
theorem q6f (L : List Mg) (now : Int) (hL : L.length ≤ 1000000) : qex (mgL L) now = some (kyL (L.filter fun e => mPub e now)) := by
  rw [qq2]
  unfold qe9
  rw [q0k L now hL, hd_self, cond_t]
theorem q9x {R : Type} (e : Mg) (now : Int) (a1 : List AV) (z : List UInt8) (k : Bool) (s p a r m : Int) (kr : Bool → Int → List AV → List UInt8 → Bool → Int → Int → Int → Int → Int → Option R) :
    qhd e.z e.k e.s e.p e.a e.r e.m now a1 z k s p a r m kr = kr (mSig e now) now a1 z k s p a r m := by
  rw [qo9]
  unfold qes
  rw [q3o, oB_s]
theorem q26 {R : Type} (L : List Mg) (now : Int) (hL : L.length ≤ 1000000) (kr : Int → List AV → Option R) :
    qcs (mgL L) now kr = kr now (kyL (L.filter fun e => mSig e now)) := by
  rw [qih]
  unfold qb1
  rw [hd_self, Bool.and_self, cond_t, qhr, qi4]
  have key := qde (σ := Int × List AV) L (by omega) (fun n i s => qbf (mgL L) (L.length : Int) (fun b0_0q1 a1q2 => (kr b0_0q1 a1q2)) n i s.1 s.2) (fun i s nx => qbe (mgL L) (L.length : Int) i s.1 s.2 (fun j t q => nx j (t, q)) (fun b0_0q1 a1q2 => (kr b0_0q1 a1q2))) (fun n i s => rfl)
    (fun i s => s.1 = now ∧ s.2.length ≤ i) (fun r s => kr now (s.2 ++ kyL (r.filter fun e => mSig e now))) (fun s nx hJ => by
      unfold qbe
      rw [decide_eq_false (show ¬ (L.length : Int) < (L.length : Int) by omega), cond_f, hJ.1]
      simp [kyL])
    (fun i e r s nx h1 h2 h3 h4 hJ hnx => by
      obtain ⟨t, q⟩ := s
      obtain ⟨ht, hq⟩ := hJ
      simp only at ht hq hnx ⊢
      subst ht
      have hg : (mgL L)[i]? = some e.av := by rw [qi5, h2]; rfl
      unfold qbe
      rw [decide_eq_true (show (i : Int) < (L.length : Int) by omega), cond_t, ixB_nat, hg, oB_s, qlj, cond_t]
      refine (q9x e t q _ _ _ _ _ _ _ _).trans ?_
      have hk : (AV.agg [(.str (gS e.av.cells 0)), (.bool (gB e.av.cells 1)), (.int .i64 (gI e.av.cells 2))]) = e.key := rfl
      have h1l : hd [e.key] ([e.key] : List AV).length = true := rfl
      cases hp : mSig e t with
      | true =>
        rw [cond_t, hd_self, cond_t, hk, h1l, cond_t, decide_eq_true (show (q.length + ([e.key] : List AV).length) * 32 ≤ 140737488355328 by rw [List.length_singleton]; omega), cond_t, hd_self, cond_t, h4]
        refine (hnx (t, q ++ [e.key]) ⟨rfl, by simp; omega⟩).trans ?_
        simp [kyL, hp]
      | false =>
        rw [cond_f, hd_self, cond_t, h4]
        refine (hnx (t, q) ⟨rfl, by simp only; omega⟩).trans ?_
        simp [kyL, hp]) (now, []) FU ⟨rfl, by simp⟩ (qek (by omega))
  simpa using key
theorem q9y (L : List Mg) (now : Int) (hL : L.length ≤ 1000000) : qfl (mgL L) now = some (kyL (L.filter fun e => mSig e now)) := by
  rw [qt1]
  unfold qf7
  rw [q26 L now hL, hd_self, cond_t]
end Go.Proofs.YtmoedhehjonnhaaGreatDoor.Dn
