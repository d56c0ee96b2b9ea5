/- The keys that are published, that sign, that are trusted. -/
import Derived.Test.YtmoedhehjonnhaaGreatDoorRcLw22f
set_option linter.all false
namespace Go.Proofs.YtmoedhehjonnhaaGreatDoor.Dn
open Go Go.Pev
set_option linter.unusedVariables false
set_option linter.unusedSimpArgs false
set_option maxRecDepth 8000
def Mg.key (e : Mg) : AV := .agg [.str e.z, .bool e.k, .int .i64 e.s]
def kyL (L : List Mg) : List AV := L.map Mg.key
theorem qbn7 (L : List Mg) : (kyL L).length = L.length := by simp [kyL]
theorem qbn8 (e : Mg) : fitC qc3 e.key.cells = true := rfl
def mPub (e : Mg) (t : Int) : Bool := decide (e.p ≤ t) && decide (t < e.m)
def mSig (e : Mg) (t : Int) : Bool := decide (e.a ≤ t) && decide (t < e.r)
def mTru (e : Mg) (t : Int) : Bool := e.k && mSig e t
theorem qbmx (e : Mg) (t : Int) : qia e.z e.k e.s e.p e.a e.r e.m t = some (mPub e t) := by rw [qx9]; rfl
theorem qbpm (e : Mg) (t : Int) : qib e.z e.k e.s e.p e.a e.r e.m t = some (mPub e t) := by rw [qyb]; rfl
theorem qbar (e : Mg) (t : Int) : qfs e.z e.k e.s e.p e.a e.r e.m t = some (mSig e t) := by rw [q6s]; rfl
theorem qbkk (e : Mg) (t : Int) : qg1 e.z e.k e.s e.p e.a e.r e.m t = some (mSig e t) := by rw [q6t]; rfl
theorem qbgt {R : Type} (e : Mg) (now : Int) (a1 : List AV) (z : List UInt8) (k : Bool) (s p a r m : Int) (kr : Bool → Int → List AV → List UInt8 → Bool → Int → Int → Int → Int → Int → Option R) :
    qim e.z e.k e.s e.p e.a e.r e.m now a1 z k s p a r m kr = kr (mPub e now) now a1 z k s p a r m := by
  rw [qs4]
  unfold qes
  rw [qbmx, oB_s]
theorem qbas {R : Type} (L : List Mg) (now : Int) (hL : L.length ≤ 1000000) (kr : Int → List AV → Option R) :
    qc0 (mgL L) now kr = kr now (kyL (L.filter fun e => mPub e now)) := by
  rw [qkn]
  unfold qb7
  rw [hd_self, Bool.and_self, cond_t, qje, qch]
  have key := qbr (σ := Int × List AV) L (by omega) (fun n i s => qbf (mgL L) (L.length : Int) (fun b0_0q1 a1q2 => (kr b0_0q1 a1q2)) n i s.1 s.2) (fun i s nx => qbe (mgL L) (L.length : Int) i s.1 s.2 (fun j t q => nx j (t, q)) (fun b0_0q1 a1q2 => (kr b0_0q1 a1q2))) (fun n i s => rfl)
    (fun i s => s.1 = now ∧ s.2.length ≤ i) (fun r s => kr now (s.2 ++ kyL (r.filter fun e => mPub e now))) (fun s nx hJ => by
      unfold qbe
      rw [decide_eq_false (show ¬ (L.length : Int) < (L.length : Int) by omega), cond_f, hJ.1]
      simp [kyL])
    (fun i e r s nx h1 h2 h3 h4 hJ hnx => by
      obtain ⟨t, q⟩ := s
      obtain ⟨ht, hq⟩ := hJ
      simp only at ht hq hnx ⊢
      subst ht
      have hg : (mgL L)[i]? = some e.av := by rw [qc6, h2]; rfl
      unfold qbe
      rw [decide_eq_true (show (i : Int) < (L.length : Int) by omega), cond_t, ixB_nat, hg, oB_s, qfo, cond_t]
      refine (qbgt e t q _ _ _ _ _ _ _ _).trans ?_
      have hk : (AV.agg [(.str (gS e.av.cells 0)), (.bool (gB e.av.cells 1)), (.int .i64 (gI e.av.cells 2))]) = e.key := rfl
      have h1l : hd [e.key] ([e.key] : List AV).length = true := rfl
      cases hp : mPub e t with
      | true =>
        rw [cond_t, hd_self, cond_t, hk, h1l, cond_t, decide_eq_true (show (q.length + ([e.key] : List AV).length) * 32 ≤ 140737488355328 by rw [List.length_singleton]; omega), cond_t, hd_self, cond_t, h4]
        refine (hnx (t, q ++ [e.key]) ⟨rfl, by simp; omega⟩).trans ?_
        simp [kyL, hp]
      | false =>
        rw [cond_f, hd_self, cond_t, h4]
        refine (hnx (t, q) ⟨rfl, by simp only; omega⟩).trans ?_
        simp [kyL, hp]) (now, []) FU ⟨rfl, by simp⟩ (qb5 (by omega))
  simpa using key
theorem q7e (L : List Mg) (now : Int) (hL : L.length ≤ 1000000) : qd0 (mgL L) now = some (kyL (L.filter fun e => mPub e now)) := by
  rw [qya]
  unfold qgt
  rw [qbas L now hL, hd_self, cond_t]
theorem qbkl {R : Type} (e : Mg) (now : Int) (a1 : List AV) (z : List UInt8) (k : Bool) (s p a r m : Int) (kr : Bool → Int → List AV → List UInt8 → Bool → Int → Int → Int → Int → Int → Option R) :
    qjx e.z e.k e.s e.p e.a e.r e.m now a1 z k s p a r m kr = kr (mSig e now) now a1 z k s p a r m := by
  rw [qu9]
  unfold qfz
  rw [qbar, oB_s]
theorem qbdo {R : Type} (L : List Mg) (now : Int) (hL : L.length ≤ 1000000) (kr : Int → List AV → Option R) :
    qda (mgL L) now kr = kr now (kyL (L.filter fun e => mSig e now)) := by
  rw [qlk]
  unfold qce
  rw [hd_self, Bool.and_self, cond_t, qkc, qch]
  have key := qbr (σ := Int × List AV) L (by omega) (fun n i s => qbk (mgL L) (L.length : Int) (fun b0_0q1 a1q2 => (kr b0_0q1 a1q2)) n i s.1 s.2) (fun i s nx => qbj (mgL L) (L.length : Int) i s.1 s.2 (fun j t q => nx j (t, q)) (fun b0_0q1 a1q2 => (kr b0_0q1 a1q2))) (fun n i s => rfl)
    (fun i s => s.1 = now ∧ s.2.length ≤ i) (fun r s => kr now (s.2 ++ kyL (r.filter fun e => mSig e now))) (fun s nx hJ => by
      unfold qbj
      rw [decide_eq_false (show ¬ (L.length : Int) < (L.length : Int) by omega), cond_f, hJ.1]
      simp [kyL])
    (fun i e r s nx h1 h2 h3 h4 hJ hnx => by
      obtain ⟨t, q⟩ := s
      obtain ⟨ht, hq⟩ := hJ
      simp only at ht hq hnx ⊢
      subst ht
      have hg : (mgL L)[i]? = some e.av := by rw [qc6, h2]; rfl
      unfold qbj
      rw [decide_eq_true (show (i : Int) < (L.length : Int) by omega), cond_t, ixB_nat, hg, oB_s, qfo, cond_t]
      refine (qbkl e t q _ _ _ _ _ _ _ _).trans ?_
      have hk : (AV.agg [(.str (gS e.av.cells 0)), (.bool (gB e.av.cells 1)), (.int .i64 (gI e.av.cells 2))]) = e.key := rfl
      have h1l : hd [e.key] ([e.key] : List AV).length = true := rfl
      cases hp : mSig e t with
      | true =>
        rw [cond_t, hd_self, cond_t, hk, h1l, cond_t, decide_eq_true (show (q.length + ([e.key] : List AV).length) * 32 ≤ 140737488355328 by rw [List.length_singleton]; omega), cond_t, hd_self, cond_t, h4]
        refine (hnx (t, q ++ [e.key]) ⟨rfl, by simp; omega⟩).trans ?_
        simp [kyL, hp]
      | false =>
        rw [cond_f, hd_self, cond_t, h4]
        refine (hnx (t, q) ⟨rfl, by simp only; omega⟩).trans ?_
        simp [kyL, hp]) (now, []) FU ⟨rfl, by simp⟩ (qb5 (by omega))
  simpa using key
theorem qbc3 (L : List Mg) (now : Int) (hL : L.length ≤ 1000000) : qft (mgL L) now = some (kyL (L.filter fun e => mSig e now)) := by
  rw [q2r]
  unfold qic
  rw [qbdo L now hL, hd_self, cond_t]
theorem qbkm {R : Type} (e : Mg) (now : Int) (a1 : List AV) (z : List UInt8) (k : Bool) (s p a r m : Int) (kr : Bool → Int → List AV → List UInt8 → Bool → Int → Int → Int → Int → Int → Option R) :
    qjy e.z e.k e.s e.p e.a e.r e.m now a1 z k s p a r m kr = kr (mTru e now) now a1 z k s p a r m := by
  rw [qvb]
  unfold qf0
  rw [qbar, oB_s]
  unfold mTru
  cases e.k <;> rfl
theorem qbdp {R : Type} (L : List Mg) (now : Int) (hL : L.length ≤ 1000000) (kr : Int → List AV → Option R) :
    qdb (mgL L) now kr = kr now (kyL (L.filter fun e => mTru e now)) := by
  rw [qlm]
  unfold qcf
  rw [hd_self, Bool.and_self, cond_t, qkd, qch]
  have key := qbr (σ := Int × List AV) L (by omega) (fun n i s => qbm (mgL L) (L.length : Int) (fun b0_0q1 a1q2 => (kr b0_0q1 a1q2)) n i s.1 s.2) (fun i s nx => qbl (mgL L) (L.length : Int) i s.1 s.2 (fun j t q => nx j (t, q)) (fun b0_0q1 a1q2 => (kr b0_0q1 a1q2))) (fun n i s => rfl)
    (fun i s => s.1 = now ∧ s.2.length ≤ i) (fun r s => kr now (s.2 ++ kyL (r.filter fun e => mTru e now))) (fun s nx hJ => by
      unfold qbl
      rw [decide_eq_false (show ¬ (L.length : Int) < (L.length : Int) by omega), cond_f, hJ.1]
      simp [kyL])
    (fun i e r s nx h1 h2 h3 h4 hJ hnx => by
      obtain ⟨t, q⟩ := s
      obtain ⟨ht, hq⟩ := hJ
      simp only at ht hq hnx ⊢
      subst ht
      have hg : (mgL L)[i]? = some e.av := by rw [qc6, h2]; rfl
      unfold qbl
      rw [decide_eq_true (show (i : Int) < (L.length : Int) by omega), cond_t, ixB_nat, hg, oB_s, qfo, cond_t]
      refine (qbkm e t q _ _ _ _ _ _ _ _).trans ?_
      have hk : (AV.agg [(.str (gS e.av.cells 0)), (.bool (gB e.av.cells 1)), (.int .i64 (gI e.av.cells 2))]) = e.key := rfl
      have h1l : hd [e.key] ([e.key] : List AV).length = true := rfl
      cases hp : mTru e t with
      | true =>
        rw [cond_t, hd_self, cond_t, hk, h1l, cond_t, decide_eq_true (show (q.length + ([e.key] : List AV).length) * 32 ≤ 140737488355328 by rw [List.length_singleton]; omega), cond_t, hd_self, cond_t, h4]
        refine (hnx (t, q ++ [e.key]) ⟨rfl, by simp; omega⟩).trans ?_
        simp [kyL, hp]
      | false =>
        rw [cond_f, hd_self, cond_t, h4]
        refine (hnx (t, q) ⟨rfl, by simp only; omega⟩).trans ?_
        simp [kyL, hp]) (now, []) FU ⟨rfl, by simp⟩ (qb5 (by omega))
  simpa using key
theorem qbkn (L : List Mg) (now : Int) (hL : L.length ≤ 1000000) : qn0 (mgL L) now = some (kyL (L.filter fun e => mTru e now)) := by
  rw [q2t]
  unfold qie
  rw [qbdp L now hL, hd_self, cond_t]
theorem qbf4 (L : List Mg) (now : Int) (hL : L.length ≤ 1000000) : qli (mgL L) now = some (kyL (L.filter fun e => mPub e now)) := by
  rw [qyc]
  unfold qgu
  rw [hd_self, Bool.and_self, cond_t, qt7]
  have key := qbr (σ := List AV) L (by omega) (fun n i s => qc2 (mgL L) now (fun a0q1 => (bif hd a0q1 a0q1.length then (some a0q1) else none)) n i s) (fun i s nx => qc1 (mgL L) now i s nx (fun a0q1 => (bif hd a0q1 a0q1.length then (some a0q1) else none))) (fun n i s => rfl)
    (fun i s => s.length ≤ i) (fun r s => some (s ++ kyL (r.filter fun e => mPub e now))) (fun s nx hJ => by
      unfold qc1
      rw [qch, decide_eq_false (show ¬ (L.length : Int) < (L.length : Int) by omega), cond_f]
      dsimp only
      rw [hd_self, cond_t]
      simp [kyL])
    (fun i e r s nx h1 h2 h3 h4 hJ hnx => by
      have hg : (mgL L)[i]? = some e.av := by rw [qc6, h2]; rfl
      have hf : qib (gS e.av.cells 0) (gB e.av.cells 1) (gI e.av.cells 2) (gI e.av.cells 3) (gI e.av.cells 4) (gI e.av.cells 5) (gI e.av.cells 6) now = some (mPub e now) := qbpm e now
      have hk : (AV.agg [(.str (gS e.av.cells 0)), (.bool (gB e.av.cells 1)), (.int .i64 (gI e.av.cells 2))]) = e.key := rfl
      have h1l : hd [e.key] ([e.key] : List AV).length = true := rfl
      unfold qc1
      rw [qch, decide_eq_true (show (i : Int) < (L.length : Int) by omega), cond_t, ixB_nat, hg]
      simp only [oB_s, qfo, cond_t]
      rw [hf, oB_s, hk, hd_self, cond_t, h1l, cond_t, decide_eq_true (show (s.length + ([e.key] : List AV).length) * 32 ≤ 140737488355328 by rw [List.length_singleton]; omega), cond_t, h4]
      cases hp : mPub e now with
      | true =>
        rw [cond_t, hnx _ (by simp; omega)]
        simp [kyL, hp]
      | false =>
        rw [cond_f, hnx _ (by omega)]
        simp [kyL, hp]) [] FU (by simp) (qb5 (by omega))
  simpa using key
theorem qbig (L : List Mg) (now : Int) (hL : L.length ≤ 1000000) : qnz (mgL L) now = some (kyL (L.filter fun e => mSig e now)) := by
  rw [q2s]
  unfold qid
  rw [hd_self, Bool.and_self, cond_t, qwv]
  have key := qbr (σ := List AV) L (by omega) (fun n i s => qd2 (mgL L) now (fun a0q1 => (bif hd a0q1 a0q1.length then (some a0q1) else none)) n i s) (fun i s nx => qd1 (mgL L) now i s nx (fun a0q1 => (bif hd a0q1 a0q1.length then (some a0q1) else none))) (fun n i s => rfl)
    (fun i s => s.length ≤ i) (fun r s => some (s ++ kyL (r.filter fun e => mSig e now))) (fun s nx hJ => by
      unfold qd1
      rw [qch, decide_eq_false (show ¬ (L.length : Int) < (L.length : Int) by omega), cond_f]
      dsimp only
      rw [hd_self, cond_t]
      simp [kyL])
    (fun i e r s nx h1 h2 h3 h4 hJ hnx => by
      have hg : (mgL L)[i]? = some e.av := by rw [qc6, h2]; rfl
      have hf : qg1 (gS e.av.cells 0) (gB e.av.cells 1) (gI e.av.cells 2) (gI e.av.cells 3) (gI e.av.cells 4) (gI e.av.cells 5) (gI e.av.cells 6) now = some (mSig e now) := qbkk e now
      have hk : (AV.agg [(.str (gS e.av.cells 0)), (.bool (gB e.av.cells 1)), (.int .i64 (gI e.av.cells 2))]) = e.key := rfl
      have h1l : hd [e.key] ([e.key] : List AV).length = true := rfl
      unfold qd1
      rw [qch, decide_eq_true (show (i : Int) < (L.length : Int) by omega), cond_t, ixB_nat, hg]
      simp only [oB_s, qfo, cond_t]
      rw [hf, oB_s, hk, hd_self, cond_t, h1l, cond_t, decide_eq_true (show (s.length + ([e.key] : List AV).length) * 32 ≤ 140737488355328 by rw [List.length_singleton]; omega), cond_t, h4]
      cases hp : mSig e now with
      | true =>
        rw [cond_t, hnx _ (by simp; omega)]
        simp [kyL, hp]
      | false =>
        rw [cond_f, hnx _ (by omega)]
        simp [kyL, hp]) [] FU (by simp) (qb5 (by omega))
  simpa using key
theorem qbih (L : List Mg) (now : Int) (hL : L.length ≤ 1000000) : qn1 (mgL L) now = some (kyL (L.filter fun e => mTru e now)) := by
  rw [q2u]
  unfold qif
  rw [hd_self, Bool.and_self, cond_t, qwy]
  have key := qbr (σ := List AV) L (by omega) (fun n i s => qd4 (mgL L) now (fun a0q1 => (bif hd a0q1 a0q1.length then (some a0q1) else none)) n i s) (fun i s nx => qd3 (mgL L) now i s nx (fun a0q1 => (bif hd a0q1 a0q1.length then (some a0q1) else none))) (fun n i s => rfl)
    (fun i s => s.length ≤ i) (fun r s => some (s ++ kyL (r.filter fun e => mTru e now))) (fun s nx hJ => by
      unfold qd3
      rw [qch, decide_eq_false (show ¬ (L.length : Int) < (L.length : Int) by omega), cond_f]
      dsimp only
      rw [hd_self, cond_t]
      simp [kyL])
    (fun i e r s nx h1 h2 h3 h4 hJ hnx => by
      have hg : (mgL L)[i]? = some e.av := by rw [qc6, h2]; rfl
      have hf : qg1 (gS e.av.cells 0) (gB e.av.cells 1) (gI e.av.cells 2) (gI e.av.cells 3) (gI e.av.cells 4) (gI e.av.cells 5) (gI e.av.cells 6) now = some (mSig e now) := qbkk e now
      have hk : (AV.agg [(.str (gS e.av.cells 0)), (.bool (gB e.av.cells 1)), (.int .i64 (gI e.av.cells 2))]) = e.key := rfl
      have hb : gB e.av.cells 1 = e.k := rfl
      have h1l : hd [e.key] ([e.key] : List AV).length = true := rfl
      unfold qd3
      rw [qch, decide_eq_true (show (i : Int) < (L.length : Int) by omega), cond_t, hd_self, Bool.and_self, cond_t, qvd]
      unfold qf1
      rw [ixB_nat, hg]
      simp only [oB_s, qfo, cond_t]
      rw [hf, oB_s, hk, h1l, decide_eq_true (show (s.length + ([e.key] : List AV).length) * 32 ≤ 140737488355328 by rw [List.length_singleton]; omega), h4, hb]
      have hp : mTru e now = (e.k && mSig e now) := rfl
      cases hs : mSig e now with
      | true =>
        cases hk2 : e.k with
        | true =>
          rw [hs, hk2] at hp
          simp only [cond_t]
          rw [hnx _ (by simp; omega)]
          simp [kyL, hp]
        | false =>
          rw [hs, hk2] at hp
          simp only [cond_t, cond_f]
          rw [hnx _ (by omega)]
          simp [kyL, hp]
      | false =>
        rw [hs, Bool.and_false] at hp
        simp only [cond_f]
        rw [hnx _ (by omega)]
        simp [kyL, hp]) [] FU (by simp) (qb5 (by omega))
  simpa using key
theorem q8l (A : List Mg) (hA : A.length ≤ 1000000) : qkb (kyL A) (kyL A) = some true := by
  rw [q73]
  unfold qk5
  rw [bne_self_eq_false, cond_f, q0c, qbn7]
  exact qou A (by omega) (fun n i => qfh (kyL A) (kyL A) (A.length : Int) (fun (_ : Unit) => (some true)) n i) (fun i nx => qfg (kyL A) (kyL A) (A.length : Int) i nx (fun (_ : Unit) => (some true))) (fun n i => rfl) (fun _ => some true) (fun nx => by
      unfold qfg
      rw [decide_eq_false (show ¬ (A.length : Int) < (A.length : Int) by omega), cond_f])
    (fun i e r nx h1 h2 h3 h4 hnx => by
      have hg : (kyL A)[i]? = some e.key := by
        unfold kyL
        rw [List.getElem?_map, h2]; rfl
      unfold qfg
      rw [decide_eq_true (show (i : Int) < (A.length : Int) by omega), cond_t, ixB_nat, hg]
      simp only [oB_s, qbn8, cond_t, beq_self_eq_true, Bool.and_self, Bool.not_true, cond_f]
      rw [h4, hnx])
end Go.Proofs.YtmoedhehjonnhaaGreatDoor.Dn
