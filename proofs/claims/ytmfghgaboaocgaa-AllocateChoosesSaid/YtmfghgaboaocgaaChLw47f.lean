/- Allocating: AllocateChooses, AllocateFree. -/
import Derived.Test.YtmfghgaboaocgaaChLw47e
set_option linter.all false
namespace Go.Proofs.Ytmfghgaboaocgaa.Dn
open Go Go.Pev
set_option linter.unusedVariables false
set_option linter.unusedSimpArgs false
set_option maxRecDepth 4000
def q9p (l : List AV) (p : Pq) : Int × Bool := match l.find? (atP p.v p.hi p.lo p.bits) with
  | none => (0, false)
  | some y => bif gI y.cells 4 != 1 then (0, false) else match qey (fun a b => decide (a < b)) 128 none (frQ l p) with
    | none => (0, false)
    | some q => (q.bits, true)
theorem qbx4 (l : List AV) (hl : qcc l) (hg : qfp l) (hn : l.length ≤ 1000) (p : Pq) : qkq l p.v p.hi p.lo p.bits = some (q9p l p) := by
  rw [q2o]; unfold qu2 q9p
  rw [qb4x l hl hg hn p]
  unfold qbgs
  simp only [oB_s]
  rw [qzp]; unfold qra
  rw [qbws l hl]
  have hempty : qc2 [] 128 = some (qo1, false) := qt8 [] (by simp) 128
  cases hf : l.find? (atP p.v p.hi p.lo p.bits) with
  | none => simp only [cond_f, hempty, oB_s]; rfl
  | some y =>
    rw [q7w hl hf]
    obtain ⟨hp, _⟩ := qvr hg hf
    cases hk : gI y.cells 4 == 1 with
    | false =>
      have hk' : (gI y.cells 4 != 1) = true := by unfold bne; rw [hk]; rfl
      simp only [hk, cond_f, hempty, oB_s, hk', cond_t]; rfl
    | true =>
      have hk' : (gI y.cells 4 != 1) = false := by unfold bne; rw [hk]; rfl
      simp only [cond_t, oB_s, hk', cond_f, hk, Bool.and_self, Bool.not_true]
      have hF := qbnd hg hn hp
      rw [show qei (qnw l p) (p.np.k + 1) p = frQ l p from rfl, qt8 _ (by omega)]
      simp only [oB_s]
      cases qey (fun a b => decide (a < b)) 128 none (frQ l p) with
      | none => rfl
      | some q => rfl
theorem qb3k (l : List AV) (hl : qcc l) (hg : qfp l) (hn : l.length ≤ 1000) (p : Pq) : qnk l p.v p.hi p.lo p.bits = some (q9p l p) := by
  rw [q2w]; unfold qu9 q9p
  rw [qzy]; unfold qrk
  rw [qbm8 l hl]
  simp only [oB_s]
  cases hf : l.find? (atP p.v p.hi p.lo p.bits) with
  | none => rw [qbgt hf]; rfl
  | some y =>
    rw [q7w hl hf]
    obtain ⟨hp, _⟩ := qvr hg hf
    cases hk : gI y.cells 4 == 1 with
    | false =>
      have hk' : (gI y.cells 4 != 1) = true := by unfold bne; rw [hk]; rfl
      simp only [hk', cond_t, hk, Bool.and_false, Bool.not_false]
    | true =>
      have hk' : (gI y.cells 4 != 1) = false := by unfold bne; rw [hk]; rfl
      simp only [hk', cond_f, hk, Bool.and_self, Bool.not_true]
      have hF := qbnd hg hn hp
      rw [qb1e hl hg hn hf hk']
      simp only [oB_s]
      rw [qbnb _ (by omega) 128 (-1) (qgg 3) (qb1d hg hp) qb4z]
      have : qgg 3 = fun a b => decide (a < b) := by funext a b; rfl
      rw [this]
      cases qey (fun a b => decide (a < b)) 128 none (frQ l p) with
      | none => rfl
      | some q => rfl
structure Chosen (l : List AV) (p q : Pq) (bits : Int) : Prop where
  good : q.good
  bits : q.bits = bits
  sub : q.np.sub p.np
  pg : p.good
  free : ∀ d, d ∈ qnw l p → ovP (pqY d) q = false
theorem q9q {l : List AV} (hg : qfp l) (p : Pq) (bits policy : Int) : (∃ e, qe9 l p bits policy = (qo1, e) ∧ e ≠ 0) ∨ ∃ q, qe9 l p bits policy = (q.av, 0) ∧ Chosen l p q bits := by
  unfold qe9
  cases hf : l.find? (atP p.v p.hi p.lo p.bits) with
  | none => exact .inl ⟨11, rfl, by decide⟩
  | some y =>
    obtain ⟨hp, _⟩ := qvr hg hf
    simp only
    cases hk : gI y.cells 4 != 1 with
    | true => exact .inl ⟨21, rfl, by decide⟩
    | false =>
      simp only [cond_f]
      cases hb : qx6 p bits policy with
      | true => exact .inl ⟨1, rfl, by decide⟩
      | false =>
        simp only [cond_f]
        unfold qx6 at hb
        simp only [Bool.or_eq_false_iff, decide_eq_false_iff_not] at hb
        obtain ⟨h1, ⟨h2, h3⟩, h4⟩ := hb
        unfold qbnc
        cases hq : qey (qgg policy) bits none (frQ l p) with
        | none => exact .inl ⟨22, rfl, by decide⟩
        | some q =>
          rcases qbaw hq with h | ⟨h, h'⟩
          · cases h
          · obtain ⟨qg, qs, qf⟩ := qbgu (qbax hg p) _ p hp q h
            have hv : q.v = p.v := qs.1
            obtain ⟨sg, sb, sv⟩ := qbgv (policy := policy) qg h' (by rw [hv]; omega)
            have ss : (qki policy bits q).np.sub q.np := by
              unfold qki
              cases hc : (policy == 3 && decide (q.bits < bits)) with
              | false => exact Np.sub_refl qg.np_ok
              | true =>
                rw [Bool.and_eq_true, decide_eq_true_eq] at hc
                exact (qb1b qg (qbne qg hc.2 (by rw [hv]; omega))).2.1
            simp only
            generalize qki policy bits q = s at *
            obtain ⟨b1, b2, b3, b4⟩ := sg.range
            have hkk : kOf s.v bits ≤ s.np.k := by
              show kOf s.v bits ≤ kOf s.v s.bits
              unfold kOf; omega
            have gq : (⟨s.v, s.hi, s.lo, bits⟩ : Pq).good := by
              refine ⟨(q2c sg.2.1 sg.2.2).2 ⟨(qfo sg.1).2.2, by show 0 ≤ bits; omega, by show bits ≤ qn s.v; rw [sv, hv]; omega, ?_⟩, sg.2⟩
              exact Nat.mod_eq_zero_of_dvd (Nat.dvd_trans (qbm9 hkk) (Nat.dvd_of_mod_eq_zero sg.np_ok))
            have gs : (⟨s.v, s.hi, s.lo, bits⟩ : Pq).np.sub s.np := ⟨rfl, hkk, by
              have := sg.np_ok
              unfold Np.ok at this
              show s.np.n - s.np.n % 2 ^ s.np.k = s.np.n
              rw [this]; rfl⟩
            refine .inr ⟨⟨s.v, s.hi, s.lo, bits⟩, rfl, gq, rfl, Np.sub_trans gs (Np.sub_trans ss qs), hp, fun d hd => ?_⟩
            cases ho : ovP (pqY d) ⟨s.v, s.hi, s.lo, bits⟩ with
            | false => rfl
            | true =>
              have := qbmv qg gq (qbax hg p d hd) (Np.sub_trans gs ss) ho
              rw [qf d hd] at this; cases this
def q9r (l : List AV) (p : Pq) (bits policy : Int) (nm ow : List UInt8) : List AV × AV × Int :=
  bif (qe9 l p bits policy).2 != 0 then ([], qo1, (qe9 l p bits policy).2) else
  bif (addF l (mkB (gB (qe9 l p bits policy).1.cells 0) (gI (qe9 l p bits policy).1.cells 1) (gI (qe9 l p bits policy).1.cells 2) (gI (qe9 l p bits policy).1.cells 3) 2 nm ow 0)).2 != 0 then ([], qo1, (addF l (mkB (gB (qe9 l p bits policy).1.cells 0) (gI (qe9 l p bits policy).1.cells 1) (gI (qe9 l p bits policy).1.cells 2) (gI (qe9 l p bits policy).1.cells 3) 2 nm ow 0)).2)
  else ((addF l (mkB (gB (qe9 l p bits policy).1.cells 0) (gI (qe9 l p bits policy).1.cells 1) (gI (qe9 l p bits policy).1.cells 2) (gI (qe9 l p bits policy).1.cells 3) 2 nm ow 0)).1, (qe9 l p bits policy).1, 0)
theorem qbww {q : Pq} (hq : q.good) {nm ow : List UInt8} (h1 : nm.length ≤ 100) (h2 : ow.length ≤ 100) : qvq (mkB q.v q.hi q.lo q.bits 2 nm ow 0) :=
  ⟨rfl, hq.2.1, hq.2.2, by show nm.length ≤ _; omega, by show ow.length ≤ _; omega⟩
theorem qb3l (l : List AV) (hl : qcc l) (ht : q4i l) (hn : l.length ≤ 1000) (p : Pq) (bits policy : Int) (nm ow : List UInt8) (h1 : nm.length ≤ 100) (h2 : ow.length ≤ 100) :
    qmg l p.v p.hi p.lo p.bits bits policy nm ow = some (q9r l p bits policy nm ow) := by
  have hg := q7v hl ht
  rw [q1v]; unfold qtq q9r
  rw [qbsh l hl hg hn]
  simp only [oB_s]
  rcases q9q hg p bits policy with ⟨e, he, hne⟩ | ⟨q, hq, hc⟩
  · rw [he]
    have : (e != 0) = true := by simpa using hne
    simp only [this, cond_t]; rfl
  · rw [hq]
    obtain ⟨w0, w1, w2, w3⟩ := av_w q
    simp only [bne_self_eq_false, cond_f, w0, w1, w2, w3]
    rw [qb8p l hl (by omega) ht q.v q.hi q.lo q.bits 2 nm ow 0 (qbww hc.good h1 h2)]
    simp only [oB_s]
    cases (addF l (mkB q.v q.hi q.lo q.bits 2 nm ow 0)).2 != 0 <;> rfl
theorem qb16 (l : List AV) (hl : qcc l) (ht : q4i l) (hn : l.length ≤ 1000) (p : Pq) (bits policy : Int) (nm ow : List UInt8) (h1 : nm.length ≤ 100) (h2 : ow.length ≤ 100) :
    qmh l p.v p.hi p.lo p.bits bits policy nm ow = some (q9r l p bits policy nm ow) := by
  have hg := q7v hl ht
  rw [q1w]; unfold qtw q9r
  rw [qbx3 l hl hg hn]
  simp only [oB_s]
  rcases q9q hg p bits policy with ⟨e, he, hne⟩ | ⟨q, hq, hc⟩
  · rw [he]
    have : (e != 0) = true := by simpa using hne
    simp only [this, cond_t]; rfl
  · rw [hq]
    obtain ⟨w0, w1, w2, w3⟩ := av_w q
    simp only [bne_self_eq_false, cond_f, w0, w1, w2, w3]
    rw [qb5x l hl (by omega) q.v q.hi q.lo q.bits 2 nm ow 0 (qbww hc.good h1 h2)]
    simp only [oB_s]
    cases (addF l (mkB q.v q.hi q.lo q.bits 2 nm ow 0)).2 != 0 <;> rfl
theorem qb56 {l : List AV} {b : AV} : (addF l b).1 = [] ∨ (addF l b).1 = insF b l := by
  unfold addF
  cases !qye b with
  | true => exact .inl rfl
  | false =>
  cases !mayB b with
  | true => exact .inl rfl
  | false =>
  cases l.any (atP (gB b.cells 0) (gI b.cells 1) (gI b.cells 2) (gI b.cells 3)) with
  | true => exact .inl rfl
  | false =>
  cases (l.any (qdf b) || occF l (gB b.cells 0) (gI b.cells 1) (gI b.cells 2) (gI b.cells 3)) with
  | true => exact .inl rfl
  | false =>
  cases decide ((l.length : Int) ≥ 512) with
  | true => exact .inl rfl
  | false => exact .inr rfl
theorem qbp4 (l : List AV) (hn : l.length ≤ 100000) (hl : ∀ y, y ∈ l → fitC qe y.cells = true) : qix l l = some true := by
  rw [q5q]; unfold qxk
  simp only [bne_self_eq_false, cond_f]
  rw [qx1, qqr l (by omega) (ql3 l l fun _ => some true) (fun i nx => qf8 l l i nx fun _ => some true) (fun _ _ => rfl) (fun _ => some true)]
  · intro nx; simp [qf8]
  · intro i y r nx g1 g2 g3 g4 h5
    have hy := hl y (List.mem_of_getElem? g2)
    have h6 : (i : Int) < (l.length : Int) := by omega
    unfold qf8
    simp only [h6, decide_true, cond_t, ixB_nat, g2, oB_s, hy, g4, h5, beq_self_eq_true, Bool.and_self, Bool.not_true, cond_f]
def q71 : Pq := ⟨false, 0, 256, 24⟩
theorem qb7n : q9h qso = 0 := by decide +kernel
theorem qb7o : q4i qso := (qbxx (by decide)).1 qb7n
theorem qb57 : qe9 qso q71 28 3 = (mkP false 0 448 28, 0) := by kernel_rfl
theorem qb58 : q9p qso q71 = (25, true) := by kernel_rfl
theorem qb40 : qp6 = some true := by
  rw [q64]; unfold qyz
  rw [qb55]
  have e0 : qhk = some q71.av := by rw [qsp]; rfl
  rw [e0]
  obtain ⟨w0, w1, w2, w3⟩ := av_w q71
  have hg := q7v qbmz qb7o
  simp only [oB_s, w0, w1, w2, w3, qbsh qso qbmz hg (by decide) q71, qbx4 qso qbmz hg (by decide) q71, qb57, qb58]
  rfl
theorem law47C (l : List AV) (hl : qcc l) (v : Bool) (hi lo bits : Int) (u1 : uok hi) (u2 : uok lo) (n policy : Int) (nm ow : List UInt8) : qe6 l v hi lo bits n policy nm ow = some true := by
  rw [qqn]; unfold ql8
  rw [qb40]
  simp only [oB_s, Bool.not_true, cond_f]
  rw [qny]; unfold qiy
  rw [qb4y l hl]
  simp only [oB_s]
  cases hs : (((!(decide (l.length ≤ 40) && q9o l)) || (decide ((nm.length : Int) > (100 : Int)))) || (decide ((ow.length : Int) > (100 : Int)))) with
  | true => simp only [cond_t]
  | false =>
    simp only [Bool.or_eq_false_iff, Bool.not_eq_false', Bool.and_eq_true, decide_eq_true_eq, decide_eq_false_iff_not] at hs
    obtain ⟨⟨⟨h40, _⟩, hnm⟩, how⟩ := hs
    simp only [cond_f, qb4s l hl, oB_s]
    by_cases hc : q9h l = 0
    · have ht := (qbxx (by omega)).1 hc
      have hg := q7v hl ht
      have e1 := qbsh l hl hg (by omega) ⟨v, hi, lo, bits⟩ n policy
      have e2 := qbx3 l hl hg (by omega) ⟨v, hi, lo, bits⟩ n policy
      have e3 := qbx4 l hl hg (by omega) ⟨v, hi, lo, bits⟩
      have e4 := qb3k l hl hg (by omega) ⟨v, hi, lo, bits⟩
      have e5 := qb3l l hl ht (by omega) ⟨v, hi, lo, bits⟩ n policy nm ow (by omega) (by omega)
      have e6 := qb16 l hl ht (by omega) ⟨v, hi, lo, bits⟩ n policy nm ow (by omega) (by omega)
      simp only at e1 e2 e3 e4 e5 e6
      have e7 : qix (q9r l ⟨v, hi, lo, bits⟩ n policy nm ow).1 (q9r l ⟨v, hi, lo, bits⟩ n policy nm ow).1 = some true := by
        have e0 : qix [] [] = some true := qbp4 [] (by simp) (fun y hy => by simp at hy)
        unfold q9r
        rcases q9q hg ⟨v, hi, lo, bits⟩ n policy with ⟨e, he, hne⟩ | ⟨q, hq, hch⟩
        · rw [he]
          have : (e != 0) = true := by simpa using hne
          simp only [this, cond_t, e0]
        · rw [hq]
          obtain ⟨w0, w1, w2, w3⟩ := av_w q
          simp only [bne_self_eq_false, cond_f, w0, w1, w2, w3]
          cases (addF l (mkB q.v q.hi q.lo q.bits 2 nm ow 0)).2 != 0 with
          | true => exact e0
          | false =>
            simp only [cond_f]
            rcases qb56 (l := l) (b := mkB q.v q.hi q.lo q.bits 2 nm ow 0) with h | h
            · rw [h]; exact e0
            · rw [h]
              have := qb54 hl (by omega) (qbww hch.good (nm := nm) (ow := ow) (by omega) (by omega))
              exact qbp4 _ (by rw [qbsc]; omega) fun y hy => (this.2 y hy).1
      rw [hc]
      simp only [bne_self_eq_false, cond_f, e1, e2, e3, e4, e5, e6, e7, oB_s, beq_self_eq_true, Bool.and_self, Bool.not_true, Bool.or_self]
    · have : (q9h l != 0) = true := by simpa using hc
      rw [this]; rfl
end Go.Proofs.Ytmfghgaboaocgaa.Dn
