/- Allocating: AllocateChooses, AllocateFree. -/
import Derived.Test.YtmfghgaboaocgaaFrLw47e
set_option linter.all false
namespace Go.Proofs.Ytmfghgaboaocgaa.Dn
open Go Go.Pev
set_option linter.unusedVariables false
set_option linter.unusedSimpArgs false
set_option maxRecDepth 4000
def qbdc (l : List AV) (p : Pq) : Int × Bool := match l.find? (atP p.v p.hi p.lo p.bits) with
  | none => (0, false)
  | some y => bif gI y.cells 4 != 1 then (0, false) else match qhv (fun a b => decide (a < b)) 128 none (frQ l p) with
    | none => (0, false)
    | some q => (q.bits, true)
theorem qbov (l : List AV) (hl : qc4 l) (hg : qjt l) (hn : l.length ≤ 1000) (p : Pq) : qk9 l p.v p.hi p.lo p.bits = some (qbdc l p) := by
  rw [qvn]; unfold qql qbdc
  rw [qbos l hl hg hn p]
  unfold qbi9
  simp only [oB_s]
  rw [qto]; unfold qnv
  rw [q9r l hl]
  have hempty : qcz [] 128 = some (qri, false) := qpw [] (by simp) 128
  cases hf : l.find? (atP p.v p.hi p.lo p.bits) with
  | none => simp only [cond_f, hempty, oB_s]; rfl
  | some y =>
    rw [q5i hl hf]
    obtain ⟨hp, _⟩ := q1u hg hf
    cases hk : gI y.cells 4 == 1 with
    | false =>
      have hk' : (gI y.cells 4 != 1) = true := by unfold bne; rw [hk]; rfl
      simp only [hk, cond_f, hempty, oB_s, hk', cond_t]; rfl
    | true =>
      have hk' : (gI y.cells 4 != 1) = false := by unfold bne; rw [hk]; rfl
      simp only [cond_t, oB_s, hk', cond_f, hk, Bool.and_self, Bool.not_true]
      have hF := qbmj hg hn hp
      rw [show qgm (qpv l p) (p.np.k + 1) p = frQ l p from rfl, qpw _ (by omega)]
      simp only [oB_s]
      cases qhv (fun a b => decide (a < b)) 128 none (frQ l p) with
      | none => rfl
      | some q => rfl
structure Chosen (l : List AV) (p q : Pq) (bits : Int) : Prop where
  good : q.good
  bits : q.bits = bits
  sub : q.np.sub p.np
  pg : p.good
  free : ∀ d, d ∈ qpv l p → ovP (pqY d) q = false
theorem q9h {l : List AV} (hg : qjt l) (p : Pq) (bits policy : Int) : (∃ e, qe4 l p bits policy = (qri, e) ∧ e ≠ 0) ∨ ∃ q, qe4 l p bits policy = (q.av, 0) ∧ Chosen l p q bits := by
  unfold qe4
  cases hf : l.find? (atP p.v p.hi p.lo p.bits) with
  | none => exact .inl ⟨11, rfl, by decide⟩
  | some y =>
    obtain ⟨hp, _⟩ := q1u hg hf
    simp only
    cases hk : gI y.cells 4 != 1 with
    | true => exact .inl ⟨21, rfl, by decide⟩
    | false =>
      simp only [cond_f]
      cases hb : q3m p bits policy with
      | true => exact .inl ⟨1, rfl, by decide⟩
      | false =>
        simp only [cond_f]
        unfold q3m at hb
        simp only [Bool.or_eq_false_iff, decide_eq_false_iff_not] at hb
        obtain ⟨h1, ⟨h2, h3⟩, h4⟩ := hb
        unfold qbja
        cases hq : qhv (qbda policy) bits none (frQ l p) with
        | none => exact .inl ⟨22, rfl, by decide⟩
        | some q =>
          rcases q9f hq with h | ⟨h, h'⟩
          · cases h
          · obtain ⟨qg, qs, qf⟩ := q5j (q1v hg p) _ p hp q h
            have hv : q.v = p.v := qs.1
            obtain ⟨sg, sb, sv⟩ := qbfi (policy := policy) qg h' (by rw [hv]; omega)
            have ss : (ql2 policy bits q).np.sub q.np := by
              unfold ql2
              cases hc : (policy == 3 && decide (q.bits < bits)) with
              | false => exact Np.sub_refl qg.np_ok
              | true =>
                rw [Bool.and_eq_true, decide_eq_true_eq] at hc
                exact (qbk7 qg (qbgy qg hc.2 (by rw [hv]; omega))).2.1
            simp only
            generalize ql2 policy bits q = s at *
            obtain ⟨b1, b2, b3, b4⟩ := sg.range
            have hkk : kOf s.v bits ≤ s.np.k := by
              show kOf s.v bits ≤ kOf s.v s.bits
              unfold kOf; omega
            have gq : (⟨s.v, s.hi, s.lo, bits⟩ : Pq).good := by
              refine ⟨(qvb sg.2.1 sg.2.2).2 ⟨(qfr sg.1).2.2, by show 0 ≤ bits; omega, by show bits ≤ qt s.v; rw [sv, hv]; omega, ?_⟩, sg.2⟩
              exact Nat.mod_eq_zero_of_dvd (Nat.dvd_trans (q9s hkk) (Nat.dvd_of_mod_eq_zero sg.np_ok))
            have gs : (⟨s.v, s.hi, s.lo, bits⟩ : Pq).np.sub s.np := ⟨rfl, hkk, by
              have := sg.np_ok
              unfold Np.ok at this
              show s.np.n - s.np.n % 2 ^ s.np.k = s.np.n
              rw [this]; rfl⟩
            refine .inr ⟨⟨s.v, s.hi, s.lo, bits⟩, rfl, gq, rfl, Np.sub_trans gs (Np.sub_trans ss qs), hp, fun d hd => ?_⟩
            cases ho : ovP (pqY d) ⟨s.v, s.hi, s.lo, bits⟩ with
            | false => rfl
            | true =>
              have := q9c qg gq (q1v hg p d hd) (Np.sub_trans gs ss) ho
              rw [qf d hd] at this; cases this
def qbk8 (l : List AV) (p : Pq) (bits policy : Int) (nm ow : List UInt8) : List AV × AV × Int :=
  bif (qe4 l p bits policy).2 != 0 then ([], qri, (qe4 l p bits policy).2) else
  bif (addF l (mkB (gB (qe4 l p bits policy).1.cells 0) (gI (qe4 l p bits policy).1.cells 1) (gI (qe4 l p bits policy).1.cells 2) (gI (qe4 l p bits policy).1.cells 3) 2 nm ow 0)).2 != 0 then ([], qri, (addF l (mkB (gB (qe4 l p bits policy).1.cells 0) (gI (qe4 l p bits policy).1.cells 1) (gI (qe4 l p bits policy).1.cells 2) (gI (qe4 l p bits policy).1.cells 3) 2 nm ow 0)).2)
  else ((addF l (mkB (gB (qe4 l p bits policy).1.cells 0) (gI (qe4 l p bits policy).1.cells 1) (gI (qe4 l p bits policy).1.cells 2) (gI (qe4 l p bits policy).1.cells 3) 2 nm ow 0)).1, (qe4 l p bits policy).1, 0)
theorem qbmk {q : Pq} (hq : q.good) {nm ow : List UInt8} (h1 : nm.length ≤ 100) (h2 : ow.length ≤ 100) : qu9 (mkB q.v q.hi q.lo q.bits 2 nm ow 0) :=
  ⟨rfl, hq.2.1, hq.2.2, by show nm.length ≤ _; omega, by show ow.length ≤ _; omega⟩
theorem qbng (l : List AV) (hl : qc4 l) (ht : qg2 l) (hn : l.length ≤ 1000) (p : Pq) (bits policy : Int) (nm ow : List UInt8) (h1 : nm.length ≤ 100) (h2 : ow.length ≤ 100) :
    qko l p.v p.hi p.lo p.bits bits policy nm ow = some (qbk8 l p bits policy nm ow) := by
  have hg := qzf hl ht
  rw [qut]; unfold qpl qbk8
  rw [qbdb l hl hg hn]
  simp only [oB_s]
  rcases q9h hg p bits policy with ⟨e, he, hne⟩ | ⟨q, hq, hc⟩
  · rw [he]
    have : (e != 0) = true := by simpa using hne
    simp only [this, cond_t]; rfl
  · rw [hq]
    obtain ⟨w0, w1, w2, w3⟩ := av_w q
    simp only [bne_self_eq_false, cond_f, w0, w1, w2, w3]
    rw [qbsb l hl (by omega) ht q.v q.hi q.lo q.bits 2 nm ow 0 (qbmk hc.good h1 h2)]
    simp only [oB_s]
    cases (addF l (mkB q.v q.hi q.lo q.bits 2 nm ow 0)).2 != 0 <;> rfl
theorem qblx (l : List AV) (hn : l.length ≤ 100000) (hl : ∀ y, y ∈ l → fitC qj y.cells = true) : qly l l = some true := by
  rw [qxn]; unfold qsc
  simp only [bne_self_eq_false, cond_f]
  rw [qsi, q1p l (by omega) (qkg l l fun _ => some true) (fun i nx => qfi l l i nx fun _ => some true) (fun _ _ => rfl) (fun _ => some true)]
  · intro nx; simp [qfi]
  · intro i y r nx g1 g2 g3 g4 h5
    have hy := hl y (List.mem_of_getElem? g2)
    have h6 : (i : Int) < (l.length : Int) := by omega
    unfold qfi
    simp only [h6, decide_true, cond_t, ixB_nat, g2, oB_s, hy, g4, h5, beq_self_eq_true, Bool.and_self, Bool.not_true, cond_f]
def qzl : Pq := ⟨false, 0, 256, 24⟩
theorem qbq8 : qx8 qoy = 0 := by decide +kernel
theorem qbq9 : qg2 qoy := (q9b (by decide)).1 qbq8
theorem qbpx : qe4 qoy qzl 28 3 = (mkP false 0 448 28, 0) := by kernel_rfl
theorem qbpy : qbdc qoy qzl = (25, true) := by kernel_rfl
theorem qbow : qmr = some true := by
  rw [qyx]; unfold qs5
  rw [qbpw]
  have e0 : qgn = some qzl.av := by rw [qoz]; rfl
  rw [e0]
  obtain ⟨w0, w1, w2, w3⟩ := av_w qzl
  have hg := qzf q9g qbq9
  simp only [oB_s, w0, w1, w2, w3, qbdb qoy q9g hg (by decide) qzl, qbov qoy q9g hg (by decide) qzl, qbpx, qbpy]
  rfl
end Go.Proofs.Ytmfghgaboaocgaa.Dn
