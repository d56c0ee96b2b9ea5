/- Allocating: AllocateFree. -/
import Derived.Test.YtmfghgaboaocgaaFrLw47f
set_option linter.all false
namespace Go.Proofs.Ytmfghgaboaocgaa.Dn
open Go Go.Pev
set_option linter.unusedVariables false
set_option linter.unusedSimpArgs false
set_option maxRecDepth 4000
theorem qbly (l : List AV) (hl : qc4 l) (hg : qjt l) (p q : Pq) (n : Int) (hc : Chosen l p q n) (b4 b5 : Int) (b6 b7 : List UInt8) (kx : Unit → Option Bool) :
    qfg l p.v p.hi p.lo p.bits b4 b5 b6 b7 q.v q.hi q.lo q.bits kx FU 0 = kx () := by
  rw [qm2, q1p l hl.1 (qgd l p.v p.hi p.lo p.bits b4 b5 b6 b7 q.v q.hi q.lo q.bits kx)
    (fun j nx => qdn l j p.v p.hi p.lo p.bits b4 b5 b6 b7 q.v q.hi q.lo q.bits nx kx) (fun _ _ => rfl) (fun _ => kx ())]
  · intro nx; simp [qdn]
  · intro i y r nx g1 g2 g3 g4 h5
    have hm := List.mem_of_getElem? g2
    have hy := hl.2 y hm
    have h6 : (i : Int) < (l.length : Int) := by omega
    unfold qdn
    simp only [h6, decide_true, cond_t]
    rw [qm1]; unfold qj7
    simp only [ixB_nat, g2, oB_s, hy.1, cond_t, qx6, qbff, g4, h5]
    cases he : (((gB y.cells 0) == p.v) && (((gI y.cells 1) == p.hi) && (((gI y.cells 2) == p.lo) && (((gI y.cells 3) == p.bits) && true)))) with
    | true => simp only [Bool.not_true, cond_f]
    | false =>
      simp only [Bool.not_false, cond_t]
      cases hw : qm8 (gB y.cells 0) (gI y.cells 1) (gI y.cells 2) (gI y.cells 3) p.v p.hi p.lo p.bits with
      | false => simp only [cond_f]
      | true =>
        have hs := (qll (hg y hm) hc.pg).1 (show winP (pqY y) p = true from hw)
        have hlt : (pqY y).np.k < p.np.k := by
          rcases Nat.lt_or_ge (pqY y).np.k p.np.k with h | h
          · exact h
          · exfalso
            have e := qbrs (hg y hm) hc.pg (Np.sub_antisymm (hg y hm).np_ok hs (Np.nest hs (Np.sub_refl (hg y hm).np_ok) h))
            have : ((pqY y).v == p.v && ((pqY y).hi == p.hi && ((pqY y).lo == p.lo && ((pqY y).bits == p.bits && true)))) = true := by rw [e]; simp
            rw [show ((pqY y).v == p.v && ((pqY y).hi == p.hi && ((pqY y).lo == p.lo && ((pqY y).bits == p.bits && true)))) = false from he] at this
            cases this
        have hd : y ∈ qpv l p := List.mem_filter.2 ⟨hm, (q0r (p := pqY y) (hg y hm) hc.pg).2 ⟨hs, hlt⟩⟩
        have := hc.free y hd
        simp only [cond_t]
        rw [show ovP ⟨gB y.cells 0, gI y.cells 1, gI y.cells 2, gI y.cells 3⟩ ⟨q.v, q.hi, q.lo, q.bits⟩ = false from this]
        simp only [cond_f]
theorem law47F (l : List AV) (hl : qc4 l) (v : Bool) (hi lo bits : Int) (u1 : uok hi) (u2 : uok lo) (n policy : Int) (nm ow : List UInt8) : qfk l v hi lo bits n policy nm ow = some true := by
  rw [qqw]; unfold qlh
  rw [qbow]
  simp only [oB_s, Bool.not_true, cond_f]
  rw [qmx]; unfold qj5
  rw [qbou l hl]
  simp only [oB_s]
  cases hs : (((!(decide (l.length ≤ 40) && q0v l)) || (decide ((nm.length : Int) > (100 : Int)))) || (decide ((ow.length : Int) > (100 : Int)))) with
  | true => simp only [cond_t]
  | false =>
    simp only [Bool.or_eq_false_iff, Bool.not_eq_false', Bool.and_eq_true, decide_eq_true_eq, decide_eq_false_iff_not] at hs
    obtain ⟨⟨⟨h40, _⟩, hnm⟩, how⟩ := hs
    simp only [cond_f, qbk0 l hl, oB_s]
    by_cases hc : qx8 l = 0
    · have ht := (q9b (by omega)).1 hc
      have hg := qzf hl ht
      have e1 := qbdb l hl hg (by omega) ⟨v, hi, lo, bits⟩ n policy
      have e5 := qbng l hl ht (by omega) ⟨v, hi, lo, bits⟩ n policy nm ow (by omega) (by omega)
      simp only at e1 e5
      rw [hc]
      simp only [bne_self_eq_false, cond_f, e1, oB_s]
      rcases q9h hg ⟨v, hi, lo, bits⟩ n policy with ⟨e, he, hne⟩ | ⟨q, hq, hch⟩
      · rw [he]
        have : (e != 0) = true := by simpa using hne
        simp only [this, cond_t]; rfl
      · unfold qbk8 at e5
        rw [hq] at e5 ⊢
        obtain ⟨w0, w1, w2, w3⟩ := av_w q
        simp only [bne_self_eq_false, cond_f, w0, w1, w2, w3] at e5 ⊢
        rw [qmz]; unfold qj6
        have hqb : (q.bits != n) = false := by rw [hch.bits]; simp
        rw [hqb]
        simp only [cond_f, qx6, oB_s]
        rw [show qm8 q.v q.hi q.lo q.bits v hi lo bits = true from (qll (q := ⟨v, hi, lo, bits⟩) hch.good hch.pg).2 hch.sub]
        simp only [Bool.not_true, cond_f]
        have hlp := fun kx => qbly l hl hg ⟨v, hi, lo, bits⟩ q n hch n policy nm ow kx
        simp only at hlp
        rw [hlp, e5]
        have hb := qbmk hch.good (nm := nm) (ow := ow) (by omega) (by omega)
        generalize hbb : mkB q.v q.hi q.lo q.bits 2 nm ow 0 = b at *
        simp only [oB_s]
        by_cases ha : (addF l b).2 = 0
        · obtain ⟨s1, s2, s3⟩ := qbpv hl ht hb ha
          have hf := qbpu hl (by omega) hb
          have hln := qbc7 b l
          rw [ha, s1]
          simp only [bne_self_eq_false, cond_f]
          have hbq : pqY b = q := by rw [← hbb]; rfl
          have hbm : b ∈ insF b l := qq0.2 (.inl rfl)
          have hfd : (insF b l).find? (atP q.v q.hi q.lo q.bits) = some b := by
            rw [← hbq]
            exact qbot hbm (qt2.2 ⟨rfl, rfl, rfl, rfl⟩) fun z hz hqz => qbne s2 hbm hz (qbmh.1 hqz)
          rw [q9r _ hf, q5i hf hfd]
          simp only [oB_s]
          rw [qm4]; unfold qj8
          have k1 : gI b.cells 4 = 2 := by rw [← hbb]; rfl
          have k2 : gS b.cells 5 = nm := by rw [← hbb]; rfl
          have k3 : gS b.cells 6 = ow := by rw [← hbb]; rfl
          have k4 : gI b.cells 7 = 0 := by rw [← hbb]; rfl
          rw [k1, k2, k3, k4]
          simp only [w0, w1, w2, w3, beq_self_eq_true, bne_self_eq_false, Bool.and_self, Bool.not_true, Bool.or_self, cond_f, qbk0 _ hf, qbrv s2 (by omega), oB_s]
          have hr := qbpo (insF b l) hf (by omega) s2 q.v q.hi q.lo q.bits
          have hs3 : q3k (insF b l) q.v q.hi q.lo q.bits = (l, 0) := by rw [← hbq]; exact s3
          rw [hr, hs3]
          simp only [oB_s, beq_self_eq_true, cond_t, qblx l (by omega) (fun y hy => (hl.2 y hy).1)]
        · have h2 : ((addF l b).2 != 0) = true := by simpa using ha
          rw [h2]
          simp only [cond_t, h2]
          rfl
    · have : (qx8 l != 0) = true := by simpa using hc
      rw [this]; rfl
end Go.Proofs.Ytmfghgaboaocgaa.Dn
