/- Tables of blocks: BlocksStay. -/
import Derived.Test.YtmjdngnagiloeaaBsLw46t
set_option linter.all false
namespace Go.Proofs.Ytmjdngnagiloeaa.Dn
open Go Go.Pev
set_option linter.unusedVariables false
set_option linter.unusedSimpArgs false
set_option maxRecDepth 4000
theorem qbg2 {l : List AV} (ht : qcs l) (hn : l.length ≤ 512) : qse l = 0 := (qx1 hn).2 ht
theorem qbq1 {l c : List AV} (h : c.length = l.length + 1) (hn : l.length ≤ 1000) : ((c.length : Int) != IntKind.i64.wrap ((l.length : Int) + 1)) = false := by
  rw [h, w64 (by omega) (by omega)]; simp
theorem qbnb {l c : List AV} (h : c.length + 1 = l.length) (hn : l.length ≤ 1000) : (c.length : Int) = IntKind.i64.wrap ((l.length : Int) - 1) := by
  rw [w64 (by omega) (by omega)]; omega
theorem qbt4 {l : List AV} (hl : qbk l) (hn : l.length ≤ 100) (ht : qcs l) {b : AV} (hb : qgd b) (v : Bool) (hi lo bits : Int) (kn : Unit → Option Bool) :
    qft l (addF l b).1 (addF l b).2 (gB b.cells 0) (gI b.cells 1) (gI b.cells 2) (gI b.cells 3) (gI b.cells 4) (gS b.cells 5) (gS b.cells 6) (gI b.cells 7) v hi lo bits kn = kn () := by
  rw [qow]; unfold qla
  by_cases h : (addF l b).2 = 0
  · obtain ⟨e1, hT, e3⟩ := qbr2 hl ht hb h
    have hf := q6i hl (by omega) hb
    have hlen := qoj b l
    rw [h, e1]
    simp only [beq_self_eq_true, cond_t, qbec (insF b l) hf (by omega) hT, e3, oB_s]
    rw [qou]; unfold qk9
    simp only [qwo _ hf, qbg2 hT (by omega), oB_s, qbq1 hlen (by omega), bne_self_eq_false, Bool.or_self, cond_f, qbef hl (by omega), Bool.not_true]
  · have : ((addF l b).2 == 0) = false := by simpa using h
    rw [this]; rfl
theorem qbn1 {l : List AV} (hl : qbk l) (ht : qcs l) {v : Bool} {hi lo bits : Int} (h : (qks l v hi lo bits).2 = 0) :
    qbk (qks l v hi lo bits).1 ∧ qcs (qks l v hi lo bits).1 ∧ (qks l v hi lo bits).1.length + 1 = l.length := by
  unfold qks at *
  cases h1 : l.any (atP v hi lo bits) with
  | false => rw [h1] at h; cases h
  | true =>
  cases h2 : occF l v hi lo bits with
  | true => rw [h1, h2] at h; cases h
  | false =>
  simp only [Bool.not_true, cond_f]
  obtain ⟨y, hy, ha⟩ := List.any_eq_true.1 h1
  obtain ⟨a, b, c, d⟩ := qjs.1 ha
  have := q6n ht hy
  unfold pqY at this
  simp only [a, b, c, d] at this
  exact ⟨qtb hl v hi lo bits, ht.rem v hi lo bits, this⟩
theorem qbt5 {l : List AV} (hl : qbk l) (hn : l.length ≤ 100) (ht : qcs l) (v : Bool) (hi lo bits : Int) (kn : Bool → Option Bool) :
    qfu l (qks l v hi lo bits).1 (qks l v hi lo bits).2 v hi lo bits kn = kn false := by
  rw [qoy]; unfold qlb
  by_cases h : (qks l v hi lo bits).2 = 0
  · obtain ⟨hf, hT, hlen⟩ := qbn1 hl ht h
    rw [h]
    simp only [beq_self_eq_true, cond_t, qwo _ hf, qbg2 hT (by omega), oB_s, bne_self_eq_false, cond_f]
    rw [← qbnb hlen (by omega)]; simp
  · have : ((qks l v hi lo bits).2 == 0) = false := by simpa using h
    rw [this]; rfl
theorem qbt6 {l : List AV} (hl : qbk l) (hn : l.length ≤ 100) (ht : qcs l) (p : Pq) (u1 : uok p.hi) (u2 : uok p.lo) (kn : Unit → Option Bool) :
    qfv l (qmo l p).1 (qmo l p).2 p.v p.hi p.lo p.bits kn = kn () := by
  rw [qo2]; unfold qld
  by_cases h : (qmo l p).2 = 0
  · obtain ⟨hf, hT, hlen, hj⟩ := qbpk hl ht h
    rw [h]
    simp only [beq_self_eq_true, cond_t, qbm9 (qmo l p).1 hf (by omega) hT p u1 u2, hj, oB_s]
    rw [qo0]; unfold qlc
    simp only [qwo _ hf, qbg2 hT (by omega), oB_s, qbq1 hlen (by omega), bne_self_eq_false, Bool.or_self, cond_f, qbef hl (by omega), Bool.not_true]
  · have : ((qmo l p).2 == 0) = false := by simpa using h
    rw [this]; rfl
theorem law46S (l : List AV) (hl : qbk l) (b0 : Bool) (b1 b2 b3 b4 : Int) (b5 b6 : List UInt8) (b7 : Int) (hb : qgd (mkB b0 b1 b2 b3 b4 b5 b6 b7)) (v : Bool) (hi lo bits : Int) (u1 : uok hi) (u2 : uok lo) : qf5 l b0 b1 b2 b3 b4 b5 b6 b7 v hi lo bits = some true := by
  rw [qsa]; unfold qnj
  have hf := qbta hl
  have hlen := qbtb l
  simp only [qbun l hl, oB_s, qbum, qwo _ hf]
  generalize fewF l = L at *
  by_cases hc : qse L = 0
  · have ht := (qx1 (by omega)).1 hc
    have hsb := q99 hb
    generalize q1p (mkB b0 b1 b2 b3 b4 b5 b6 b7) = b at *
    have e1 := qbsf L hf (by omega) ht _ _ _ _ _ _ _ _ (by rw [qgo hsb.1]; exact hsb)
    rw [qgo hsb.1] at e1
    have e3 := qbec L hf (by omega) ht v hi lo bits
    have e5 := qbom L hf (by omega) ht ⟨v, hi, lo, bits⟩
    have e7 := qbm9 L hf (by omega) ht ⟨v, hi, lo, bits⟩ u1 u2
    have s41 := fun kn => qbt6 hf (by omega) ht ⟨v, hi, lo, bits⟩ u1 u2 kn
    simp only at e5 e7 s41
    rw [hc]
    simp only [bne_self_eq_false, cond_f, e1, oB_s, qbt4 hf (by omega) ht hsb, e3, qbt5 hf (by omega) ht, e5, s41, e7]
    by_cases h : (qsm L ⟨v, hi, lo, bits⟩).2 = 0
    · obtain ⟨jf, jT, jl⟩ := qbq0 (p := ⟨v, hi, lo, bits⟩) hf ht u1 u2 h
      rw [h]
      simp only [bne_self_eq_false, cond_f, qwo _ jf, oB_s, qbg2 jT (by omega), beq_self_eq_true, cond_t]
      rw [← qbnb jl (by omega)]
      simp only [beq_self_eq_true, cond_t, qbiv, oB_s]
    · have : ((qsm L ⟨v, hi, lo, bits⟩).2 != 0) = true := by simpa using h
      rw [this]; simp only [cond_t, qbiv, oB_s]
  · have : (qse L != 0) = true := by simpa using hc
    rw [this]; simp only [cond_t, qbiv, oB_s]
end Go.Proofs.Ytmjdngnagiloeaa.Dn
