/- Tables of blocks: splitting and joining; BlocksStay. -/
import Derived.Test.YtmjdngnagiloeaaBsLw46s
set_option linter.all false
namespace Go.Proofs.Ytmjdngnagiloeaa.Dn
open Go Go.Pev
set_option linter.unusedVariables false
set_option linter.unusedSimpArgs false
set_option maxRecDepth 4000
theorem qo9 (y : AV) (q : Pq) (nm : List UInt8) : pqY (qi3 y q nm) = q := rfl
theorem qx5 (y : AV) (q : Pq) (nm : List UInt8) : gI (qi3 y q nm).cells 4 = gI y.cells 4 := rfl
theorem q6o {y : AV} : mayB y = true ↔ (1 ≤ gI y.cells 4 ∧ gI y.cells 4 ≤ 3 ∧ (gI y.cells 4 = 3 → gI y.cells 3 = q8 (gB y.cells 0))) ∧ (1 ≤ (gS y.cells 5).length ∧ (gS y.cells 5).length ≤ 63 ∧ qgy (gS y.cells 5) = true) ∧
    ((gS y.cells 6).length ≤ 32 ∧ qgy (gS y.cells 6) = true ∧ 0 ≤ gI y.cells 7 ∧ gI y.cells 7 ≤ 4294967295) := by
  unfold mayB
  constructor
  · intro h
    by_cases h1 : gI y.cells 4 < 1
    · simp [h1] at h
    by_cases h2 : gI y.cells 4 > 3
    · simp [h1, h2] at h
    by_cases h3 : gI y.cells 4 = 3
    · by_cases h4 : gI y.cells 3 = q8 (gB y.cells 0)
      · simp [h3, h4, Bool.cond_eq_ite] at h
        refine ⟨⟨by omega, by omega, fun _ => h4⟩, ⟨by omega, by omega, h.2.1.1⟩, ⟨by omega, h.2.2.1.1, h.2.2.1.2, h.2.2.2⟩⟩
      · simp [h3, h4] at h
    · simp [h1, h2, h3, Bool.cond_eq_ite] at h
      refine ⟨⟨by omega, by omega, fun h => absurd h h3⟩, ⟨by omega, by omega, h.2.1.1⟩, ⟨by omega, h.2.2.1.1, h.2.2.1.2, h.2.2.2⟩⟩
  · rintro ⟨⟨h1, h2, h3⟩, ⟨h4, h5, h6⟩, ⟨h7, h8, h9, h10⟩⟩
    have e1 : decide (gI y.cells 4 < 1) = false := by simpa using h1
    have e2 : decide (gI y.cells 4 > 3) = false := by simpa using h2
    have e3 : (bif gI y.cells 4 == 3 then gI y.cells 3 != q8 (gB y.cells 0) else false) = false := by
      by_cases h : gI y.cells 4 = 3
      · rw [h3 h, h]; simp
      · have : (gI y.cells 4 == 3) = false := by simpa using h
        rw [this]; rfl
    rw [e1, e2, e3, h6, h8]
    have e4 : (decide (((gS y.cells 5).length : Int) ≥ 1) && decide (((gS y.cells 5).length : Int) ≤ 63)) = true := by simp; omega
    have e5 : decide (((gS y.cells 6).length : Int) ≤ 32) = true := by simp; omega
    have e6 : ((true && decide (gI y.cells 7 ≥ 0)) && decide (gI y.cells 7 ≤ 4294967295)) = true := by simp; omega
    rw [e4, e5]
    simp only [cond_f, cond_t, Bool.and_self, e6]
theorem qbeg {p : Pq} (hp : p.good) (h : p.half = true) : p.low.np.sub p.np ∧ p.high.np.sub p.np ∧ p.low.np.k + 1 = p.np.k ∧ p.high.np.k + 1 = p.np.k := by
  have hk := (Pq.half_iff hp).1 h
  rw [Pq.low_np hp h, Pq.high_np hp h]
  refine ⟨Np.low_sub hp.np_ok hk, Np.high_sub hp.np_ok hk, ?_, ?_⟩
  · show p.np.k - 1 + 1 = p.np.k; omega
  · show p.np.k - 1 + 1 = p.np.k; omega
theorem qboo {p : Pq} (hp : p.good) (h : p.half = true) : p.low ≠ p.high ∧ p.low ≠ p ∧ p.high ≠ p := by
  obtain ⟨_, _, h1, h2⟩ := qbeg hp h
  refine ⟨fun e => ?_, fun e => by rw [e] at h1; omega, fun e => by rw [e] at h2; omega⟩
  have hk := (Pq.half_iff hp).1 h
  have e1 := Pq.low_np hp h
  have e2 := Pq.high_np hp h
  rw [e, e2] at e1
  have := congrArg Np.n e1
  simp only [Np.high, Np.low] at this
  have := Nat.two_pow_pos (p.np.k - 1)
  omega
theorem qbna {p : Pq} (hp : p.good) (h : p.half = true) : ¬ p.low.np.sub p.high.np ∧ ¬ p.high.np.sub p.low.np := by
  have hk := (Pq.half_iff hp).1 h
  have hl := Pq.low_good hp h
  have hh := Pq.high_good hp h
  have r1 := Np.sub_refl hl.np_ok
  have r2 := Np.sub_refl hh.np_ok
  refine ⟨fun e => ?_, fun e => ?_⟩
  · rw [Pq.low_np hp h] at e r1; rw [Pq.high_np hp h] at e
    exact Np.not_both hp.np_ok (Np.low_ok hp.np_ok hk) hk r1 e
  · rw [Pq.high_np hp h] at e r2; rw [Pq.low_np hp h] at e
    exact Np.not_both hp.np_ok (Np.high_ok hp.np_ok hk) hk e r2
theorem qbj4 {l : List AV} {q : AV → Bool} {y : AV} (hy : y ∈ l) (hq : q y = true) (h : ∀ z, z ∈ l → q z = true → z = y) : l.find? q = some y := by
  cases hf : l.find? q with
  | none => have := List.find?_eq_none.1 hf y hy; rw [hq] at this; simp at this
  | some z => rw [h z (List.mem_of_find?_eq_some hf) (List.find?_some hf)]
theorem q0c {l : List AV} {p : Pq} {z : AV} : z ∈ remF l p.v p.hi p.lo p.bits ↔ z ∈ l ∧ pqY z ≠ p := by
  unfold remF
  rw [List.mem_filter]
  have : (!atP p.v p.hi p.lo p.bits z) = true ↔ pqY z ≠ p := by
    rw [Bool.not_eq_true', ← Bool.not_eq_true, qjs]
    unfold pqY
    constructor
    · intro h e; rw [← e] at h; exact h ⟨rfl, rfl, rfl, rfl⟩
    · rintro h ⟨h1, h2, h3, h4⟩; rw [h1, h2, h3, h4] at h; exact h rfl
  rw [this]
theorem qbn0 {s : List UInt8} (hs : 1 ≤ s.length) : ql3 (s ++ [45, 48]) = s := by
  unfold ql3
  have h1 : (s ++ [45, 48]).length = s.length + 2 := by simp
  rw [h1, Nat.add_sub_cancel]
  have h2 : decide (s.length + 2 > 2) = true := by simp; omega
  rw [h2, List.drop_left, List.take_left]; rfl
theorem qbqz {s t : List UInt8} : qgy (s ++ t) = (qgy s && qgy t) := by unfold qgy; exact List.all_append
theorem qbpj {s : List UInt8} (h : qgy s = true) : qgy (ql3 s) = true := by
  unfold ql3
  cases (decide (s.length > 2) && (s.drop (s.length - 2) == [45, 48])) with
  | false => exact h
  | true =>
    simp only [cond_t]
    unfold qgy at *
    rw [List.all_eq_true] at *
    intro c hc; exact h c (List.mem_of_mem_take hc)
theorem qbr3 {s : List UInt8} (h : 1 ≤ s.length) : 1 ≤ (ql3 s).length := by
  unfold ql3
  by_cases h2 : s.length > 2
  · cases (s.drop (s.length - 2) == [45, 48]) with
    | false => simp; exact h
    | true => simp [h2]; omega
  · simp [h2]; exact h
theorem qbpk {l : List AV} (hl : qbk l) (ht : qcs l) {p : Pq} (h : (qmo l p).2 = 0) :
    qbk (qmo l p).1 ∧ qcs (qmo l p).1 ∧ (qmo l p).1.length = l.length + 1 ∧ qsm (qmo l p).1 p = (l, 0) := by
  have hg := qrc hl ht
  unfold qmo at *
  cases hfd : l.find? (atP p.v p.hi p.lo p.bits) with
  | none => rw [hfd] at h; cases h
  | some y =>
  rw [hfd] at h
  simp only at *
  obtain ⟨hp, hyp⟩ := qx4 hg hfd
  have hy := List.mem_of_find?_eq_some hfd
  cases hh : p.half with
  | false => rw [hh] at h; cases h
  | true =>
  cases ho : occF l p.v p.hi p.lo p.bits with
  | true => rw [hh, ho] at h; cases h
  | false =>
  rw [hh, ho] at h
  by_cases h61 : ((gS y.cells 5).length : Int) > 61
  · simp [h61] at h
  by_cases h512 : (l.length : Int) ≥ 512
  · simp only [h61, h512, decide_true, decide_false, Bool.not_true, cond_f, cond_t] at h; cases h
  simp only [h61, h512, decide_false, Bool.not_true, cond_f]
  have hyf := hl.2 y hy
  obtain ⟨m1, m2, m3⟩ := q6o.1 (ht.may hy)
  have hlg := Pq.low_good hp hh
  have hhg := Pq.high_good hp hh
  obtain ⟨s1, s2, k1, k2⟩ := qbeg hp hh
  obtain ⟨n1, n2, n3⟩ := qboo hp hh
  obtain ⟨x1, x2⟩ := qbna hp hh
  have hkind : gI y.cells 4 ≠ 3 := fun h3 => by
    have := m1.2.2 h3
    have a1 := (qqy hh).2.2.1
    rw [← hyp] at a1
    exact absurd this (by show ¬ (pqY y).bits = q8 (pqY y).v; omega)
  have hocc := (qbiy hg hp).1 ho
  have hX := ht.rem p.v p.hi p.lo p.bits
  -- what lies about the two halves
  have about : ∀ (q : Pq) (nm : List UInt8), q.good → q.np.sub p.np → q.np.k + 1 = p.np.k → q ≠ p → ∀ z, z ∈ remF l p.v p.hi p.lo p.bits → atY (qi3 y q nm) z = false ∧ qdd (qi3 y q nm) z = false ∧ qdd z (qi3 y q nm) = false := by
    intro q nm hq hs hk hne z hz
    obtain ⟨hz1, hz2⟩ := q0c.1 hz
    have hzg := hg z hz1
    refine ⟨?_, ?_, ?_⟩
    · cases ha : atY (qi3 y q nm) z with
      | false => rfl
      | true =>
        have e := q4t.1 ha
        rw [qo9] at e
        exact absurd ⟨by rw [e]; exact hs, by rw [e]; omega⟩ (hocc z hz1)
    · refine (qlr (by rw [qo9]; exact hq) hzg).2 fun h1 h2 => ?_
      rw [qo9] at h1 h2
      rw [qx5]
      have hpz : p.np.sub (pqY z).np := Np.nest hs h1 (by omega)
      rcases Nat.lt_or_ge p.np.k (pqY z).np.k with hlt | hge
      · have := qcs.bars hl ht hy hz1
        have := (qlr (hg y hy) hzg).1 this
        rw [hyp] at this
        exact this hpz hlt
      · exfalso
        have hle := hpz.2.1
        have : (pqY z).np.sub p.np := Np.nest hpz (Np.sub_refl hp.np_ok) (by omega)
        have e := Np.sub_antisymm hp.np_ok hpz this
        exact hz2 (qbm7 hzg hp e.symm)
    · refine (qlr hzg (by rw [qo9]; exact hq)).2 fun h1 h2 => ?_
      rw [qo9] at h1 h2
      exact absurd ⟨Np.sub_trans h1 hs, by omega⟩ (hocc z hz1)
  generalize hLo : qi3 y p.low (gS y.cells 5 ++ [45, 48]) = lo
  generalize hHi : qi3 y p.high (gS y.cells 5 ++ [45, 49]) = hi
  have plo : pqY lo = p.low := by rw [← hLo]; rfl
  have phi : pqY hi = p.high := by rw [← hHi]; rfl
  have mk : ∀ (q : Pq) (c : UInt8), 33 ≤ c.toNat → c.toNat ≤ 126 → mayB (qi3 y q (gS y.cells 5 ++ [45, c])) = true := fun q c h1 h2 => q6o.2 ⟨⟨m1.1, m1.2.1, fun h => absurd h hkind⟩, ⟨by show 1 ≤ (gS y.cells 5 ++ [45, c]).length; simp, by show (gS y.cells 5 ++ [45, c]).length ≤ 63; simp; omega, by
    show qgy (gS y.cells 5 ++ [45, c]) = true
    rw [qbqz, m2.2.2]; simp [qgy, h1, h2]⟩, m3⟩
  have tlo : qcs (insF lo (remF l p.v p.hi p.lo p.bits)) := by
    rw [← hLo]
    exact hX.ins hlg.1 (mk p.low 48 (by decide) (by decide)) (about p.low _ hlg s1 k1 n2)
  have thi : qcs (insF hi (insF lo (remF l p.v p.hi p.lo p.bits))) := by
    refine tlo.ins (by rw [← hHi]; exact hhg.1) (by rw [← hHi]; exact mk p.high 49 (by decide) (by decide)) fun z hz => ?_
    rcases qe8.1 hz with rfl | hz'
    · refine ⟨?_, ?_, ?_⟩
      · cases ha : atY hi z with
        | false => rfl
        | true => have e := q4t.1 ha; rw [plo, phi] at e; exact absurd e n1
      · exact (qlr (by rw [phi]; exact hhg) (by rw [plo]; exact hlg)).2 fun h1 _ => by rw [phi, plo] at h1; exact absurd h1 x2
      · exact (qlr (by rw [plo]; exact hlg) (by rw [phi]; exact hhg)).2 fun h1 _ => by rw [phi, plo] at h1; exact absurd h1 x1
    · rw [← hHi]; exact about p.high _ hhg s2 k2 n3 z hz'
  have flo : qgd lo := by rw [← hLo]; exact q6j hyf hlg.2.1 hlg.2.2 (by simp; omega)
  have fhi : qgd hi := by rw [← hHi]; exact q6j hyf hhg.2.1 hhg.2.2 (by simp; omega)
  have l0 := q6n ht hy
  rw [hyp] at l0
  have fr := qtb hl p.v p.hi p.lo p.bits
  have f1 := q6i fr (by omega) flo
  have f2 := q6i f1 (by rw [qoj]; omega) fhi
  refine ⟨f2, thi, by rw [qoj, qoj]; omega, ?_⟩
  -- joining brings back
  have tp : ∀ z, z ∈ remF l p.v p.hi p.lo p.bits → pqY z ≠ p.low ∧ pqY z ≠ p.high := fun z hz => by
    have hz1 := (q0c.1 hz).1
    exact ⟨fun e => absurd ⟨by rw [e]; exact s1, by rw [e]; omega⟩ (hocc z hz1), fun e => absurd ⟨by rw [e]; exact s2, by rw [e]; omega⟩ (hocc z hz1)⟩
  have atq : ∀ (q : Pq) (z : AV), atP q.v q.hi q.lo q.bits z = true ↔ pqY z = q := fun q z => by
    rw [qjs]; unfold pqY
    constructor
    · rintro ⟨h1, h2, h3, h4⟩; rw [h1, h2, h3, h4]
    · intro e; rw [← e]; exact ⟨rfl, rfl, rfl, rfl⟩
  have e1 : (insF hi (insF lo (remF l p.v p.hi p.lo p.bits))).find? (atP p.low.v p.low.hi p.low.lo p.low.bits) = some lo := by
    refine qbj4 (qe8.2 (.inr (qe8.2 (.inl rfl)))) ((atq _ _).2 plo) fun z hz hq => ?_
    have hq := (atq _ _).1 hq
    rcases qe8.1 hz with rfl | hz
    · rw [phi] at hq; exact absurd hq.symm n1
    · rcases qe8.1 hz with rfl | hz
      · rfl
      · exact absurd hq (tp z hz).1
  have e2 : (insF hi (insF lo (remF l p.v p.hi p.lo p.bits))).find? (atP p.high.v p.high.hi p.high.lo p.high.bits) = some hi := by
    refine qbj4 (qe8.2 (.inl rfl)) ((atq _ _).2 phi) fun z hz hq => ?_
    have hq := (atq _ _).1 hq
    rcases qe8.1 hz with rfl | hz
    · rfl
    · rcases qe8.1 hz with rfl | hz
      · rw [plo] at hq; exact absurd hq n1
      · exact absurd hq (tp z hz).2
  have e3 : (insF hi (insF lo (remF l p.v p.hi p.lo p.bits))).any (atP p.v p.hi p.lo p.bits) = false := by
    rw [List.any_eq_false]
    intro z hz hq
    have hq := (atq _ _).1 hq
    rcases qe8.1 hz with rfl | hz
    · rw [phi] at hq; exact n3 hq
    · rcases qe8.1 hz with rfl | hz
      · rw [plo] at hq; exact n2 hq
      · exact (q0c.1 hz).2 hq
  have e4 : q6k lo hi = false := by
    rw [← hLo, ← hHi]
    unfold q6k
    rw [qx5, qx5]
    have : (gI y.cells 4 == 3) = false := by simpa using hkind
    rw [this]
    show ((((gI y.cells 4 != gI y.cells 4) || (!(gS y.cells 6 == gS y.cells 6))) || (gI y.cells 7 != gI y.cells 7)) || false) = false
    simp
  have e5 : remF (remF (insF hi (insF lo (remF l p.v p.hi p.lo p.bits))) p.low.v p.low.hi p.low.lo p.low.bits) p.high.v p.high.hi p.high.lo p.high.bits = remF l p.v p.hi p.lo p.bits := by
    conv => lhs; unfold remF
    rw [List.filter_filter, q6l, q6l]
    · refine q6m fun z hz => ?_
      obtain ⟨t1, t2⟩ := tp z hz
      have u1 : atP p.low.v p.low.hi p.low.lo p.low.bits z = false := by rw [← Bool.not_eq_true, atq]; exact t1
      have u2 : atP p.high.v p.high.hi p.high.lo p.high.bits z = false := by rw [← Bool.not_eq_true, atq]; exact t2
      rw [u1, u2]; rfl
    · rw [(atq _ _).2 plo]; simp
    · rw [(atq _ _).2 phi]; simp
  have e6 : qi3 lo p (ql3 (gS lo.cells 5)) = y := by
    rw [← hLo, show gS (qi3 y p.low (gS y.cells 5 ++ [45, 48])).cells 5 = gS y.cells 5 ++ [45, 48] from rfl, qbn0 m2.1, ← hyp]
    exact qgo hyf.1
  unfold qsm
  rw [hh, e1, e2, e3, e5]
  simp only [Bool.not_true, cond_f]
  rw [e4, e6]
  simp only [cond_f]
  rw [← hyp]
  have := qbix (qbon ht) hy
  exact Prod.ext this rfl
theorem qbq0 {l : List AV} (hl : qbk l) (ht : qcs l) {p : Pq} (u1 : uok p.hi) (u2 : uok p.lo) (h : (qsm l p).2 = 0) :
    qbk (qsm l p).1 ∧ qcs (qsm l p).1 ∧ (qsm l p).1.length + 1 = l.length := by
  have hg := qrc hl ht
  unfold qsm at *
  cases hh : p.half with
  | false => rw [hh] at h; cases h
  | true =>
  have hp : p.good := ⟨(qqy hh).1, u1, u2⟩
  rw [hh] at h
  simp only [Bool.not_true, cond_f] at *
  cases hfa : l.find? (atP p.low.v p.low.hi p.low.lo p.low.bits) with
  | none => rw [hfa] at h; cases h
  | some a =>
  cases hfb : l.find? (atP p.high.v p.high.hi p.high.lo p.high.bits) with
  | none => rw [hfa, hfb] at h; cases h
  | some b =>
  rw [hfa, hfb] at h
  simp only at *
  obtain ⟨hlg, pa⟩ := qx4 hg hfa
  obtain ⟨hhg, pb⟩ := qx4 hg hfb
  have ha := List.mem_of_find?_eq_some hfa
  have hb := List.mem_of_find?_eq_some hfb
  cases h3 : l.any (atP p.v p.hi p.lo p.bits) with
  | true => rw [h3] at h; cases h
  | false =>
  cases h4 : q6k a b with
  | true => rw [h3, h4] at h; cases h
  | false =>
  simp only [cond_f]
  obtain ⟨s1, s2, k1, k2⟩ := qbeg hp hh
  obtain ⟨n1, n2, n3⟩ := qboo hp hh
  have haf := hl.2 a ha
  obtain ⟨m1, m2, m3⟩ := q6o.1 (ht.may ha)
  unfold q6k at h4
  simp only [Bool.or_eq_false_iff, bne_eq_false_iff_eq, beq_eq_false_iff_ne] at h4
  obtain ⟨⟨⟨q1, _⟩, _⟩, q2⟩ := h4
  have t1 := ht.rem p.low.v p.low.hi p.low.lo p.low.bits
  have hb1 : b ∈ remF l p.low.v p.low.hi p.low.lo p.low.bits := q0c.2 ⟨hb, by rw [pb]; exact n1.symm⟩
  have t2 := t1.rem p.high.v p.high.hi p.high.lo p.high.bits
  have l1 := q6n ht ha
  rw [pa] at l1
  have l2 := q6n t1 hb1
  rw [pb] at l2
  have f1 := qtb hl p.low.v p.low.hi p.low.lo p.low.bits
  have f2 := qtb f1 p.high.v p.high.hi p.high.lo p.high.bits
  have fl : qgd (qi3 a p (ql3 (gS a.cells 5))) := q6j haf u1 u2 (by have := qbj2 (gS a.cells 5); omega)
  have hl30 := hl.1
  have tl := qbj2 (gS a.cells 5)
  have hm : mayB (qi3 a p (ql3 (gS a.cells 5))) = true := q6o.2 ⟨⟨m1.1, m1.2.1, fun h => absurd h q2⟩, ⟨qbr3 m2.1, by show (ql3 (gS a.cells 5)).length ≤ 63; omega, qbpj m2.2.2⟩, m3⟩
  have hT : qcs (insF (qi3 a p (ql3 (gS a.cells 5))) (remF (remF l p.low.v p.low.hi p.low.lo p.low.bits) p.high.v p.high.hi p.high.lo p.high.bits)) := by
    refine t2.ins hp.1 hm fun z hz => ?_
    obtain ⟨hz1, z2⟩ := q0c.1 hz
    obtain ⟨hz0, z1⟩ := q0c.1 hz1
    have hzg := hg z hz0
    refine ⟨?_, ?_, ?_⟩
    · cases hat : atY (qi3 a p (ql3 (gS a.cells 5))) z with
      | false => rfl
      | true =>
        have e := q4t.1 hat
        rw [qo9] at e
        have := List.any_eq_false.1 h3 z hz0
        rw [← e] at this
        exact absurd (qjs.2 ⟨rfl, rfl, rfl, rfl⟩) this
    · refine (qlr (by rw [qo9]; exact hp) hzg).2 fun h1 h2 => ?_
      rw [qo9] at h1 h2
      rw [qx5]
      have := (qlr (hg a ha) hzg).1 (qcs.bars hl ht ha hz0)
      rw [pa] at this
      exact this (Np.sub_trans s1 h1) (by omega)
    · refine (qlr hzg (by rw [qo9]; exact hp)).2 fun h1 h2 => ?_
      rw [qo9] at h1 h2
      rw [qx5]
      have hk := (Pq.half_iff hp).1 hh
      rcases Np.half hp.np_ok hzg.np_ok h1 h2 with h5 | h5
      · rw [← Pq.low_np hp hh] at h5
        have := (qlr hzg (hg a ha)).1 (qcs.bars hl ht hz0 ha)
        rw [pa] at this
        refine this h5 ?_
        rcases Nat.lt_or_ge (pqY z).np.k p.low.np.k with h6 | h6
        · exact h6
        · exact absurd (qbm7 hzg hlg (Np.sub_antisymm hzg.np_ok h5 (Np.nest h5 (Np.sub_refl hzg.np_ok) h6))) z1
      · rw [← Pq.high_np hp hh] at h5
        have := (qlr hzg (hg b hb)).1 (qcs.bars hl ht hz0 hb)
        rw [pb] at this
        rw [q1]
        refine this h5 ?_
        rcases Nat.lt_or_ge (pqY z).np.k p.high.np.k with h6 | h6
        · exact h6
        · exact absurd (qbm7 hzg hhg (Np.sub_antisymm hzg.np_ok h5 (Np.nest h5 (Np.sub_refl hzg.np_ok) h6))) z2
  have e7 : (insF (qi3 a p (ql3 (gS a.cells 5))) (remF (remF l p.low.v p.low.hi p.low.lo p.low.bits) p.high.v p.high.hi p.high.lo p.high.bits)).length + 1 = l.length := by rw [qoj]; omega
  exact ⟨⟨by omega, fun y hy => by
    rcases qe8.1 hy with rfl | hy'
    · exact fl
    · exact f2.2 y hy'⟩, hT, e7⟩
end Go.Proofs.Ytmjdngnagiloeaa.Dn
