/- What is free in a container, the program's answer and the reference's. -/
import Derived.Test.YtmjdngnagiloeaaBlLw46f
set_option linter.all false
namespace Go.Proofs.Ytmjdngnagiloeaa.Dn
open Go Go.Pev
set_option linter.unusedVariables false
set_option linter.unusedSimpArgs false
set_option maxRecDepth 4000
theorem q71 (v6 : Bool) (hi lo bits : Int) (w6 : Bool) (whi wlo wbits : Int) : qkf v6 hi lo bits w6 whi wlo wbits = some (ovP ⟨v6, hi, lo, bits⟩ ⟨w6, whi, wlo, wbits⟩) := by
  rw [q0x]; unfold qt3 ovP winP
  simp only [q4c, oB_s]
  cases qqa v6 hi lo bits w6 whi wlo wbits <;> simp
theorem qbty (p q : Pq) : ovP p q = ovP q p := by unfold ovP; rw [Bool.or_comm]
theorem qbqb {R : Type} {a : List AV} (x : AV) (h : (a.length + 1) * 32 ≤ 140737488355328) (k : Option R) : (bif decide ((a.length + ([x] : List AV).length) * 32 ≤ 140737488355328) then k else none) = k := by
  rw [show ([x] : List AV).length = 1 from rfl, decide_eq_true h]; rfl
theorem qbsk (rec : List AV → List AV → Bool → Int → Int → Int → Option (List AV)) (l : List AV) (hl : qbz l) (hn : l.length ≤ 1000) (a : List AV) (p : Pq) (kx : List AV → Option (List AV)) :
    qol rec l (l.length : Int) a p.v p.hi p.lo p.bits kx FU 0 [] = bif l.any (fun b => winP p (pqY b)) then some a else kx (l.filter fun b => ovP (pqY b) p) := by
  rw [q0y]
  have key := qgl (σ := List AV) l hl.1 (fun n i s => qo7 rec l (l.length : Int) a p.v p.hi p.lo p.bits kx n i s) (fun i s nx => qkg rec l (l.length : Int) i a p.v p.hi p.lo p.bits s nx kx) (fun _ _ _ => rfl)
    (fun i s => s.length ≤ i) (fun r s => bif r.any (fun b => winP p (pqY b)) then some a else kx (s ++ r.filter fun b => ovP (pqY b) p)) ?_ ?_ [] FU (by simp) (ql4 (by have := hl.1; omega))
  · exact key
  · intro s nx _; simp [qkg]
  · intro i y r s nx g1 g2 g3 g4 h2 h5
    have hy := hl.2 y (List.mem_of_getElem? g2)
    have h6 : (i : Int) < (l.length : Int) := by omega
    have hyy := qlw hy.1
    unfold mkB at hyy
    have n1 := h5 (s ++ [y]) (by simp; omega)
    have n2 := h5 s (by omega)
    unfold qkg
    simp only [h6, decide_true, cond_t, ixB_nat, g2, oB_s, hy.1, g4, q4c, q71, hyy, hd_self]
    rw [qbik y (a := s) (by omega), n1, n2, List.any_cons, List.filter_cons]
    rw [show qqa p.v p.hi p.lo p.bits (gB y.cells 0) (gI y.cells 1) (gI y.cells 2) (gI y.cells 3) = winP p (pqY y) from rfl]
    rw [show ovP ⟨gB y.cells 0, gI y.cells 1, gI y.cells 2, gI y.cells 3⟩ ⟨p.v, p.hi, p.lo, p.bits⟩ = ovP (pqY y) p from rfl]
    cases winP p (pqY y) <;> cases ovP (pqY y) p <;> simp
theorem qbtz {α : Type} (l : List α) (q : α → Bool) : (((l.filter q).length : Int) == 0) = !(l.any q) := by
  rw [Bool.eq_iff_iff]
  simp only [beq_iff_eq, Bool.not_eq_true', List.any_eq_false]
  constructor
  · intro h x hx
    have : l.filter q = [] := List.eq_nil_of_length_eq_zero (by omega)
    simpa using List.filter_eq_nil_iff.1 this x hx
  · intro h
    have : l.filter q = [] := List.filter_eq_nil_iff.2 h
    rw [this]; rfl
theorem qbo2 : ∀ (n : Nat) (p : Pq), p.good → p.np.k + 1 = n → ∀ (m : Nat), n ≤ m → ∀ (a l : List AV), qbz l → qiu l → l.length ≤ 1000 → a.length + (qef l n p).length ≤ 1000000000 →
    qff m a l p.v p.hi p.lo p.bits = some (a ++ (qef l n p).map Pq.av)
  | 0, p, hp, hk, _, _, _, _, _, _, _, _ => by omega
  | n + 1, p, hp, hk, m, hm, a, l, hl, hg, hn, hsz => by
    obtain ⟨m, rfl⟩ : ∃ j, m = j + 1 := ⟨m - 1, by omega⟩
    show qtg (qff m) a l p.v p.hi p.lo p.bits = _
    unfold qtg
    simp only [hd_self, hd_nil, List.length_nil, Bool.and_self, cond_t]
    rw [qbsk _ l hl hn, qbtz]
    unfold qef at hsz ⊢
    cases hW : l.any fun b => winP p (pqY b) with
    | true => simp
    | false =>
      simp only [hW, cond_f] at hsz ⊢
      cases hO : l.any fun b => ovP (pqY b) p with
      | false =>
        have hsz' : a.length + 1 ≤ 1000000000 := by simpa [hO] using hsz
        simp only [hO, Bool.not_false, cond_t, hd_self]
        rw [qbqb _ (by omega)]
        rfl
      | true =>
        simp only [hO, Bool.not_true, cond_f] at hsz ⊢
        rw [qbbg p.v p.hi p.lo p.bits hp.2.1 hp.2.2]
        simp only [oB_s]
        unfold q6a
        cases hh : qnq p.v p.hi p.lo p.bits with
        | false =>
          have hh' : p.half = false := hh
          simp only [hh', cond_f, Bool.not_false, cond_t]
          simp
        | true =>
          have hh' : p.half = true := hh
          have hkk := (Pq.half_iff hp).1 hh'
          have hlg := Pq.low_good hp hh'
          have hhg := Pq.high_good hp hh'
          have h1 : p.low.np.sub p.np := by rw [Pq.low_np hp hh']; exact Np.low_sub hp.np_ok hkk
          have h2 : p.high.np.sub p.np := by rw [Pq.high_np hp hh']; exact Np.high_sub hp.np_ok hkk
          have k1 : p.low.np.k + 1 = n := by rw [Pq.low_np hp hh']; show p.np.k - 1 + 1 = n; omega
          have k2 : p.high.np.k + 1 = n := by rw [Pq.high_np hp hh']; show p.np.k - 1 + 1 = n; omega
          have f1 := qbbh hg hp n p.low hlg h1
          have f2 := qbbh hg hp n p.high hhg h2
          have hf : qbz (l.filter fun b => ovP (pqY b) p) := ⟨Nat.le_trans (List.length_filter_le _ _) hl.1, fun y hy => hl.2 y (List.mem_filter.1 hy).1⟩
          have hfg : qiu (l.filter fun b => ovP (pqY b) p) := fun y hy => hg y (List.mem_filter.1 hy).1
          have hfn : (l.filter fun b => ovP (pqY b) p).length ≤ 1000 := Nat.le_trans (List.length_filter_le _ _) hn
          simp only [hh', cond_t, List.length_append] at hsz ⊢
          have r1 := qbo2 n p.low hlg k1 m (by omega) a _ hf hfg hfn (by rw [f1]; omega)
          have r2 := qbo2 n p.high hhg k2 m (by omega) (a ++ (qef l n p.low).map Pq.av) _ hf hfg hfn (by rw [f2]; simp only [List.length_append, List.length_map]; omega)
          rw [f1] at r1
          rw [f2] at r2
          simp only [Bool.not_true, cond_f, hd_self, cond_t, Bool.and_self]
          rw [show qff m a (l.filter fun b => ovP (pqY b) p) (gB (lowP p.v p.hi p.lo p.bits).cells 0) (gI (lowP p.v p.hi p.lo p.bits).cells 1) (gI (lowP p.v p.hi p.lo p.bits).cells 2) (gI (lowP p.v p.hi p.lo p.bits).cells 3) = some (a ++ (qef l n p.low).map Pq.av) from r1]
          simp only [oB_s, hd_self, cond_t]
          rw [show qff m (a ++ (qef l n p.low).map Pq.av) (l.filter fun b => ovP (pqY b) p) (gB (qwf p.v p.hi p.lo p.bits).cells 0) (gI (qwf p.v p.hi p.lo p.bits).cells 1) (gI (qwf p.v p.hi p.lo p.bits).cells 2) (gI (qwf p.v p.hi p.lo p.bits).cells 3) = some (a ++ (qef l n p.low).map Pq.av ++ (qef l n p.high).map Pq.av) from r2]
          simp
theorem qsb {l : List AV} (hl : qbz l) (ht : qfq l) : qiu l := fun y hy => by
  obtain ⟨j, hj⟩ := List.getElem?_of_mem hy
  exact ⟨(ht j y hj).p, (hl.2 y hy).2.1, (hl.2 y hy).2.2.1⟩
theorem qrx {p q : Pq} (hp : p.good) (hq : q.good) : qit p.v p.hi p.lo p.bits q.v q.hi q.lo q.bits = true ↔ p.np.sub q.np ∧ p.np.k < q.np.k := by
  unfold qit
  rw [Bool.and_eq_true, decide_eq_true_eq, show qqa p.v p.hi p.lo p.bits q.v q.hi q.lo q.bits = winP p q from rfl, qfe hp hq]
  obtain ⟨a1, a2, a3, _⟩ := hp.range
  obtain ⟨b1, b2, b3, _⟩ := hq.range
  constructor
  · rintro ⟨h1, h2⟩
    refine ⟨h2, ?_⟩
    have : p.v = q.v := h2.1
    rw [this] at a3; omega
  · rintro ⟨h1, h2⟩
    refine ⟨?_, h1⟩
    have : p.v = q.v := h1.1
    rw [this] at a3; omega
def qq0 (l : List AV) (p : Pq) : List AV := l.filter fun y => qit (gB y.cells 0) (gI y.cells 1) (gI y.cells 2) (gI y.cells 3) p.v p.hi p.lo p.bits
theorem qbfv {l : List AV} (hg : qiu l) {p : Pq} (hp : p.good) : ∀ (n : Nat) (y : AV), y ∈ l → (pqY y).np.sub p.np → (pqY y).np.k < p.np.k → p.np.k - (pqY y).np.k ≤ n → ∃ c, c ∈ qg7 l p.v p.hi p.lo p.bits ∧ (pqY y).np.sub (pqY c).np
  | 0, y, hy, h1, h2, h3 => by omega
  | n + 1, y, hy, h1, h2, h3 => by
    have hyg := hg y hy
    by_cases hc : q1s l p.v p.hi p.lo p.bits y = true
    · exact ⟨y, List.mem_filter.2 ⟨hy, hc⟩, Np.sub_refl hyg.np_ok⟩
    · unfold q1s at hc
      have hlp : qit (gB y.cells 0) (gI y.cells 1) (gI y.cells 2) (gI y.cells 3) p.v p.hi p.lo p.bits = true := (qrx hyg hp).2 ⟨h1, h2⟩
      rw [hlp] at hc
      simp only [Bool.true_and, Bool.not_eq_true', Bool.not_eq_false, List.any_eq_true] at hc
      obtain ⟨o, ho, hoo⟩ := hc
      rw [Bool.and_eq_true] at hoo
      have hog := hg o ho
      obtain ⟨a1, a2⟩ := (qrx hog hp).1 hoo.1
      obtain ⟨b1, b2⟩ := (qrx hyg hog).1 (show qit (pqY y).v (pqY y).hi (pqY y).lo (pqY y).bits (pqY o).v (pqY o).hi (pqY o).lo (pqY o).bits = true from hoo.2)
      obtain ⟨c, hc1, hc2⟩ := qbfv hg hp n o ho a1 a2 (by omega)
      exact ⟨c, hc1, Np.sub_trans b1 hc2⟩
theorem qbms {l : List AV} (hg : qiu l) {p : Pq} (hp : p.good) : qef (qq0 l p) (p.np.k + 1) p = qef (qg7 l p.v p.hi p.lo p.bits) (p.np.k + 1) p := by
  have hd : ∀ y, y ∈ qq0 l p ↔ y ∈ l ∧ (pqY y).np.sub p.np ∧ (pqY y).np.k < p.np.k := fun y => by
    unfold qq0
    rw [List.mem_filter]
    constructor
    · rintro ⟨h1, h2⟩; exact ⟨h1, (qrx (hg y h1) hp).1 h2⟩
    · rintro ⟨h1, h2⟩; exact ⟨h1, (qrx (hg y h1) hp).2 h2⟩
  have hcd : ∀ y, y ∈ qg7 l p.v p.hi p.lo p.bits → y ∈ qq0 l p := fun y hy => by
    unfold qg7 at hy
    rw [List.mem_filter] at hy
    unfold q1s at hy
    simp only [Bool.and_eq_true] at hy
    exact List.mem_filter.2 ⟨hy.1, hy.2.1⟩
  have hgd : qiu (qq0 l p) := fun y hy => hg y ((hd y).1 hy).1
  have hgc : qiu (qg7 l p.v p.hi p.lo p.bits) := fun y hy => hgd y (hcd y hy)
  refine qx7 hgd hgc hp (fun q hq hs => ?_) (fun q hq hs => ?_) _ p hp (Np.sub_refl hp.np_ok)
  · rw [Bool.eq_iff_iff, List.any_eq_true, List.any_eq_true]
    constructor
    · rintro ⟨b, hb, h⟩
      obtain ⟨h1, h2, h3⟩ := (hd b).1 hb
      obtain ⟨c, hc, hs2⟩ := qbfv hg hp _ b h1 h2 h3 (Nat.le_refl _)
      exact ⟨c, hc, (qfe hq (hgc c hc)).2 (Np.sub_trans ((qfe hq (hgd b hb)).1 h) hs2)⟩
    · rintro ⟨c, hc, h⟩; exact ⟨c, hcd c hc, h⟩
  · rw [Bool.eq_iff_iff, List.any_eq_true, List.any_eq_true]
    constructor
    · rintro ⟨b, hb, h⟩
      obtain ⟨h1, h2, h3⟩ := (hd b).1 hb
      obtain ⟨c, hc, hs2⟩ := qbfv hg hp _ b h1 h2 h3 (Nat.le_refl _)
      refine ⟨c, hc, ?_⟩
      unfold ovP at h ⊢
      rw [Bool.or_eq_true, qfe (hgd b hb) hq, qfe hq (hgd b hb)] at h
      rw [Bool.or_eq_true, qfe (hgc c hc) hq, qfe hq (hgc c hc)]
      rcases h with h | h
      · rcases Nat.lt_or_ge (pqY c).np.k q.np.k with hk | hk
        · exact .inl (Np.nest hs2 h (by omega))
        · exact .inr (Np.nest h hs2 hk)
      · exact .inr (Np.sub_trans h hs2)
    · rintro ⟨c, hc, h⟩; exact ⟨c, hcd c hc, h⟩
def qbm4 (l : List AV) (p : Pq) : List AV :=
  bif (match l.find? (atP p.v p.hi p.lo p.bits) with | some y => gI y.cells 4 == 1 | none => false) then (qef (qq0 l p) (p.np.k + 1) p).map Pq.av else []
theorem qblr {l : List AV} (hg : qiu l) {p : Pq} {y : AV} (hy : l.find? (atP p.v p.hi p.lo p.bits) = some y) : p.good ∧ pqY y = p := by
  have h1 := List.find?_some hy
  obtain ⟨a, b, c, d⟩ := quv.1 h1
  have e : pqY y = p := by unfold pqY; rw [a, b, c, d]
  have := hg y (List.mem_of_find?_eq_some hy)
  rw [e] at this
  exact ⟨this, e⟩
theorem qbwl {n : Nat} (h : n ≤ 1000) : n ≤ FU := by rw [qbue]; omega
theorem qbsl (y : AV) : gI (blkV y).cells 4 = gI y.cells 4 := rfl
theorem qbsm (l : List AV) (hl : qbz l) (hg : qiu l) (hn : l.length ≤ 1000) (p : Pq) : qkx l p.v p.hi p.lo p.bits = some (qbm4 l p) := by
  rw [q5j]; unfold qzx qbm4
  rw [qbp6 l hl]
  simp only [oB_s]
  unfold q1o
  cases hf : l.find? (atP p.v p.hi p.lo p.bits) with
  | none => rfl
  | some y =>
    obtain ⟨hp, _⟩ := qblr hg hf
    simp only [qbsl, Bool.not_true, Bool.false_or]
    cases hk : gI y.cells 4 == 1 with
    | false =>
      have : (gI y.cells 4 != 1) = true := by unfold bne; rw [hk]; rfl
      rw [this]; rfl
    | true =>
      have : (gI y.cells 4 != 1) = false := by unfold bne; rw [hk]; rfl
      rw [this]
      simp only [cond_f, hd_nil, List.length_nil, Bool.and_self, cond_t]
      have lp : ∀ kx : List AV → Option (List AV), qnm l (l.length : Int) p.v p.hi p.lo p.bits kx FU 0 [] = kx (qq0 l p) := by
        intro kx
        rw [qyv]
        have key := qgl (σ := List AV) l hl.1 (fun n i s => qn6 l (l.length : Int) p.v p.hi p.lo p.bits kx n i s) (fun i s nx => qi2 l (l.length : Int) i p.v p.hi p.lo p.bits s nx kx) (fun _ _ _ => rfl)
          (fun i s => s.length ≤ i) (fun r s => kx (s ++ qq0 r p)) ?_ ?_ [] FU (by simp) (ql4 (by have := hl.1; omega))
        · exact key
        · intro s nx _; simp [qi2, qq0]
        · intro i y r s nx g1 g2 g3 g4 h2 h5
          have hy := hl.2 y (List.mem_of_getElem? g2)
          have h6 : (i : Int) < (l.length : Int) := by omega
          have hyy := qlw hy.1
          unfold mkB at hyy
          have n1 := h5 (s ++ [y]) (by simp; omega)
          have n2 := h5 s (by omega)
          unfold qi2
          simp only [h6, decide_true, cond_t, ixB_nat, g2, oB_s, hy.1, g4, q59, hyy, hd_self]
          rw [qbik y (a := s) (by omega), n1, n2]
          unfold qq0
          rw [List.filter_cons]
          cases qit (gB y.cells 0) (gI y.cells 1) (gI y.cells 2) (gI y.cells 3) p.v p.hi p.lo p.bits <;> simp
      rw [lp]
      simp only [hd_self, cond_t]
      have hf2 : qbz (qq0 l p) := ⟨Nat.le_trans (List.length_filter_le _ _) hl.1, fun y hy => hl.2 y (List.mem_filter.1 hy).1⟩
      have hfg : qiu (qq0 l p) := fun y hy => hg y (List.mem_filter.1 hy).1
      have hfn : (qq0 l p).length ≤ 1000 := Nat.le_trans (List.length_filter_le _ _) hn
      have hk2 := hp.range.2.2.2
      have := qbo2 (p.np.k + 1) p hp rfl FU (qbwl (by omega)) [] (qq0 l p) hf2 hfg hfn (by have := qbo1 hfg hfn (n := p.np.k + 1) (by omega) hp; simp; omega)
      rw [q5h, this]
      simp
end Go.Proofs.Ytmjdngnagiloeaa.Dn
