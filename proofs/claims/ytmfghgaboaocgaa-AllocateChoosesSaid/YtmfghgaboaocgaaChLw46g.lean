/- What is free in a container, the program's answer and the reference's. -/
import Derived.Test.YtmfghgaboaocgaaChLw46f
set_option linter.all false
namespace Go.Proofs.Ytmfghgaboaocgaa.Dn
open Go Go.Pev
set_option linter.unusedVariables false
set_option linter.unusedSimpArgs false
set_option maxRecDepth 4000
theorem qb3g (v6 : Bool) (hi lo bits : Int) (w6 : Bool) (whi wlo wbits : Int) : qp3 v6 hi lo bits w6 whi wlo wbits = some (ovP ⟨v6, hi, lo, bits⟩ ⟨w6, whi, wlo, wbits⟩) := by
  rw [q6x]; unfold qyw ovP winP
  simp only [qbmq, oB_s]
  cases qm9 v6 hi lo bits w6 whi wlo wbits <;> simp
theorem qb3h (v6 : Bool) (hi lo bits : Int) (w6 : Bool) (whi wlo wbits : Int) (u1 : uok hi) (u2 : uok lo) (u3 : uok whi) (u4 : uok wlo) : qnh v6 hi lo bits w6 whi wlo wbits = some (ovP ⟨v6, hi, lo, bits⟩ ⟨w6, whi, wlo, wbits⟩) := by
  rw [q2q]; unfold qu5 ovP winP
  simp only [q5x _ _ _ _ _ _ _ _ u1 u2, q5x _ _ _ _ _ _ _ _ u3 u4, oB_s]
  cases qm9 v6 hi lo bits w6 whi wlo wbits <;> simp
theorem qb52 (p q : Pq) : ovP p q = ovP q p := by unfold ovP; rw [Bool.or_comm]
theorem qb7j {R : Type} {a : List AV} (x : AV) (h : (a.length + 1) * 32 ≤ 140737488355328) (k : Option R) : (bif decide ((a.length + ([x] : List AV).length) * 32 ≤ 140737488355328) then k else none) = k := by
  rw [show ([x] : List AV).length = 1 from rfl, decide_eq_true h]; rfl
theorem qb4w (rec : List AV → List AV → Bool → Int → Int → Int → Option (List AV)) (l : List AV) (hl : qcc l) (hn : l.length ≤ 1000) (a : List AV) (p : Pq) (kx : List AV → Option (List AV)) :
    qp5 rec l (l.length : Int) a p.v p.hi p.lo p.bits kx FU 0 [] = bif l.any (fun b => winP p (pqY b)) then some a else kx (l.filter fun b => ovP (pqY b) p) := by
  rw [q62]
  have key := qg7 (σ := List AV) l hl.1 (fun n i s => qq1 rec l (l.length : Int) a p.v p.hi p.lo p.bits kx n i s) (fun i s nx => qko rec l (l.length : Int) i a p.v p.hi p.lo p.bits s nx kx) (fun _ _ _ => rfl)
    (fun i s => s.length ≤ i) (fun r s => bif r.any (fun b => winP p (pqY b)) then some a else kx (s ++ r.filter fun b => ovP (pqY b) p)) ?_ ?_ [] FU (by simp) (qkg (by have := hl.1; omega))
  · exact key
  · intro s nx _; simp [qko]
  · intro i y r s nx g1 g2 g3 g4 h2 h5
    have hy := hl.2 y (List.mem_of_getElem? g2)
    have h6 : (i : Int) < (l.length : Int) := by omega
    have hyy := q9i hy.1
    unfold mkB at hyy
    have n1 := h5 (s ++ [y]) (by simp; omega)
    have n2 := h5 s (by omega)
    unfold qko
    simp only [h6, decide_true, cond_t, ixB_nat, g2, oB_s, hy.1, g4, qbmq, qb3g, hyy, hd_self]
    rw [q9j y (a := s) (by omega), n1, n2, List.any_cons, List.filter_cons]
    rw [show qm9 p.v p.hi p.lo p.bits (gB y.cells 0) (gI y.cells 1) (gI y.cells 2) (gI y.cells 3) = winP p (pqY y) from rfl]
    rw [show ovP ⟨gB y.cells 0, gI y.cells 1, gI y.cells 2, gI y.cells 3⟩ ⟨p.v, p.hi, p.lo, p.bits⟩ = ovP (pqY y) p from rfl]
    cases winP p (pqY y) <;> cases ovP (pqY y) p <;> simp
theorem qb53 {α : Type} (l : List α) (q : α → Bool) : (((l.filter q).length : Int) == 0) = !(l.any q) := by
  rw [Bool.eq_iff_iff]
  simp only [beq_iff_eq, Bool.not_eq_true', List.any_eq_false]
  constructor
  · intro h x hx
    have : l.filter q = [] := List.eq_nil_of_length_eq_zero (by omega)
    simpa using List.filter_eq_nil_iff.1 this x hx
  · intro h
    have : l.filter q = [] := List.filter_eq_nil_iff.2 h
    rw [this]; rfl
theorem qb1a : ∀ (n : Nat) (p : Pq), p.good → p.np.k + 1 = n → ∀ (m : Nat), n ≤ m → ∀ (a l : List AV), qcc l → qfp l → l.length ≤ 1000 → a.length + (qei l n p).length ≤ 1000000000 →
    qfj m a l p.v p.hi p.lo p.bits = some (a ++ (qei l n p).map Pq.av)
  | 0, p, hp, hk, _, _, _, _, _, _, _, _ => by omega
  | n + 1, p, hp, hk, m, hm, a, l, hl, hg, hn, hsz => by
    obtain ⟨m, rfl⟩ : ∃ j, m = j + 1 := ⟨m - 1, by omega⟩
    show qx9 (qfj m) a l p.v p.hi p.lo p.bits = _
    unfold qx9
    simp only [hd_self, hd_nil, List.length_nil, Bool.and_self, cond_t]
    rw [qb4w _ l hl hn, qb53]
    unfold qei at hsz ⊢
    cases hW : l.any fun b => winP p (pqY b) with
    | true => simp
    | false =>
      simp only [hW, cond_f] at hsz ⊢
      cases hO : l.any fun b => ovP (pqY b) p with
      | false =>
        have hsz' : a.length + 1 ≤ 1000000000 := by simpa [hO] using hsz
        simp only [hO, Bool.not_false, cond_t, hd_self]
        rw [qb7j _ (by omega)]
        rfl
      | true =>
        simp only [hO, Bool.not_true, cond_f] at hsz ⊢
        rw [qbx0 p.v p.hi p.lo p.bits hp.2.1 hp.2.2]
        simp only [oB_s]
        unfold qsm
        cases hh : qmj p.v p.hi p.lo p.bits with
        | false =>
          have hh' : p.half = false := hh
          simp only [hh', cond_f, Bool.not_false, cond_t]
          simp
        | true =>
          have hh' : p.half = true := hh
          have hkk := (Pq.half_iff hp).1 hh'
          have hlg := Pq.low_good hp hh'
          have hhg := Pq.high_good hp hh'
          have h1 : p.low.np.sub p.np := by rw [Pq.low_np hp hh']; exact Np.low_sub hp.np_ok hkk
          have h2 : p.high.np.sub p.np := by rw [Pq.high_np hp hh']; exact Np.high_sub hp.np_ok hkk
          have k1 : p.low.np.k + 1 = n := by rw [Pq.low_np hp hh']; show p.np.k - 1 + 1 = n; omega
          have k2 : p.high.np.k + 1 = n := by rw [Pq.high_np hp hh']; show p.np.k - 1 + 1 = n; omega
          have f1 := qbmw hg hp n p.low hlg h1
          have f2 := qbmw hg hp n p.high hhg h2
          have hf : qcc (l.filter fun b => ovP (pqY b) p) := ⟨Nat.le_trans (List.length_filter_le _ _) hl.1, fun y hy => hl.2 y (List.mem_filter.1 hy).1⟩
          have hfg : qfp (l.filter fun b => ovP (pqY b) p) := fun y hy => hg y (List.mem_filter.1 hy).1
          have hfn : (l.filter fun b => ovP (pqY b) p).length ≤ 1000 := Nat.le_trans (List.length_filter_le _ _) hn
          simp only [hh', cond_t, List.length_append] at hsz ⊢
          have r1 := qb1a n p.low hlg k1 m (by omega) a _ hf hfg hfn (by rw [f1]; omega)
          have r2 := qb1a n p.high hhg k2 m (by omega) (a ++ (qei l n p.low).map Pq.av) _ hf hfg hfn (by rw [f2]; simp only [List.length_append, List.length_map]; omega)
          rw [f1] at r1
          rw [f2] at r2
          simp only [Bool.not_true, cond_f, hd_self, cond_t, Bool.and_self]
          rw [show qfj m a (l.filter fun b => ovP (pqY b) p) (gB (lowP p.v p.hi p.lo p.bits).cells 0) (gI (lowP p.v p.hi p.lo p.bits).cells 1) (gI (lowP p.v p.hi p.lo p.bits).cells 2) (gI (lowP p.v p.hi p.lo p.bits).cells 3) = some (a ++ (qei l n p.low).map Pq.av) from r1]
          simp only [oB_s, hd_self, cond_t]
          rw [show qfj m (a ++ (qei l n p.low).map Pq.av) (l.filter fun b => ovP (pqY b) p) (gB (q2d p.v p.hi p.lo p.bits).cells 0) (gI (q2d p.v p.hi p.lo p.bits).cells 1) (gI (q2d p.v p.hi p.lo p.bits).cells 2) (gI (q2d p.v p.hi p.lo p.bits).cells 3) = some (a ++ (qei l n p.low).map Pq.av ++ (qei l n p.high).map Pq.av) from r2]
          simp
theorem qb3i (rec : List AV → Bool → Int → Int → Int → Option (List AV)) (l : List AV) (hl : qcc l) (p : Pq) (u1 : uok p.hi) (u2 : uok p.lo) (kx : Bool → Option (List AV)) :
    qnj rec l p.v p.hi p.lo p.bits kx FU false 0 = bif l.any (fun b => winP p (pqY b)) then some [] else kx (l.any fun b => ovP (pqY b) p) := by
  rw [q2u]
  have key := qg7 (σ := Bool) l hl.1 (fun n i s => qok rec l p.v p.hi p.lo p.bits kx n s i) (fun i s nx => qhs rec l s i p.v p.hi p.lo p.bits (fun s i => nx i s) kx) (fun _ _ _ => rfl)
    (fun _ _ => True) (fun r s => bif r.any (fun b => winP p (pqY b)) then some [] else kx (s || r.any fun b => ovP (pqY b) p)) ?_ ?_ false FU trivial (qkg (by have := hl.1; omega))
  · exact key
  · intro s nx _; simp [qhs]
  · intro i y r s nx g1 g2 g3 g4 _ h5
    have hy := hl.2 y (List.mem_of_getElem? g2)
    have h6 : (i : Int) < (l.length : Int) := by omega
    unfold qhs
    simp only [h6, decide_true, cond_t, ixB_nat, g2, oB_s, hy.1, g4, q5x _ _ _ _ _ _ _ _ u1 u2, qb3h _ _ _ _ _ _ _ _ u1 u2 hy.2.1 hy.2.2.1, hd_self, List.any_cons, h5 _ trivial]
    rw [show qm9 p.v p.hi p.lo p.bits (gB y.cells 0) (gI y.cells 1) (gI y.cells 2) (gI y.cells 3) = winP p (pqY y) from rfl]
    rw [show ovP ⟨p.v, p.hi, p.lo, p.bits⟩ ⟨gB y.cells 0, gI y.cells 1, gI y.cells 2, gI y.cells 3⟩ = ovP (pqY y) p from qb52 _ _]
    cases winP p (pqY y) <;> cases ovP (pqY y) p <;> simp
theorem qbwv : ∀ (n : Nat) (p : Pq), p.good → p.np.k + 1 = n → ∀ (m : Nat), n ≤ m → ∀ (l : List AV), qcc l → qfp l → (qei l n p).length ≤ 1000000000 →
    qdm m l p.v p.hi p.lo p.bits = some ((qei l n p).map Pq.av)
  | 0, p, hp, hk, _, _, _, _, _, _ => by omega
  | n + 1, p, hp, hk, m, hm, l, hl, hg, hsz => by
    obtain ⟨m, rfl⟩ : ∃ j, m = j + 1 := ⟨m - 1, by omega⟩
    show qol (qdm m) l p.v p.hi p.lo p.bits = _
    unfold qol
    rw [qb3i _ l hl p hp.2.1 hp.2.2]
    unfold qei at hsz ⊢
    cases hW : l.any fun b => winP p (pqY b) with
    | true => simp
    | false =>
      simp only [hW, cond_f] at hsz ⊢
      cases hO : l.any fun b => ovP (pqY b) p with
      | false => rfl
      | true =>
        simp only [hO, Bool.not_true, cond_f] at hsz ⊢
        rw [qbxz p.v p.hi p.lo p.bits hp.2.1 hp.2.2]
        simp only [oB_s]
        unfold qsm
        cases hh : qmj p.v p.hi p.lo p.bits with
        | false =>
          have hh' : p.half = false := hh
          simp only [hh', cond_f, Bool.not_false, cond_t]
          simp
        | true =>
          have hh' : p.half = true := hh
          have hkk := (Pq.half_iff hp).1 hh'
          have hlg := Pq.low_good hp hh'
          have hhg := Pq.high_good hp hh'
          have k1 : p.low.np.k + 1 = n := by rw [Pq.low_np hp hh']; show p.np.k - 1 + 1 = n; omega
          have k2 : p.high.np.k + 1 = n := by rw [Pq.high_np hp hh']; show p.np.k - 1 + 1 = n; omega
          simp only [hh', cond_t, List.length_append] at hsz
          simp only [hh', cond_t]
          have r1 := qbwv n p.low hlg k1 m (by omega) l hl hg (by omega)
          have r2 := qbwv n p.high hhg k2 m (by omega) l hl hg (by omega)
          simp only [Bool.not_true, cond_f]
          rw [show qdm m l (gB (lowP p.v p.hi p.lo p.bits).cells 0) (gI (lowP p.v p.hi p.lo p.bits).cells 1) (gI (lowP p.v p.hi p.lo p.bits).cells 2) (gI (lowP p.v p.hi p.lo p.bits).cells 3) = some ((qei l n p.low).map Pq.av) from r1]
          rw [show qdm m l (gB (q2d p.v p.hi p.lo p.bits).cells 0) (gI (q2d p.v p.hi p.lo p.bits).cells 1) (gI (q2d p.v p.hi p.lo p.bits).cells 2) (gI (q2d p.v p.hi p.lo p.bits).cells 3) = some ((qei l n p.high).map Pq.av) from r2]
          have g1 : (([] : List AV).length + ((qei l n p.low).map Pq.av).length) * 32 ≤ 140737488355328 := by simp; omega
          have g2 : (((qei l n p.low).map Pq.av).length + ((qei l n p.high).map Pq.av).length) * 32 ≤ 140737488355328 := by simp; omega
          simp only [oB_s, hd_self, cond_t, g1, g2, decide_true]
          rw [List.map_append]
theorem q7v {l : List AV} (hl : qcc l) (ht : q4i l) : qfp l := fun y hy => by
  obtain ⟨j, hj⟩ := List.getElem?_of_mem hy
  exact ⟨(ht j y hj).p, (hl.2 y hy).2.1, (hl.2 y hy).2.2.1⟩
theorem q9k {p q : Pq} (hp : p.good) (hq : q.good) : qhb p.v p.hi p.lo p.bits q.v q.hi q.lo q.bits = true ↔ p.np.sub q.np ∧ p.np.k < q.np.k := by
  unfold qhb
  rw [Bool.and_eq_true, decide_eq_true_eq, show qm9 p.v p.hi p.lo p.bits q.v q.hi q.lo q.bits = winP p q from rfl, qi6 hp hq]
  obtain ⟨a1, a2, a3, _⟩ := hp.range
  obtain ⟨b1, b2, b3, _⟩ := hq.range
  constructor
  · rintro ⟨h1, h2⟩
    refine ⟨h2, ?_⟩
    have : p.v = q.v := h2.1
    rw [this] at a3; omega
  · rintro ⟨h1, h2⟩
    refine ⟨?_, h1⟩
    have : p.v = q.v := h1.1
    rw [this] at a3; omega
def qnw (l : List AV) (p : Pq) : List AV := l.filter fun y => qhb (gB y.cells 0) (gI y.cells 1) (gI y.cells 2) (gI y.cells 3) p.v p.hi p.lo p.bits
theorem qbsg {l : List AV} (hg : qfp l) {p : Pq} (hp : p.good) : ∀ (n : Nat) (y : AV), y ∈ l → (pqY y).np.sub p.np → (pqY y).np.k < p.np.k → p.np.k - (pqY y).np.k ≤ n → ∃ c, c ∈ q2e l p.v p.hi p.lo p.bits ∧ (pqY y).np.sub (pqY c).np
  | 0, y, hy, h1, h2, h3 => by omega
  | n + 1, y, hy, h1, h2, h3 => by
    have hyg := hg y hy
    by_cases hc : qbna l p.v p.hi p.lo p.bits y = true
    · exact ⟨y, List.mem_filter.2 ⟨hy, hc⟩, Np.sub_refl hyg.np_ok⟩
    · unfold qbna at hc
      have hlp : qhb (gB y.cells 0) (gI y.cells 1) (gI y.cells 2) (gI y.cells 3) p.v p.hi p.lo p.bits = true := (q9k hyg hp).2 ⟨h1, h2⟩
      rw [hlp] at hc
      simp only [Bool.true_and, Bool.not_eq_true', Bool.not_eq_false, List.any_eq_true] at hc
      obtain ⟨o, ho, hoo⟩ := hc
      rw [Bool.and_eq_true] at hoo
      have hog := hg o ho
      obtain ⟨a1, a2⟩ := (q9k hog hp).1 hoo.1
      obtain ⟨b1, b2⟩ := (q9k hyg hog).1 (show qhb (pqY y).v (pqY y).hi (pqY y).lo (pqY y).bits (pqY o).v (pqY o).hi (pqY o).lo (pqY o).bits = true from hoo.2)
      obtain ⟨c, hc1, hc2⟩ := qbsg hg hp n o ho a1 a2 (by omega)
      exact ⟨c, hc1, Np.sub_trans b1 hc2⟩
theorem qby2 {l : List AV} (hg : qfp l) {p : Pq} (hp : p.good) : qei (qnw l p) (p.np.k + 1) p = qei (q2e l p.v p.hi p.lo p.bits) (p.np.k + 1) p := by
  have hd : ∀ y, y ∈ qnw l p ↔ y ∈ l ∧ (pqY y).np.sub p.np ∧ (pqY y).np.k < p.np.k := fun y => by
    unfold qnw
    rw [List.mem_filter]
    constructor
    · rintro ⟨h1, h2⟩; exact ⟨h1, (q9k (hg y h1) hp).1 h2⟩
    · rintro ⟨h1, h2⟩; exact ⟨h1, (q9k (hg y h1) hp).2 h2⟩
  have hcd : ∀ y, y ∈ q2e l p.v p.hi p.lo p.bits → y ∈ qnw l p := fun y hy => by
    unfold q2e at hy
    rw [List.mem_filter] at hy
    unfold qbna at hy
    simp only [Bool.and_eq_true] at hy
    exact List.mem_filter.2 ⟨hy.1, hy.2.1⟩
  have hgd : qfp (qnw l p) := fun y hy => hg y ((hd y).1 hy).1
  have hgc : qfp (q2e l p.v p.hi p.lo p.bits) := fun y hy => hgd y (hcd y hy)
  refine q4l hgd hgc hp (fun q hq hs => ?_) (fun q hq hs => ?_) _ p hp (Np.sub_refl hp.np_ok)
  · rw [Bool.eq_iff_iff, List.any_eq_true, List.any_eq_true]
    constructor
    · rintro ⟨b, hb, h⟩
      obtain ⟨h1, h2, h3⟩ := (hd b).1 hb
      obtain ⟨c, hc, hs2⟩ := qbsg hg hp _ b h1 h2 h3 (Nat.le_refl _)
      exact ⟨c, hc, (qi6 hq (hgc c hc)).2 (Np.sub_trans ((qi6 hq (hgd b hb)).1 h) hs2)⟩
    · rintro ⟨c, hc, h⟩; exact ⟨c, hcd c hc, h⟩
  · rw [Bool.eq_iff_iff, List.any_eq_true, List.any_eq_true]
    constructor
    · rintro ⟨b, hb, h⟩
      obtain ⟨h1, h2, h3⟩ := (hd b).1 hb
      obtain ⟨c, hc, hs2⟩ := qbsg hg hp _ b h1 h2 h3 (Nat.le_refl _)
      refine ⟨c, hc, ?_⟩
      unfold ovP at h ⊢
      rw [Bool.or_eq_true, qi6 (hgd b hb) hq, qi6 hq (hgd b hb)] at h
      rw [Bool.or_eq_true, qi6 (hgc c hc) hq, qi6 hq (hgc c hc)]
      rcases h with h | h
      · rcases Nat.lt_or_ge (pqY c).np.k q.np.k with hk | hk
        · exact .inl (Np.nest hs2 h (by omega))
        · exact .inr (Np.nest h hs2 hk)
      · exact .inr (Np.sub_trans h hs2)
    · rintro ⟨c, hc, h⟩; exact ⟨c, hcd c hc, h⟩
def qbgs (l : List AV) (p : Pq) : List AV :=
  bif (match l.find? (atP p.v p.hi p.lo p.bits) with | some y => gI y.cells 4 == 1 | none => false) then (qei (qnw l p) (p.np.k + 1) p).map Pq.av else []
theorem qvr {l : List AV} (hg : qfp l) {p : Pq} {y : AV} (hy : l.find? (atP p.v p.hi p.lo p.bits) = some y) : p.good ∧ pqY y = p := by
  have h1 := List.find?_some hy
  obtain ⟨a, b, c, d⟩ := qb7b.1 h1
  have e : pqY y = p := by unfold pqY; rw [a, b, c, d]
  have := hg y (List.mem_of_find?_eq_some hy)
  rw [e] at this
  exact ⟨this, e⟩
theorem qb6l {n : Nat} (h : n ≤ 1000) : n ≤ FU := by rw [qb6h]; omega
theorem qbx2 (y : AV) : gI (blkV y).cells 4 = gI y.cells 4 := rfl
theorem qb4x (l : List AV) (hl : qcc l) (hg : qfp l) (hn : l.length ≤ 1000) (p : Pq) : qo6 l p.v p.hi p.lo p.bits = some (qbgs l p) := by
  rw [qbcd]; unfold q6a qbgs
  rw [qbws l hl]
  simp only [oB_s]
  unfold qt7
  cases hf : l.find? (atP p.v p.hi p.lo p.bits) with
  | none => rfl
  | some y =>
    obtain ⟨hp, _⟩ := qvr hg hf
    simp only [qbx2, Bool.not_true, Bool.false_or]
    cases hk : gI y.cells 4 == 1 with
    | false =>
      have : (gI y.cells 4 != 1) = true := by unfold bne; rw [hk]; rfl
      rw [this]; rfl
    | true =>
      have : (gI y.cells 4 != 1) = false := by unfold bne; rw [hk]; rfl
      rw [this]
      simp only [cond_f, hd_nil, List.length_nil, Bool.and_self, cond_t]
      have lp : ∀ kx : List AV → Option (List AV), qoe l (l.length : Int) p.v p.hi p.lo p.bits kx FU 0 [] = kx (qnw l p) := by
        intro kx
        rw [q46]
        have key := qg7 (σ := List AV) l hl.1 (fun n i s => qpl l (l.length : Int) p.v p.hi p.lo p.bits kx n i s) (fun i s nx => qi0 l (l.length : Int) i p.v p.hi p.lo p.bits s nx kx) (fun _ _ _ => rfl)
          (fun i s => s.length ≤ i) (fun r s => kx (s ++ qnw r p)) ?_ ?_ [] FU (by simp) (qkg (by have := hl.1; omega))
        · exact key
        · intro s nx _; simp [qi0, qnw]
        · intro i y r s nx g1 g2 g3 g4 h2 h5
          have hy := hl.2 y (List.mem_of_getElem? g2)
          have h6 : (i : Int) < (l.length : Int) := by omega
          have hyy := q9i hy.1
          unfold mkB at hyy
          have n1 := h5 (s ++ [y]) (by simp; omega)
          have n2 := h5 s (by omega)
          unfold qi0
          simp only [h6, decide_true, cond_t, ixB_nat, g2, oB_s, hy.1, g4, qb03, hyy, hd_self]
          rw [q9j y (a := s) (by omega), n1, n2]
          unfold qnw
          rw [List.filter_cons]
          cases qhb (gB y.cells 0) (gI y.cells 1) (gI y.cells 2) (gI y.cells 3) p.v p.hi p.lo p.bits <;> simp
      rw [lp]
      simp only [hd_self, cond_t]
      have hf2 : qcc (qnw l p) := ⟨Nat.le_trans (List.length_filter_le _ _) hl.1, fun y hy => hl.2 y (List.mem_filter.1 hy).1⟩
      have hfg : qfp (qnw l p) := fun y hy => hg y (List.mem_filter.1 hy).1
      have hfn : (qnw l p).length ≤ 1000 := Nat.le_trans (List.length_filter_le _ _) hn
      have hk2 := hp.range.2.2.2
      have := qb1a (p.np.k + 1) p hp rfl FU (qb6l (by omega)) [] (qnw l p) hf2 hfg hfn (by have := qbsf hfg hfn (n := p.np.k + 1) (by omega) hp; simp; omega)
      rw [qbcb, this]
      simp
theorem qb7k (l : List AV) (hl : qcc l) (hg : qfp l) (hn : l.length ≤ 1000) (p : Pq) : ql7 l p.v p.hi p.lo p.bits = some (qbgs l p) := by
  rw [q8m]; unfold q1f qbgs
  rw [qbm8 l hl]
  simp only [oB_s]
  unfold qt7
  cases hf : l.find? (atP p.v p.hi p.lo p.bits) with
  | none => simp only [qtn, qon]; rfl
  | some y =>
    obtain ⟨hp, _⟩ := qvr hg hf
    simp only [qtn, qon, qbx2, Bool.not_true, Bool.false_or]
    cases hk : gI y.cells 4 == 1 with
    | false =>
      have : (gI y.cells 4 != 1) = true := by unfold bne; rw [hk]; rfl
      rw [this]; rfl
    | true =>
      have : (gI y.cells 4 != 1) = false := by unfold bne; rw [hk]; rfl
      rw [this]
      simp only [cond_f, q0d, hp.1, oB_s, Bool.not_true, qb15 l hl (by omega), cond_t]
      have hcd : ∀ y, y ∈ q2e l p.v p.hi p.lo p.bits → y ∈ l := fun y hy => (List.mem_filter.1 hy).1
      have hf2 : qcc (q2e l p.v p.hi p.lo p.bits) := ⟨Nat.le_trans (List.length_filter_le _ _) hl.1, fun y hy => hl.2 y (hcd y hy)⟩
      have hfg : qfp (q2e l p.v p.hi p.lo p.bits) := fun y hy => hg y (hcd y hy)
      have hfn : (q2e l p.v p.hi p.lo p.bits).length ≤ 1000 := Nat.le_trans (List.length_filter_le _ _) hn
      have hk2 := hp.range.2.2.2
      have := qbwv (p.np.k + 1) p hp rfl FU (qb6l (by omega)) (q2e l p.v p.hi p.lo p.bits) hf2 hfg (by have := qbsf hfg hfn (n := p.np.k + 1) (by omega) hp; omega)
      rw [q8k, this, qby2 hg hp]
      rfl
end Go.Proofs.Ytmfghgaboaocgaa.Dn
