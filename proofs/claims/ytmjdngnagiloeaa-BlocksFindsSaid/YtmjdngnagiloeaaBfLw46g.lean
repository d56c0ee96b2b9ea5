/- What is free in a container, the program's answer and the reference's. -/
import Derived.Test.YtmjdngnagiloeaaBfLw46f
set_option linter.all false
namespace Go.Proofs.Ytmjdngnagiloeaa.Dn
open Go Go.Pev
set_option linter.unusedVariables false
set_option linter.unusedSimpArgs false
set_option maxRecDepth 4000
theorem qb3c (v6 : Bool) (hi lo bits : Int) (w6 : Bool) (whi wlo wbits : Int) : qqv v6 hi lo bits w6 whi wlo wbits = some (ovP ⟨v6, hi, lo, bits⟩ ⟨w6, whi, wlo, wbits⟩) := by
  rw [q6g]; unfold qyc ovP winP
  simp only [qblc, oB_s]
  cases qnp v6 hi lo bits w6 whi wlo wbits <;> simp
theorem qb3d (v6 : Bool) (hi lo bits : Int) (w6 : Bool) (whi wlo wbits : Int) (u1 : uok hi) (u2 : uok lo) (u3 : uok whi) (u4 : uok wlo) : qn4 v6 hi lo bits w6 whi wlo wbits = some (ovP ⟨v6, hi, lo, bits⟩ ⟨w6, whi, wlo, wbits⟩) := by
  rw [q2b]; unfold quw ovP winP
  simp only [q4z _ _ _ _ _ _ _ _ u1 u2, q4z _ _ _ _ _ _ _ _ u3 u4, oB_s]
  cases qnp v6 hi lo bits w6 whi wlo wbits <;> simp
theorem qb51 (p q : Pq) : ovP p q = ovP q p := by unfold ovP; rw [Bool.or_comm]
theorem qb7b {R : Type} {a : List AV} (x : AV) (h : (a.length + 1) * 32 ≤ 140737488355328) (k : Option R) : (bif decide ((a.length + ([x] : List AV).length) * 32 ≤ 140737488355328) then k else none) = k := by
  rw [show ([x] : List AV).length = 1 from rfl, decide_eq_true h]; rfl
theorem qb4u (rec : List AV → List AV → Bool → Int → Int → Int → Option (List AV)) (l : List AV) (hl : qbo l) (hn : l.length ≤ 1000) (a : List AV) (p : Pq) (kx : List AV → Option (List AV)) :
    qqw rec l (l.length : Int) a p.v p.hi p.lo p.bits kx FU 0 [] = bif l.any (fun b => winP p (pqY b)) then some a else kx (l.filter fun b => ovP (pqY b) p) := by
  rw [q6h]
  have key := qfw (σ := List AV) l hl.1 (fun n i s => qrr rec l (l.length : Int) a p.v p.hi p.lo p.bits kx n i s) (fun i s nx => qkz rec l (l.length : Int) i a p.v p.hi p.lo p.bits s nx kx) (fun _ _ _ => rfl)
    (fun i s => s.length ≤ i) (fun r s => bif r.any (fun b => winP p (pqY b)) then some a else kx (s ++ r.filter fun b => ovP (pqY b) p)) ?_ ?_ [] FU (by simp) (qhz (by have := hl.1; omega))
  · exact key
  · intro s nx _; simp [qkz]
  · intro i y r s nx g1 g2 g3 g4 h2 h5
    have hy := hl.2 y (List.mem_of_getElem? g2)
    have h6 : (i : Int) < (l.length : Int) := by omega
    have hyy := qhh hy.1
    unfold mkB at hyy
    have n1 := h5 (s ++ [y]) (by simp; omega)
    have n2 := h5 s (by omega)
    unfold qkz
    simp only [h6, decide_true, cond_t, ixB_nat, g2, oB_s, hy.1, g4, qblc, qb3c, hyy, hd_self]
    rw [qblf y (a := s) (by omega), n1, n2, List.any_cons, List.filter_cons]
    rw [show qnp p.v p.hi p.lo p.bits (gB y.cells 0) (gI y.cells 1) (gI y.cells 2) (gI y.cells 3) = winP p (pqY y) from rfl]
    rw [show ovP ⟨gB y.cells 0, gI y.cells 1, gI y.cells 2, gI y.cells 3⟩ ⟨p.v, p.hi, p.lo, p.bits⟩ = ovP (pqY y) p from rfl]
    cases winP p (pqY y) <;> cases ovP (pqY y) p <;> simp
theorem qb52 {α : Type} (l : List α) (q : α → Bool) : (((l.filter q).length : Int) == 0) = !(l.any q) := by
  rw [Bool.eq_iff_iff]
  simp only [beq_iff_eq, Bool.not_eq_true', List.any_eq_false]
  constructor
  · intro h x hx
    have : l.filter q = [] := List.eq_nil_of_length_eq_zero (by omega)
    simpa using List.filter_eq_nil_iff.1 this x hx
  · intro h
    have : l.filter q = [] := List.filter_eq_nil_iff.2 h
    rw [this]; rfl
theorem qb09 : ∀ (n : Nat) (p : Pq), p.good → p.np.k + 1 = n → ∀ (m : Nat), n ≤ m → ∀ (a l : List AV), qbo l → qoh l → l.length ≤ 1000 → a.length + (qfl l n p).length ≤ 1000000000 →
    qfi m a l p.v p.hi p.lo p.bits = some (a ++ (qfl l n p).map Pq.av)
  | 0, p, hp, hk, _, _, _, _, _, _, _, _ => by omega
  | n + 1, p, hp, hk, m, hm, a, l, hl, hg, hn, hsz => by
    obtain ⟨m, rfl⟩ : ∃ j, m = j + 1 := ⟨m - 1, by omega⟩
    show qxf (qfi m) a l p.v p.hi p.lo p.bits = _
    unfold qxf
    simp only [hd_self, hd_nil, List.length_nil, Bool.and_self, cond_t]
    rw [qb4u _ l hl hn, qb52]
    unfold qfl at hsz ⊢
    cases hW : l.any fun b => winP p (pqY b) with
    | true => simp
    | false =>
      simp only [hW, cond_f] at hsz ⊢
      cases hO : l.any fun b => ovP (pqY b) p with
      | false =>
        have hsz' : a.length + 1 ≤ 1000000000 := by simpa [hO] using hsz
        simp only [hO, Bool.not_false, cond_t, hd_self]
        rw [qb7b _ (by omega)]
        rfl
      | true =>
        simp only [hO, Bool.not_true, cond_f] at hsz ⊢
        rw [qbli p.v p.hi p.lo p.bits hp.2.1 hp.2.2]
        simp only [oB_s]
        unfold qze
        cases hh : qmu p.v p.hi p.lo p.bits with
        | false =>
          have hh' : p.half = false := hh
          simp only [hh', cond_f, Bool.not_false, cond_t]
          simp
        | true =>
          have hh' : p.half = true := hh
          have hkk := (Pq.half_iff hp).1 hh'
          have hlg := Pq.low_good hp hh'
          have hhg := Pq.high_good hp hh'
          have h1 : p.low.np.sub p.np := by rw [Pq.low_np hp hh']; exact Np.low_sub hp.np_ok hkk
          have h2 : p.high.np.sub p.np := by rw [Pq.high_np hp hh']; exact Np.high_sub hp.np_ok hkk
          have k1 : p.low.np.k + 1 = n := by rw [Pq.low_np hp hh']; show p.np.k - 1 + 1 = n; omega
          have k2 : p.high.np.k + 1 = n := by rw [Pq.high_np hp hh']; show p.np.k - 1 + 1 = n; omega
          have f1 := qblj hg hp n p.low hlg h1
          have f2 := qblj hg hp n p.high hhg h2
          have hf : qbo (l.filter fun b => ovP (pqY b) p) := ⟨Nat.le_trans (List.length_filter_le _ _) hl.1, fun y hy => hl.2 y (List.mem_filter.1 hy).1⟩
          have hfg : qoh (l.filter fun b => ovP (pqY b) p) := fun y hy => hg y (List.mem_filter.1 hy).1
          have hfn : (l.filter fun b => ovP (pqY b) p).length ≤ 1000 := Nat.le_trans (List.length_filter_le _ _) hn
          simp only [hh', cond_t, List.length_append] at hsz ⊢
          have r1 := qb09 n p.low hlg k1 m (by omega) a _ hf hfg hfn (by rw [f1]; omega)
          have r2 := qb09 n p.high hhg k2 m (by omega) (a ++ (qfl l n p.low).map Pq.av) _ hf hfg hfn (by rw [f2]; simp only [List.length_append, List.length_map]; omega)
          rw [f1] at r1
          rw [f2] at r2
          simp only [Bool.not_true, cond_f, hd_self, cond_t, Bool.and_self]
          rw [show qfi m a (l.filter fun b => ovP (pqY b) p) (gB (lowP p.v p.hi p.lo p.bits).cells 0) (gI (lowP p.v p.hi p.lo p.bits).cells 1) (gI (lowP p.v p.hi p.lo p.bits).cells 2) (gI (lowP p.v p.hi p.lo p.bits).cells 3) = some (a ++ (qfl l n p.low).map Pq.av) from r1]
          simp only [oB_s, hd_self, cond_t]
          rw [show qfi m (a ++ (qfl l n p.low).map Pq.av) (l.filter fun b => ovP (pqY b) p) (gB (qr6 p.v p.hi p.lo p.bits).cells 0) (gI (qr6 p.v p.hi p.lo p.bits).cells 1) (gI (qr6 p.v p.hi p.lo p.bits).cells 2) (gI (qr6 p.v p.hi p.lo p.bits).cells 3) = some (a ++ (qfl l n p.low).map Pq.av ++ (qfl l n p.high).map Pq.av) from r2]
          simp
theorem qb3e (rec : List AV → Bool → Int → Int → Int → Option (List AV)) (l : List AV) (hl : qbo l) (p : Pq) (u1 : uok p.hi) (u2 : uok p.lo) (kx : Bool → Option (List AV)) :
    qn5 rec l p.v p.hi p.lo p.bits kx FU false 0 = bif l.any (fun b => winP p (pqY b)) then some [] else kx (l.any fun b => ovP (pqY b) p) := by
  rw [q2c]
  have key := qfw (σ := Bool) l hl.1 (fun n i s => qpf rec l p.v p.hi p.lo p.bits kx n s i) (fun i s nx => qhv rec l s i p.v p.hi p.lo p.bits (fun s i => nx i s) kx) (fun _ _ _ => rfl)
    (fun _ _ => True) (fun r s => bif r.any (fun b => winP p (pqY b)) then some [] else kx (s || r.any fun b => ovP (pqY b) p)) ?_ ?_ false FU trivial (qhz (by have := hl.1; omega))
  · exact key
  · intro s nx _; simp [qhv]
  · intro i y r s nx g1 g2 g3 g4 _ h5
    have hy := hl.2 y (List.mem_of_getElem? g2)
    have h6 : (i : Int) < (l.length : Int) := by omega
    unfold qhv
    simp only [h6, decide_true, cond_t, ixB_nat, g2, oB_s, hy.1, g4, q4z _ _ _ _ _ _ _ _ u1 u2, qb3d _ _ _ _ _ _ _ _ u1 u2 hy.2.1 hy.2.2.1, hd_self, List.any_cons, h5 _ trivial]
    rw [show qnp p.v p.hi p.lo p.bits (gB y.cells 0) (gI y.cells 1) (gI y.cells 2) (gI y.cells 3) = winP p (pqY y) from rfl]
    rw [show ovP ⟨p.v, p.hi, p.lo, p.bits⟩ ⟨gB y.cells 0, gI y.cells 1, gI y.cells 2, gI y.cells 3⟩ = ovP (pqY y) p from qb51 _ _]
    cases winP p (pqY y) <;> cases ovP (pqY y) p <;> simp
theorem qbwl : ∀ (n : Nat) (p : Pq), p.good → p.np.k + 1 = n → ∀ (m : Nat), n ≤ m → ∀ (l : List AV), qbo l → qoh l → (qfl l n p).length ≤ 1000000000 →
    qdp m l p.v p.hi p.lo p.bits = some ((qfl l n p).map Pq.av)
  | 0, p, hp, hk, _, _, _, _, _, _ => by omega
  | n + 1, p, hp, hk, m, hm, l, hl, hg, hsz => by
    obtain ⟨m, rfl⟩ : ∃ j, m = j + 1 := ⟨m - 1, by omega⟩
    show qpg (qdp m) l p.v p.hi p.lo p.bits = _
    unfold qpg
    rw [qb3e _ l hl p hp.2.1 hp.2.2]
    unfold qfl at hsz ⊢
    cases hW : l.any fun b => winP p (pqY b) with
    | true => simp
    | false =>
      simp only [hW, cond_f] at hsz ⊢
      cases hO : l.any fun b => ovP (pqY b) p with
      | false => rfl
      | true =>
        simp only [hO, Bool.not_true, cond_f] at hsz ⊢
        rw [qb4r p.v p.hi p.lo p.bits hp.2.1 hp.2.2]
        simp only [oB_s]
        unfold qze
        cases hh : qmu p.v p.hi p.lo p.bits with
        | false =>
          have hh' : p.half = false := hh
          simp only [hh', cond_f, Bool.not_false, cond_t]
          simp
        | true =>
          have hh' : p.half = true := hh
          have hkk := (Pq.half_iff hp).1 hh'
          have hlg := Pq.low_good hp hh'
          have hhg := Pq.high_good hp hh'
          have k1 : p.low.np.k + 1 = n := by rw [Pq.low_np hp hh']; show p.np.k - 1 + 1 = n; omega
          have k2 : p.high.np.k + 1 = n := by rw [Pq.high_np hp hh']; show p.np.k - 1 + 1 = n; omega
          simp only [hh', cond_t, List.length_append] at hsz
          simp only [hh', cond_t]
          have r1 := qbwl n p.low hlg k1 m (by omega) l hl hg (by omega)
          have r2 := qbwl n p.high hhg k2 m (by omega) l hl hg (by omega)
          simp only [Bool.not_true, cond_f]
          rw [show qdp m l (gB (lowP p.v p.hi p.lo p.bits).cells 0) (gI (lowP p.v p.hi p.lo p.bits).cells 1) (gI (lowP p.v p.hi p.lo p.bits).cells 2) (gI (lowP p.v p.hi p.lo p.bits).cells 3) = some ((qfl l n p.low).map Pq.av) from r1]
          rw [show qdp m l (gB (qr6 p.v p.hi p.lo p.bits).cells 0) (gI (qr6 p.v p.hi p.lo p.bits).cells 1) (gI (qr6 p.v p.hi p.lo p.bits).cells 2) (gI (qr6 p.v p.hi p.lo p.bits).cells 3) = some ((qfl l n p.high).map Pq.av) from r2]
          have g1 : (([] : List AV).length + ((qfl l n p.low).map Pq.av).length) * 32 ≤ 140737488355328 := by simp; omega
          have g2 : (((qfl l n p.low).map Pq.av).length + ((qfl l n p.high).map Pq.av).length) * 32 ≤ 140737488355328 := by simp; omega
          simp only [oB_s, hd_self, cond_t, g1, g2, decide_true]
          rw [List.map_append]
theorem qbf0 {l : List AV} (hl : qbo l) (ht : qkb l) : qoh l := fun y hy => by
  obtain ⟨j, hj⟩ := List.getElem?_of_mem hy
  exact ⟨(ht j y hj).p, (hl.2 y hy).2.1, (hl.2 y hy).2.2.1⟩
theorem q87 {p q : Pq} (hp : p.good) (hq : q.good) : qd2 p.v p.hi p.lo p.bits q.v q.hi q.lo q.bits = true ↔ p.np.sub q.np ∧ p.np.k < q.np.k := by
  unfold qd2
  rw [Bool.and_eq_true, decide_eq_true_eq, show qnp p.v p.hi p.lo p.bits q.v q.hi q.lo q.bits = winP p q from rfl, qjl hp hq]
  obtain ⟨a1, a2, a3, _⟩ := hp.range
  obtain ⟨b1, b2, b3, _⟩ := hq.range
  constructor
  · rintro ⟨h1, h2⟩
    refine ⟨h2, ?_⟩
    have : p.v = q.v := h2.1
    rw [this] at a3; omega
  · rintro ⟨h1, h2⟩
    refine ⟨?_, h1⟩
    have : p.v = q.v := h1.1
    rw [this] at a3; omega
def qr8 (l : List AV) (p : Pq) : List AV := l.filter fun y => qd2 (gB y.cells 0) (gI y.cells 1) (gI y.cells 2) (gI y.cells 3) p.v p.hi p.lo p.bits
theorem qbrf {l : List AV} (hg : qoh l) {p : Pq} (hp : p.good) : ∀ (n : Nat) (y : AV), y ∈ l → (pqY y).np.sub p.np → (pqY y).np.k < p.np.k → p.np.k - (pqY y).np.k ≤ n → ∃ c, c ∈ qr7 l p.v p.hi p.lo p.bits ∧ (pqY y).np.sub (pqY c).np
  | 0, y, hy, h1, h2, h3 => by omega
  | n + 1, y, hy, h1, h2, h3 => by
    have hyg := hg y hy
    by_cases hc : q3m l p.v p.hi p.lo p.bits y = true
    · exact ⟨y, List.mem_filter.2 ⟨hy, hc⟩, Np.sub_refl hyg.np_ok⟩
    · unfold q3m at hc
      have hlp : qd2 (gB y.cells 0) (gI y.cells 1) (gI y.cells 2) (gI y.cells 3) p.v p.hi p.lo p.bits = true := (q87 hyg hp).2 ⟨h1, h2⟩
      rw [hlp] at hc
      simp only [Bool.true_and, Bool.not_eq_true', Bool.not_eq_false, List.any_eq_true] at hc
      obtain ⟨o, ho, hoo⟩ := hc
      rw [Bool.and_eq_true] at hoo
      have hog := hg o ho
      obtain ⟨a1, a2⟩ := (q87 hog hp).1 hoo.1
      obtain ⟨b1, b2⟩ := (q87 hyg hog).1 (show qd2 (pqY y).v (pqY y).hi (pqY y).lo (pqY y).bits (pqY o).v (pqY o).hi (pqY o).lo (pqY o).bits = true from hoo.2)
      obtain ⟨c, hc1, hc2⟩ := qbrf hg hp n o ho a1 a2 (by omega)
      exact ⟨c, hc1, Np.sub_trans b1 hc2⟩
theorem qbyx {l : List AV} (hg : qoh l) {p : Pq} (hp : p.good) : qfl (qr8 l p) (p.np.k + 1) p = qfl (qr7 l p.v p.hi p.lo p.bits) (p.np.k + 1) p := by
  have hd : ∀ y, y ∈ qr8 l p ↔ y ∈ l ∧ (pqY y).np.sub p.np ∧ (pqY y).np.k < p.np.k := fun y => by
    unfold qr8
    rw [List.mem_filter]
    constructor
    · rintro ⟨h1, h2⟩; exact ⟨h1, (q87 (hg y h1) hp).1 h2⟩
    · rintro ⟨h1, h2⟩; exact ⟨h1, (q87 (hg y h1) hp).2 h2⟩
  have hcd : ∀ y, y ∈ qr7 l p.v p.hi p.lo p.bits → y ∈ qr8 l p := fun y hy => by
    unfold qr7 at hy
    rw [List.mem_filter] at hy
    unfold q3m at hy
    simp only [Bool.and_eq_true] at hy
    exact List.mem_filter.2 ⟨hy.1, hy.2.1⟩
  have hgd : qoh (qr8 l p) := fun y hy => hg y ((hd y).1 hy).1
  have hgc : qoh (qr7 l p.v p.hi p.lo p.bits) := fun y hy => hgd y (hcd y hy)
  refine q3n hgd hgc hp (fun q hq hs => ?_) (fun q hq hs => ?_) _ p hp (Np.sub_refl hp.np_ok)
  · rw [Bool.eq_iff_iff, List.any_eq_true, List.any_eq_true]
    constructor
    · rintro ⟨b, hb, h⟩
      obtain ⟨h1, h2, h3⟩ := (hd b).1 hb
      obtain ⟨c, hc, hs2⟩ := qbrf hg hp _ b h1 h2 h3 (Nat.le_refl _)
      exact ⟨c, hc, (qjl hq (hgc c hc)).2 (Np.sub_trans ((qjl hq (hgd b hb)).1 h) hs2)⟩
    · rintro ⟨c, hc, h⟩; exact ⟨c, hcd c hc, h⟩
  · rw [Bool.eq_iff_iff, List.any_eq_true, List.any_eq_true]
    constructor
    · rintro ⟨b, hb, h⟩
      obtain ⟨h1, h2, h3⟩ := (hd b).1 hb
      obtain ⟨c, hc, hs2⟩ := qbrf hg hp _ b h1 h2 h3 (Nat.le_refl _)
      refine ⟨c, hc, ?_⟩
      unfold ovP at h ⊢
      rw [Bool.or_eq_true, qjl (hgd b hb) hq, qjl hq (hgd b hb)] at h
      rw [Bool.or_eq_true, qjl (hgc c hc) hq, qjl hq (hgc c hc)]
      rcases h with h | h
      · rcases Nat.lt_or_ge (pqY c).np.k q.np.k with hk | hk
        · exact .inl (Np.nest hs2 h (by omega))
        · exact .inr (Np.nest h hs2 hk)
      · exact .inr (Np.sub_trans h hs2)
    · rintro ⟨c, hc, h⟩; exact ⟨c, hcd c hc, h⟩
def q68 (l : List AV) (p : Pq) : List AV :=
  bif (match l.find? (atP p.v p.hi p.lo p.bits) with | some y => gI y.cells 4 == 1 | none => false) then (qfl (qr8 l p) (p.np.k + 1) p).map Pq.av else []
theorem qban {l : List AV} (hg : qoh l) {p : Pq} {y : AV} (hy : l.find? (atP p.v p.hi p.lo p.bits) = some y) : p.good ∧ pqY y = p := by
  have h1 := List.find?_some hy
  obtain ⟨a, b, c, d⟩ := qbdi.1 h1
  have e : pqY y = p := by unfold pqY; rw [a, b, c, d]
  have := hg y (List.mem_of_find?_eq_some hy)
  rw [e] at this
  exact ⟨this, e⟩
theorem qb6i {n : Nat} (h : n ≤ 1000) : n ≤ FU := by rw [qb6f]; omega
theorem qbxo (y : AV) : gI (blkV y).cells 4 = gI y.cells 4 := rfl
theorem qb4v (l : List AV) (hl : qbo l) (hg : qoh l) (hn : l.length ≤ 1000) (p : Pq) : qpq l p.v p.hi p.lo p.bits = some (q68 l p) := by
  rw [qbcl]; unfold q5i q68
  rw [qbwg l hl]
  simp only [oB_s]
  unfold qtt
  cases hf : l.find? (atP p.v p.hi p.lo p.bits) with
  | none => rfl
  | some y =>
    obtain ⟨hp, _⟩ := qban hg hf
    simp only [qbxo, Bool.not_true, Bool.false_or]
    cases hk : gI y.cells 4 == 1 with
    | false =>
      have : (gI y.cells 4 != 1) = true := by unfold bne; rw [hk]; rfl
      rw [this]; rfl
    | true =>
      have : (gI y.cells 4 != 1) = false := by unfold bne; rw [hk]; rfl
      rw [this]
      simp only [cond_f, hd_nil, List.length_nil, Bool.and_self, cond_t]
      have lp : ∀ kx : List AV → Option (List AV), qo6 l (l.length : Int) p.v p.hi p.lo p.bits kx FU 0 [] = kx (qr8 l p) := by
        intro kx
        rw [q4k]
        have key := qfw (σ := List AV) l hl.1 (fun n i s => qqa l (l.length : Int) p.v p.hi p.lo p.bits kx n i s) (fun i s nx => qje l (l.length : Int) i p.v p.hi p.lo p.bits s nx kx) (fun _ _ _ => rfl)
          (fun i s => s.length ≤ i) (fun r s => kx (s ++ qr8 r p)) ?_ ?_ [] FU (by simp) (qhz (by have := hl.1; omega))
        · exact key
        · intro s nx _; simp [qje, qr8]
        · intro i y r s nx g1 g2 g3 g4 h2 h5
          have hy := hl.2 y (List.mem_of_getElem? g2)
          have h6 : (i : Int) < (l.length : Int) := by omega
          have hyy := qhh hy.1
          unfold mkB at hyy
          have n1 := h5 (s ++ [y]) (by simp; omega)
          have n2 := h5 s (by omega)
          unfold qje
          simp only [h6, decide_true, cond_t, ixB_nat, g2, oB_s, hy.1, g4, qbdj, hyy, hd_self]
          rw [qblf y (a := s) (by omega), n1, n2]
          unfold qr8
          rw [List.filter_cons]
          cases qd2 (gB y.cells 0) (gI y.cells 1) (gI y.cells 2) (gI y.cells 3) p.v p.hi p.lo p.bits <;> simp
      rw [lp]
      simp only [hd_self, cond_t]
      have hf2 : qbo (qr8 l p) := ⟨Nat.le_trans (List.length_filter_le _ _) hl.1, fun y hy => hl.2 y (List.mem_filter.1 hy).1⟩
      have hfg : qoh (qr8 l p) := fun y hy => hg y (List.mem_filter.1 hy).1
      have hfn : (qr8 l p).length ≤ 1000 := Nat.le_trans (List.length_filter_le _ _) hn
      have hk2 := hp.range.2.2.2
      have := qb09 (p.np.k + 1) p hp rfl FU (qb6i (by omega)) [] (qr8 l p) hf2 hfg hfn (by have := qbre hfg hfn (n := p.np.k + 1) (by omega) hp; simp; omega)
      rw [qbcj, this]
      simp
theorem qb7c (l : List AV) (hl : qbo l) (hg : qoh l) (hn : l.length ≤ 1000) (p : Pq) : qsj l p.v p.hi p.lo p.bits = some (q68 l p) := by
  rw [q8l]; unfold q01 q68
  rw [qb2e l hl]
  simp only [oB_s]
  unfold qtt
  cases hf : l.find? (atP p.v p.hi p.lo p.bits) with
  | none => simp only [qtc, qpi]; rfl
  | some y =>
    obtain ⟨hp, _⟩ := qban hg hf
    simp only [qtc, qpi, qbxo, Bool.not_true, Bool.false_or]
    cases hk : gI y.cells 4 == 1 with
    | false =>
      have : (gI y.cells 4 != 1) = true := by unfold bne; rw [hk]; rfl
      rw [this]; rfl
    | true =>
      have : (gI y.cells 4 != 1) = false := by unfold bne; rw [hk]; rfl
      rw [this]
      simp only [cond_f, q4y, hp.1, oB_s, Bool.not_true, qboz l hl (by omega), cond_t]
      have hcd : ∀ y, y ∈ qr7 l p.v p.hi p.lo p.bits → y ∈ l := fun y hy => (List.mem_filter.1 hy).1
      have hf2 : qbo (qr7 l p.v p.hi p.lo p.bits) := ⟨Nat.le_trans (List.length_filter_le _ _) hl.1, fun y hy => hl.2 y (hcd y hy)⟩
      have hfg : qoh (qr7 l p.v p.hi p.lo p.bits) := fun y hy => hg y (hcd y hy)
      have hfn : (qr7 l p.v p.hi p.lo p.bits).length ≤ 1000 := Nat.le_trans (List.length_filter_le _ _) hn
      have hk2 := hp.range.2.2.2
      have := qbwl (p.np.k + 1) p hp rfl FU (qb6i (by omega)) (qr7 l p.v p.hi p.lo p.bits) hf2 hfg (by have := qbre hfg hfn (n := p.np.k + 1) (by omega) hp; omega)
      rw [q8j, this, qbyx hg hp]
      rfl
end Go.Proofs.Ytmjdngnagiloeaa.Dn
