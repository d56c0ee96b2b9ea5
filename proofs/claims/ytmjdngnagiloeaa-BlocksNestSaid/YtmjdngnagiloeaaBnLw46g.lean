/- What is free in a container, the program's answer and the reference's. -/
import Derived.Test.YtmjdngnagiloeaaBnLw46f
set_option linter.all false
namespace Go.Proofs.Ytmjdngnagiloeaa.Dn
open Go Go.Pev
set_option linter.unusedVariables false
set_option linter.unusedSimpArgs false
set_option maxRecDepth 4000
theorem qbfp (v6 : Bool) (hi lo bits : Int) (w6 : Bool) (whi wlo wbits : Int) : qli v6 hi lo bits w6 whi wlo wbits = some (ovP ⟨v6, hi, lo, bits⟩ ⟨w6, whi, wlo, wbits⟩) := by
  rw [qyj]; unfold qsh ovP winP
  simp only [q1p, oB_s]
  cases qng v6 hi lo bits w6 whi wlo wbits <;> simp
theorem qbrr {R : Type} {a : List AV} (x : AV) (h : (a.length + 1) * 32 ≤ 140737488355328) (k : Option R) : (bif decide ((a.length + ([x] : List AV).length) * 32 ≤ 140737488355328) then k else none) = k := by
  rw [show ([x] : List AV).length = 1 from rfl, decide_eq_true h]; rfl
theorem qbpc (rec : List AV → List AV → Bool → Int → Int → Int → Option (List AV)) (l : List AV) (hl : qca l) (hn : l.length ≤ 1000) (a : List AV) (p : Pq) (kx : List AV → Option (List AV)) :
    qm8 rec l (l.length : Int) a p.v p.hi p.lo p.bits kx FU 0 [] = bif l.any (fun b => winP p (pqY b)) then some a else kx (l.filter fun b => ovP (pqY b) p) := by
  rw [qyk]
  have key := qjl (σ := List AV) l hl.1 (fun n i s => qnv rec l (l.length : Int) a p.v p.hi p.lo p.bits kx n i s) (fun i s nx => qjh rec l (l.length : Int) i a p.v p.hi p.lo p.bits s nx kx) (fun _ _ _ => rfl)
    (fun i s => s.length ≤ i) (fun r s => bif r.any (fun b => winP p (pqY b)) then some a else kx (s ++ r.filter fun b => ovP (pqY b) p)) ?_ ?_ [] FU (by simp) (qne (by have := hl.1; omega))
  · exact key
  · intro s nx _; simp [qjh]
  · intro i y r s nx g1 g2 g3 g4 h2 h5
    have hy := hl.2 y (List.mem_of_getElem? g2)
    have h6 : (i : Int) < (l.length : Int) := by omega
    have hyy := qku hy.1
    unfold mkB at hyy
    have n1 := h5 (s ++ [y]) (by simp; omega)
    have n2 := h5 s (by omega)
    unfold qjh
    simp only [h6, decide_true, cond_t, ixB_nat, g2, oB_s, hy.1, g4, q1p, qbfp, hyy, hd_self]
    rw [qbfk y (a := s) (by omega), n1, n2, List.any_cons, List.filter_cons]
    rw [show qng p.v p.hi p.lo p.bits (gB y.cells 0) (gI y.cells 1) (gI y.cells 2) (gI y.cells 3) = winP p (pqY y) from rfl]
    rw [show ovP ⟨gB y.cells 0, gI y.cells 1, gI y.cells 2, gI y.cells 3⟩ ⟨p.v, p.hi, p.lo, p.bits⟩ = ovP (pqY y) p from rfl]
    cases winP p (pqY y) <;> cases ovP (pqY y) p <;> simp
theorem qbqj {α : Type} (l : List α) (q : α → Bool) : (((l.filter q).length : Int) == 0) = !(l.any q) := by
  rw [Bool.eq_iff_iff]
  simp only [beq_iff_eq, Bool.not_eq_true', List.any_eq_false]
  constructor
  · intro h x hx
    have : l.filter q = [] := List.eq_nil_of_length_eq_zero (by omega)
    simpa using List.filter_eq_nil_iff.1 this x hx
  · intro h
    have : l.filter q = [] := List.filter_eq_nil_iff.2 h
    rw [this]; rfl
theorem qblv : ∀ (n : Nat) (p : Pq), p.good → p.np.k + 1 = n → ∀ (m : Nat), n ≤ m → ∀ (a l : List AV), qca l → qpf l → l.length ≤ 1000 → a.length + (qkk l n p).length ≤ 1000000000 →
    qe1 m a l p.v p.hi p.lo p.bits = some (a ++ (qkk l n p).map Pq.av)
  | 0, p, hp, hk, _, _, _, _, _, _, _, _ => by omega
  | n + 1, p, hp, hk, m, hm, a, l, hl, hg, hn, hsz => by
    obtain ⟨m, rfl⟩ : ∃ j, m = j + 1 := ⟨m - 1, by omega⟩
    show qru (qe1 m) a l p.v p.hi p.lo p.bits = _
    unfold qru
    simp only [hd_self, hd_nil, List.length_nil, Bool.and_self, cond_t]
    rw [qbpc _ l hl hn, qbqj]
    unfold qkk at hsz ⊢
    cases hW : l.any fun b => winP p (pqY b) with
    | true => simp
    | false =>
      simp only [hW, cond_f] at hsz ⊢
      cases hO : l.any fun b => ovP (pqY b) p with
      | false =>
        have hsz' : a.length + 1 ≤ 1000000000 := by simpa [hO] using hsz
        simp only [hO, Bool.not_false, cond_t, hd_self]
        rw [qbrr _ (by omega)]
        rfl
      | true =>
        simp only [hO, Bool.not_true, cond_f] at hsz ⊢
        rw [q8w p.v p.hi p.lo p.bits hp.2.1 hp.2.2]
        simp only [oB_s]
        unfold q3u
        cases hh : qmh p.v p.hi p.lo p.bits with
        | false =>
          have hh' : p.half = false := hh
          simp only [hh', cond_f, Bool.not_false, cond_t]
          simp
        | true =>
          have hh' : p.half = true := hh
          have hkk := (Pq.half_iff hp).1 hh'
          have hlg := Pq.low_good hp hh'
          have hhg := Pq.high_good hp hh'
          have h1 : p.low.np.sub p.np := by rw [Pq.low_np hp hh']; exact Np.low_sub hp.np_ok hkk
          have h2 : p.high.np.sub p.np := by rw [Pq.high_np hp hh']; exact Np.high_sub hp.np_ok hkk
          have k1 : p.low.np.k + 1 = n := by rw [Pq.low_np hp hh']; show p.np.k - 1 + 1 = n; omega
          have k2 : p.high.np.k + 1 = n := by rw [Pq.high_np hp hh']; show p.np.k - 1 + 1 = n; omega
          have f1 := q8x hg hp n p.low hlg h1
          have f2 := q8x hg hp n p.high hhg h2
          have hf : qca (l.filter fun b => ovP (pqY b) p) := ⟨Nat.le_trans (List.length_filter_le _ _) hl.1, fun y hy => hl.2 y (List.mem_filter.1 hy).1⟩
          have hfg : qpf (l.filter fun b => ovP (pqY b) p) := fun y hy => hg y (List.mem_filter.1 hy).1
          have hfn : (l.filter fun b => ovP (pqY b) p).length ≤ 1000 := Nat.le_trans (List.length_filter_le _ _) hn
          simp only [hh', cond_t, List.length_append] at hsz ⊢
          have r1 := qblv n p.low hlg k1 m (by omega) a _ hf hfg hfn (by rw [f1]; omega)
          have r2 := qblv n p.high hhg k2 m (by omega) (a ++ (qkk l n p.low).map Pq.av) _ hf hfg hfn (by rw [f2]; simp only [List.length_append, List.length_map]; omega)
          rw [f1] at r1
          rw [f2] at r2
          simp only [Bool.not_true, cond_f, hd_self, cond_t, Bool.and_self]
          rw [show qe1 m a (l.filter fun b => ovP (pqY b) p) (gB (lowP p.v p.hi p.lo p.bits).cells 0) (gI (lowP p.v p.hi p.lo p.bits).cells 1) (gI (lowP p.v p.hi p.lo p.bits).cells 2) (gI (lowP p.v p.hi p.lo p.bits).cells 3) = some (a ++ (qkk l n p.low).map Pq.av) from r1]
          simp only [oB_s, hd_self, cond_t]
          rw [show qe1 m (a ++ (qkk l n p.low).map Pq.av) (l.filter fun b => ovP (pqY b) p) (gB (qul p.v p.hi p.lo p.bits).cells 0) (gI (qul p.v p.hi p.lo p.bits).cells 1) (gI (qul p.v p.hi p.lo p.bits).cells 2) (gI (qul p.v p.hi p.lo p.bits).cells 3) = some (a ++ (qkk l n p.low).map Pq.av ++ (qkk l n p.high).map Pq.av) from r2]
          simp
theorem q5h {l : List AV} (hl : qca l) (ht : qg1 l) : qpf l := fun y hy => by
  obtain ⟨j, hj⟩ := List.getElem?_of_mem hy
  exact ⟨(ht j y hj).p, (hl.2 y hy).2.1, (hl.2 y hy).2.2.1⟩
theorem q0n {p q : Pq} (hp : p.good) (hq : q.good) : qh0 p.v p.hi p.lo p.bits q.v q.hi q.lo q.bits = true ↔ p.np.sub q.np ∧ p.np.k < q.np.k := by
  unfold qh0
  rw [Bool.and_eq_true, decide_eq_true_eq, show qng p.v p.hi p.lo p.bits q.v q.hi q.lo q.bits = winP p q from rfl, qoq hp hq]
  obtain ⟨a1, a2, a3, _⟩ := hp.range
  obtain ⟨b1, b2, b3, _⟩ := hq.range
  constructor
  · rintro ⟨h1, h2⟩
    refine ⟨h2, ?_⟩
    have : p.v = q.v := h2.1
    rw [this] at a3; omega
  · rintro ⟨h1, h2⟩
    refine ⟨?_, h1⟩
    have : p.v = q.v := h1.1
    rw [this] at a3; omega
def qy5 (l : List AV) (p : Pq) : List AV := l.filter fun y => qh0 (gB y.cells 0) (gI y.cells 1) (gI y.cells 2) (gI y.cells 3) p.v p.hi p.lo p.bits
theorem qblw {l : List AV} (hg : qpf l) {p : Pq} (hp : p.good) : ∀ (n : Nat) (y : AV), y ∈ l → (pqY y).np.sub p.np → (pqY y).np.k < p.np.k → p.np.k - (pqY y).np.k ≤ n → ∃ c, c ∈ q1t l p.v p.hi p.lo p.bits ∧ (pqY y).np.sub (pqY c).np
  | 0, y, hy, h1, h2, h3 => by omega
  | n + 1, y, hy, h1, h2, h3 => by
    have hyg := hg y hy
    by_cases hc : q1s l p.v p.hi p.lo p.bits y = true
    · exact ⟨y, List.mem_filter.2 ⟨hy, hc⟩, Np.sub_refl hyg.np_ok⟩
    · unfold q1s at hc
      have hlp : qh0 (gB y.cells 0) (gI y.cells 1) (gI y.cells 2) (gI y.cells 3) p.v p.hi p.lo p.bits = true := (q0n hyg hp).2 ⟨h1, h2⟩
      rw [hlp] at hc
      simp only [Bool.true_and, Bool.not_eq_true', Bool.not_eq_false, List.any_eq_true] at hc
      obtain ⟨o, ho, hoo⟩ := hc
      rw [Bool.and_eq_true] at hoo
      have hog := hg o ho
      obtain ⟨a1, a2⟩ := (q0n hog hp).1 hoo.1
      obtain ⟨b1, b2⟩ := (q0n hyg hog).1 (show qh0 (pqY y).v (pqY y).hi (pqY y).lo (pqY y).bits (pqY o).v (pqY o).hi (pqY o).lo (pqY o).bits = true from hoo.2)
      obtain ⟨c, hc1, hc2⟩ := qblw hg hp n o ho a1 a2 (by omega)
      exact ⟨c, hc1, Np.sub_trans b1 hc2⟩
def qbnx (l : List AV) (p : Pq) : List AV :=
  bif (match l.find? (atP p.v p.hi p.lo p.bits) with | some y => gI y.cells 4 == 1 | none => false) then (qkk (qy5 l p) (p.np.k + 1) p).map Pq.av else []
theorem qbim {l : List AV} (hg : qpf l) {p : Pq} {y : AV} (hy : l.find? (atP p.v p.hi p.lo p.bits) = some y) : p.good ∧ pqY y = p := by
  have h1 := List.find?_some hy
  obtain ⟨a, b, c, d⟩ := qqq.1 h1
  have e : pqY y = p := by unfold pqY; rw [a, b, c, d]
  have := hg y (List.mem_of_find?_eq_some hy)
  rw [e] at this
  exact ⟨this, e⟩
theorem qbs0 {n : Nat} (h : n ≤ 1000) : n ≤ FU := by rw [qbqz]; omega
theorem qbpd (y : AV) : gI (blkV y).cells 4 = gI y.cells 4 := rfl
theorem qbsg (l : List AV) (hl : qca l) (hg : qpf l) (hn : l.length ≤ 1000) (p : Pq) : qom l p.v p.hi p.lo p.bits = some (qbnx l p) := by
  rw [q21]; unfold qxq qbnx
  rw [qbmz l hl]
  simp only [oB_s]
  unfold qy2
  cases hf : l.find? (atP p.v p.hi p.lo p.bits) with
  | none => rfl
  | some y =>
    obtain ⟨hp, _⟩ := qbim hg hf
    simp only [qbpd, Bool.not_true, Bool.false_or]
    cases hk : gI y.cells 4 == 1 with
    | false =>
      have : (gI y.cells 4 != 1) = true := by unfold bne; rw [hk]; rfl
      rw [this]; rfl
    | true =>
      have : (gI y.cells 4 != 1) = false := by unfold bne; rw [hk]; rfl
      rw [this]
      simp only [cond_f, hd_nil, List.length_nil, Bool.and_self, cond_t]
      have lp : ∀ kx : List AV → Option (List AV), qmd l (l.length : Int) p.v p.hi p.lo p.bits kx FU 0 [] = kx (qy5 l p) := by
        intro kx
        rw [qwx]
        have key := qjl (σ := List AV) l hl.1 (fun n i s => qmw l (l.length : Int) p.v p.hi p.lo p.bits kx n i s) (fun i s nx => qh8 l (l.length : Int) i p.v p.hi p.lo p.bits s nx kx) (fun _ _ _ => rfl)
          (fun i s => s.length ≤ i) (fun r s => kx (s ++ qy5 r p)) ?_ ?_ [] FU (by simp) (qne (by have := hl.1; omega))
        · exact key
        · intro s nx _; simp [qh8, qy5]
        · intro i y r s nx g1 g2 g3 g4 h2 h5
          have hy := hl.2 y (List.mem_of_getElem? g2)
          have h6 : (i : Int) < (l.length : Int) := by omega
          have hyy := qku hy.1
          unfold mkB at hyy
          have n1 := h5 (s ++ [y]) (by simp; omega)
          have n2 := h5 s (by omega)
          unfold qh8
          simp only [h6, decide_true, cond_t, ixB_nat, g2, oB_s, hy.1, g4, q3t, hyy, hd_self]
          rw [qbfk y (a := s) (by omega), n1, n2]
          unfold qy5
          rw [List.filter_cons]
          cases qh0 (gB y.cells 0) (gI y.cells 1) (gI y.cells 2) (gI y.cells 3) p.v p.hi p.lo p.bits <;> simp
      rw [lp]
      simp only [hd_self, cond_t]
      have hf2 : qca (qy5 l p) := ⟨Nat.le_trans (List.length_filter_le _ _) hl.1, fun y hy => hl.2 y (List.mem_filter.1 hy).1⟩
      have hfg : qpf (qy5 l p) := fun y hy => hg y (List.mem_filter.1 hy).1
      have hfn : (qy5 l p).length ≤ 1000 := Nat.le_trans (List.length_filter_le _ _) hn
      have hk2 := hp.range.2.2.2
      have := qblv (p.np.k + 1) p hp rfl FU (qbs0 (by omega)) [] (qy5 l p) hf2 hfg hfn (by have := qbqi hfg hfn (n := p.np.k + 1) (by omega) hp; simp; omega)
      rw [q2z, this]
      simp
end Go.Proofs.Ytmjdngnagiloeaa.Dn
