/- What is free in a container, the program's answer and the reference's. -/
import Derived.Test.YtmfghgaboaocgaaFrLw46f
set_option linter.all false
namespace Go.Proofs.Ytmfghgaboaocgaa.Dn
open Go Go.Pev
set_option linter.unusedVariables false
set_option linter.unusedSimpArgs false
set_option maxRecDepth 4000
theorem qbff (v6 : Bool) (hi lo bits : Int) (w6 : Bool) (whi wlo wbits : Int) : qk0 v6 hi lo bits w6 whi wlo wbits = some (ovP ⟨v6, hi, lo, bits⟩ ⟨w6, whi, wlo, wbits⟩) := by
  rw [qyq]; unfold qs2 ovP winP
  simp only [qx6, oB_s]
  cases qm8 v6 hi lo bits w6 whi wlo wbits <;> simp
theorem qbq3 {R : Type} {a : List AV} (x : AV) (h : (a.length + 1) * 32 ≤ 140737488355328) (k : Option R) : (bif decide ((a.length + ([x] : List AV).length) * 32 ≤ 140737488355328) then k else none) = k := by
  rw [show ([x] : List AV).length = 1 from rfl, decide_eq_true h]; rfl
theorem qboq (rec : List AV → List AV → Bool → Int → Int → Int → Option (List AV)) (l : List AV) (hl : qc4 l) (hn : l.length ≤ 1000) (a : List AV) (p : Pq) (kx : List AV → Option (List AV)) :
    qmq rec l (l.length : Int) a p.v p.hi p.lo p.bits kx FU 0 [] = bif l.any (fun b => winP p (pqY b)) then some a else kx (l.filter fun b => ovP (pqY b) p) := by
  rw [qyv]
  have key := qkl (σ := List AV) l hl.1 (fun n i s => qnm rec l (l.length : Int) a p.v p.hi p.lo p.bits kx n i s) (fun i s nx => qjb rec l (l.length : Int) i a p.v p.hi p.lo p.bits s nx kx) (fun _ _ _ => rfl)
    (fun i s => s.length ≤ i) (fun r s => bif r.any (fun b => winP p (pqY b)) then some a else kx (s ++ r.filter fun b => ovP (pqY b) p)) ?_ ?_ [] FU (by simp) (qou (by have := hl.1; omega))
  · exact key
  · intro s nx _; simp [qjb]
  · intro i y r s nx g1 g2 g3 g4 h2 h5
    have hy := hl.2 y (List.mem_of_getElem? g2)
    have h6 : (i : Int) < (l.length : Int) := by omega
    have hyy := qbc6 hy.1
    unfold mkB at hyy
    have n1 := h5 (s ++ [y]) (by simp; omega)
    have n2 := h5 s (by omega)
    unfold qjb
    simp only [h6, decide_true, cond_t, ixB_nat, g2, oB_s, hy.1, g4, qx6, qbff, hyy, hd_self]
    rw [qbon y (a := s) (by omega), n1, n2, List.any_cons, List.filter_cons]
    rw [show qm8 p.v p.hi p.lo p.bits (gB y.cells 0) (gI y.cells 1) (gI y.cells 2) (gI y.cells 3) = winP p (pqY y) from rfl]
    rw [show ovP ⟨gB y.cells 0, gI y.cells 1, gI y.cells 2, gI y.cells 3⟩ ⟨p.v, p.hi, p.lo, p.bits⟩ = ovP (pqY y) p from rfl]
    cases winP p (pqY y) <;> cases ovP (pqY y) p <;> simp
theorem qbpt {α : Type} (l : List α) (q : α → Bool) : (((l.filter q).length : Int) == 0) = !(l.any q) := by
  rw [Bool.eq_iff_iff]
  simp only [beq_iff_eq, Bool.not_eq_true', List.any_eq_false]
  constructor
  · intro h x hx
    have : l.filter q = [] := List.eq_nil_of_length_eq_zero (by omega)
    simpa using List.filter_eq_nil_iff.1 this x hx
  · intro h
    have : l.filter q = [] := List.filter_eq_nil_iff.2 h
    rw [this]; rfl
theorem qbk5 : ∀ (n : Nat) (p : Pq), p.good → p.np.k + 1 = n → ∀ (m : Nat), n ≤ m → ∀ (a l : List AV), qc4 l → qjt l → l.length ≤ 1000 → a.length + (qgm l n p).length ≤ 1000000000 →
    qe0 m a l p.v p.hi p.lo p.bits = some (a ++ (qgm l n p).map Pq.av)
  | 0, p, hp, hk, _, _, _, _, _, _, _, _ => by omega
  | n + 1, p, hp, hk, m, hm, a, l, hl, hg, hn, hsz => by
    obtain ⟨m, rfl⟩ : ∃ j, m = j + 1 := ⟨m - 1, by omega⟩
    show qsr (qe0 m) a l p.v p.hi p.lo p.bits = _
    unfold qsr
    simp only [hd_self, hd_nil, List.length_nil, Bool.and_self, cond_t]
    rw [qboq _ l hl hn, qbpt]
    unfold qgm at hsz ⊢
    cases hW : l.any fun b => winP p (pqY b) with
    | true => simp
    | false =>
      simp only [hW, cond_f] at hsz ⊢
      cases hO : l.any fun b => ovP (pqY b) p with
      | false =>
        have hsz' : a.length + 1 ≤ 1000000000 := by simpa [hO] using hsz
        simp only [hO, Bool.not_false, cond_t, hd_self]
        rw [qbq3 _ (by omega)]
        rfl
      | true =>
        simp only [hO, Bool.not_true, cond_f] at hsz ⊢
        rw [qbh3 p.v p.hi p.lo p.bits hp.2.1 hp.2.2]
        simp only [oB_s]
        unfold q3l
        cases hh : qm9 p.v p.hi p.lo p.bits with
        | false =>
          have hh' : p.half = false := hh
          simp only [hh', cond_f, Bool.not_false, cond_t]
          simp
        | true =>
          have hh' : p.half = true := hh
          have hkk := (Pq.half_iff hp).1 hh'
          have hlg := Pq.low_good hp hh'
          have hhg := Pq.high_good hp hh'
          have h1 : p.low.np.sub p.np := by rw [Pq.low_np hp hh']; exact Np.low_sub hp.np_ok hkk
          have h2 : p.high.np.sub p.np := by rw [Pq.high_np hp hh']; exact Np.high_sub hp.np_ok hkk
          have k1 : p.low.np.k + 1 = n := by rw [Pq.low_np hp hh']; show p.np.k - 1 + 1 = n; omega
          have k2 : p.high.np.k + 1 = n := by rw [Pq.high_np hp hh']; show p.np.k - 1 + 1 = n; omega
          have f1 := q9d hg hp n p.low hlg h1
          have f2 := q9d hg hp n p.high hhg h2
          have hf : qc4 (l.filter fun b => ovP (pqY b) p) := ⟨Nat.le_trans (List.length_filter_le _ _) hl.1, fun y hy => hl.2 y (List.mem_filter.1 hy).1⟩
          have hfg : qjt (l.filter fun b => ovP (pqY b) p) := fun y hy => hg y (List.mem_filter.1 hy).1
          have hfn : (l.filter fun b => ovP (pqY b) p).length ≤ 1000 := Nat.le_trans (List.length_filter_le _ _) hn
          simp only [hh', cond_t, List.length_append] at hsz ⊢
          have r1 := qbk5 n p.low hlg k1 m (by omega) a _ hf hfg hfn (by rw [f1]; omega)
          have r2 := qbk5 n p.high hhg k2 m (by omega) (a ++ (qgm l n p.low).map Pq.av) _ hf hfg hfn (by rw [f2]; simp only [List.length_append, List.length_map]; omega)
          rw [f1] at r1
          rw [f2] at r2
          simp only [Bool.not_true, cond_f, hd_self, cond_t, Bool.and_self]
          rw [show qe0 m a (l.filter fun b => ovP (pqY b) p) (gB (lowP p.v p.hi p.lo p.bits).cells 0) (gI (lowP p.v p.hi p.lo p.bits).cells 1) (gI (lowP p.v p.hi p.lo p.bits).cells 2) (gI (lowP p.v p.hi p.lo p.bits).cells 3) = some (a ++ (qgm l n p.low).map Pq.av) from r1]
          simp only [oB_s, hd_self, cond_t]
          rw [show qe0 m (a ++ (qgm l n p.low).map Pq.av) (l.filter fun b => ovP (pqY b) p) (gB (q5h p.v p.hi p.lo p.bits).cells 0) (gI (q5h p.v p.hi p.lo p.bits).cells 1) (gI (q5h p.v p.hi p.lo p.bits).cells 2) (gI (q5h p.v p.hi p.lo p.bits).cells 3) = some (a ++ (qgm l n p.low).map Pq.av ++ (qgm l n p.high).map Pq.av) from r2]
          simp
theorem qzf {l : List AV} (hl : qc4 l) (ht : qg2 l) : qjt l := fun y hy => by
  obtain ⟨j, hj⟩ := List.getElem?_of_mem hy
  exact ⟨(ht j y hj).p, (hl.2 y hy).2.1, (hl.2 y hy).2.2.1⟩
theorem q0r {p q : Pq} (hp : p.good) (hq : q.good) : qsw p.v p.hi p.lo p.bits q.v q.hi q.lo q.bits = true ↔ p.np.sub q.np ∧ p.np.k < q.np.k := by
  unfold qsw
  rw [Bool.and_eq_true, decide_eq_true_eq, show qm8 p.v p.hi p.lo p.bits q.v q.hi q.lo q.bits = winP p q from rfl, qll hp hq]
  obtain ⟨a1, a2, a3, _⟩ := hp.range
  obtain ⟨b1, b2, b3, _⟩ := hq.range
  constructor
  · rintro ⟨h1, h2⟩
    refine ⟨h2, ?_⟩
    have : p.v = q.v := h2.1
    rw [this] at a3; omega
  · rintro ⟨h1, h2⟩
    refine ⟨?_, h1⟩
    have : p.v = q.v := h1.1
    rw [this] at a3; omega
def qpv (l : List AV) (p : Pq) : List AV := l.filter fun y => qsw (gB y.cells 0) (gI y.cells 1) (gI y.cells 2) (gI y.cells 3) p.v p.hi p.lo p.bits
def qbi9 (l : List AV) (p : Pq) : List AV :=
  bif (match l.find? (atP p.v p.hi p.lo p.bits) with | some y => gI y.cells 4 == 1 | none => false) then (qgm (qpv l p) (p.np.k + 1) p).map Pq.av else []
theorem q1u {l : List AV} (hg : qjt l) {p : Pq} {y : AV} (hy : l.find? (atP p.v p.hi p.lo p.bits) = some y) : p.good ∧ pqY y = p := by
  have h1 := List.find?_some hy
  obtain ⟨a, b, c, d⟩ := qt2.1 h1
  have e : pqY y = p := by unfold pqY; rw [a, b, c, d]
  have := hg y (List.mem_of_find?_eq_some hy)
  rw [e] at this
  exact ⟨this, e⟩
theorem qbsc {n : Nat} (h : n ≤ 1000) : n ≤ FU := by rw [qbp7]; omega
theorem qbor (y : AV) : gI (blkV y).cells 4 = gI y.cells 4 := rfl
theorem qbos (l : List AV) (hl : qc4 l) (hg : qjt l) (hn : l.length ≤ 1000) (p : Pq) : ql4 l p.v p.hi p.lo p.bits = some (qbi9 l p) := by
  rw [q2j]; unfold qyg qbi9
  rw [q9r l hl]
  simp only [oB_s]
  unfold q5b
  cases hf : l.find? (atP p.v p.hi p.lo p.bits) with
  | none => rfl
  | some y =>
    obtain ⟨hp, _⟩ := q1u hg hf
    simp only [qbor, Bool.not_true, Bool.false_or]
    cases hk : gI y.cells 4 == 1 with
    | false =>
      have : (gI y.cells 4 != 1) = true := by unfold bne; rw [hk]; rfl
      rw [this]; rfl
    | true =>
      have : (gI y.cells 4 != 1) = false := by unfold bne; rw [hk]; rfl
      rw [this]
      simp only [cond_f, hd_nil, List.length_nil, Bool.and_self, cond_t]
      have lp : ∀ kx : List AV → Option (List AV), qls l (l.length : Int) p.v p.hi p.lo p.bits kx FU 0 [] = kx (qpv l p) := by
        intro kx
        rw [qxe]
        have key := qkl (σ := List AV) l hl.1 (fun n i s => qmf l (l.length : Int) p.v p.hi p.lo p.bits kx n i s) (fun i s nx => qhx l (l.length : Int) i p.v p.hi p.lo p.bits s nx kx) (fun _ _ _ => rfl)
          (fun i s => s.length ≤ i) (fun r s => kx (s ++ qpv r p)) ?_ ?_ [] FU (by simp) (qou (by have := hl.1; omega))
        · exact key
        · intro s nx _; simp [qhx, qpv]
        · intro i y r s nx g1 g2 g3 g4 h2 h5
          have hy := hl.2 y (List.mem_of_getElem? g2)
          have h6 : (i : Int) < (l.length : Int) := by omega
          have hyy := qbc6 hy.1
          unfold mkB at hyy
          have n1 := h5 (s ++ [y]) (by simp; omega)
          have n2 := h5 s (by omega)
          unfold qhx
          simp only [h6, decide_true, cond_t, ixB_nat, g2, oB_s, hy.1, g4, qbkz, hyy, hd_self]
          rw [qbon y (a := s) (by omega), n1, n2]
          unfold qpv
          rw [List.filter_cons]
          cases qsw (gB y.cells 0) (gI y.cells 1) (gI y.cells 2) (gI y.cells 3) p.v p.hi p.lo p.bits <;> simp
      rw [lp]
      simp only [hd_self, cond_t]
      have hf2 : qc4 (qpv l p) := ⟨Nat.le_trans (List.length_filter_le _ _) hl.1, fun y hy => hl.2 y (List.mem_filter.1 hy).1⟩
      have hfg : qjt (qpv l p) := fun y hy => hg y (List.mem_filter.1 hy).1
      have hfn : (qpv l p).length ≤ 1000 := Nat.le_trans (List.length_filter_le _ _) hn
      have hk2 := hp.range.2.2.2
      have := qbk5 (p.np.k + 1) p hp rfl FU (qbsc (by omega)) [] (qpv l p) hf2 hfg hfn (by have := qbk4 hfg hfn (n := p.np.k + 1) (by omega) hp; simp; omega)
      rw [q2h, this]
      simp
end Go.Proofs.Ytmfghgaboaocgaa.Dn
