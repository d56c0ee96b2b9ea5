/- Prefixes as_ a tree: what lies in what; what is free. -/
import Derived.Test.YtmfghgaboaocgaaFrLw46e
set_option linter.all false
namespace Go.Proofs.Ytmfghgaboaocgaa.Dn
open Go Go.Pev
set_option linter.unusedVariables false
set_option linter.unusedSimpArgs false
set_option maxRecDepth 4000
theorem Np.sub_range {p q : Np} (hp : p.ok) (hq : q.ok) : p.sub q ↔ p.v = q.v ∧ p.k ≤ q.k ∧ q.n ≤ p.n ∧ p.n < q.n + 2 ^ q.k := by
  unfold Np.sub
  have h0 := Nat.two_pow_pos q.k
  have h1 := Nat.mod_lt p.n h0
  have h2 := Nat.mod_le p.n (2 ^ q.k)
  constructor
  · rintro ⟨a, b, c⟩; exact ⟨a, b, by omega, by omega⟩
  · rintro ⟨a, b, c, d⟩
    refine ⟨a, b, ?_⟩
    obtain ⟨u, hu⟩ := Nat.dvd_of_mod_eq_zero hq
    have : p.n / 2 ^ q.k = u := by
      rw [Nat.div_eq_iff h0]
      rw [hu] at c d
      constructor
      · rw [Nat.mul_comm]; omega
      · rw [Nat.mul_comm]; omega
    have h3 := Nat.div_add_mod p.n (2 ^ q.k)
    rw [this] at h3
    omega
def Np.low (p : Np) : Np := ⟨p.v, p.n, p.k - 1⟩
def Np.high (p : Np) : Np := ⟨p.v, p.n + 2 ^ (p.k - 1), p.k - 1⟩
theorem qbc9 {k : Nat} (h : 0 < k) : 2 ^ k = 2 ^ (k - 1) + 2 ^ (k - 1) := by
  obtain ⟨j, rfl⟩ : ∃ j, k = j + 1 := ⟨k - 1, by omega⟩
  rw [Nat.pow_succ]; simp; omega
theorem Np.low_ok {p : Np} (hp : p.ok) (hk : 0 < p.k) : p.low.ok := by
  unfold Np.ok Np.low at *
  simp only
  have : 2 ^ (p.k - 1) ∣ 2 ^ p.k := q9s (by omega)
  exact Nat.mod_eq_zero_of_dvd (Nat.dvd_trans this (Nat.dvd_of_mod_eq_zero hp))
theorem Np.high_ok {p : Np} (hp : p.ok) (hk : 0 < p.k) : p.high.ok := by
  have h1 := Np.low_ok hp hk
  unfold Np.ok Np.high Np.low at *
  simp only at *
  rw [Nat.add_mod_right]; exact h1
theorem Np.low_sub {p : Np} (hp : p.ok) (hk : 0 < p.k) : p.low.sub p := by
  refine (Np.sub_range (Np.low_ok hp hk) hp).2 ⟨rfl, Nat.sub_le _ _, Nat.le_refl _, ?_⟩
  have := Nat.two_pow_pos p.k
  show p.n < _
  omega
theorem Np.high_sub {p : Np} (hp : p.ok) (hk : 0 < p.k) : p.high.sub p := by
  refine (Np.sub_range (Np.high_ok hp hk) hp).2 ⟨rfl, Nat.sub_le _ _, Nat.le_add_right _ _, ?_⟩
  have := qbc9 hk
  have h0 := Nat.two_pow_pos (p.k - 1)
  show p.n + 2 ^ (p.k - 1) < _
  omega
theorem Np.not_both {p q : Np} (hp : p.ok) (hq : q.ok) (hp0 : 0 < p.k) (h1 : q.sub p.low) (h2 : q.sub p.high) : False := by
  obtain ⟨_, _, c, d⟩ := (Np.sub_range hq (Np.low_ok hp hp0)).1 h1
  obtain ⟨_, _, c', d'⟩ := (Np.sub_range hq (Np.high_ok hp hp0)).1 h2
  simp only [Np.low, Np.high] at *
  omega
theorem Np.both {p q : Np} (hp : p.ok) (hq : q.ok) (hp0 : 0 < p.k) (h1 : p.low.sub q) (h2 : p.high.sub q) : p.sub q := by
  have e := qbc9 hp0
  have hle : p.k - 1 ≤ q.k := h1.2.1
  rcases Nat.lt_or_ge q.k p.k with hk | hk
  · exfalso
    have hqk : q.k = p.k - 1 := by have := h1.2.1; simp only [Np.low] at this; omega
    obtain ⟨_, _, c, d⟩ := (Np.sub_range (Np.low_ok hp hp0) hq).1 h1
    obtain ⟨_, _, c', d'⟩ := (Np.sub_range (Np.high_ok hp hp0) hq).1 h2
    simp only [Np.low, Np.high] at *
    rw [hqk] at d d'
    omega
  · exact Np.nest (Np.low_sub hp hp0) h1 hk
structure Pq where
  v : Bool
  hi : Int
  lo : Int
  bits : Int
def Pq.good (p : Pq) : Prop := qf2 p.v p.hi p.lo p.bits = true ∧ uok p.hi ∧ uok p.lo
def Pq.np (p : Pq) : Np := ⟨p.v, numP p.hi p.lo, kOf p.v p.bits⟩
def Pq.av (p : Pq) : AV := mkP p.v p.hi p.lo p.bits
def pqY (y : AV) : Pq := ⟨gB y.cells 0, gI y.cells 1, gI y.cells 2, gI y.cells 3⟩
def winP (p q : Pq) : Bool := qm8 p.v p.hi p.lo p.bits q.v q.hi q.lo q.bits
def ovP (p q : Pq) : Bool := winP p q || winP q p
theorem Pq.good.np_ok {p : Pq} (h : p.good) : p.np.ok := ((qvb h.2.1 h.2.2).1 h.1).2.2.2
theorem Pq.good.range {p : Pq} (h : p.good) : 0 ≤ p.bits ∧ p.bits ≤ qt p.v ∧ (p.np.k : Int) = qt p.v - p.bits ∧ p.np.k ≤ 128 := by
  obtain ⟨h1, h2, _⟩ := qfr h.1
  have := qkj p.v
  refine ⟨h1, h2, ?_, ?_⟩
  · show ((kOf p.v p.bits : Nat) : Int) = _
    unfold kOf; omega
  · show kOf p.v p.bits ≤ 128
    unfold kOf; omega
theorem qll {p q : Pq} (hp : p.good) (hq : q.good) : winP p q = true ↔ p.np.sub q.np := by
  unfold winP qm8 Np.sub
  rw [hp.1]
  simp only [Bool.true_and, Bool.and_eq_true, decide_eq_true_eq]
  rw [qboj hq.2.1 hq.2.2 hp.2.1 hp.2.2]
  obtain ⟨a1, a2, a3, _⟩ := hp.range
  obtain ⟨b1, b2, b3, _⟩ := hq.range
  have ha := (qfr hp.1).2.2
  constructor
  · rintro ⟨h1, h2, h3, h4, h5⟩
    refine ⟨h4.symm, ?_, h5.symm⟩
    rw [h4] at b3; omega
  · rintro ⟨h1, h2, h3⟩
    refine ⟨?_, hq.1, ha, h1.symm, h3.symm⟩
    have h1' : p.v = q.v := h1
    rw [h1'] at a3; omega
theorem qbrs {p q : Pq} (hp : p.good) (hq : q.good) (h : p.np = q.np) : p = q := by
  obtain ⟨a1, a2, a3, _⟩ := hp.range
  obtain ⟨b1, b2, b3, _⟩ := hq.range
  have h1 : p.v = q.v := congrArg Np.v h
  have h2 : numP p.hi p.lo = numP q.hi q.lo := congrArg Np.n h
  obtain ⟨h3, h4⟩ := qbkx hp.2.1 hp.2.2 hq.2.1 hq.2.2 h2
  have h5 : p.bits = q.bits := by rw [h, h1] at a3; omega
  cases p; cases q; simp only at *
  subst h1 h3 h4 h5; rfl
def Pq.low (p : Pq) : Pq := ⟨p.v, p.hi, p.lo, p.bits + 1⟩
def Pq.high (p : Pq) : Pq := ⟨p.v, qce .or .u64 p.hi (bitP p.v p.bits).1, qce .or .u64 p.lo (bitP p.v p.bits).2, p.bits + 1⟩
def Pq.half (p : Pq) : Bool := qm9 p.v p.hi p.lo p.bits
theorem Pq.half_iff {p : Pq} (hp : p.good) : p.half = true ↔ 0 < p.np.k := by
  obtain ⟨a1, a2, a3, _⟩ := hp.range
  unfold Pq.half qm9
  rw [hp.1]
  simp only [Bool.true_and, decide_eq_true_eq]
  omega
theorem Pq.low_np {p : Pq} (hp : p.good) (h : p.half = true) : p.low.np = p.np.low := by
  obtain ⟨a1, a2, a3, _⟩ := hp.range
  have hk := (Pq.half_iff hp).1 h
  have : kOf p.v (p.bits + 1) = kOf p.v p.bits - 1 := by unfold kOf; omega
  unfold Pq.np Pq.low Np.low
  simp only [this]
theorem Pq.high_np {p : Pq} (hp : p.good) (h : p.half = true) : p.high.np = p.np.high := by
  obtain ⟨a1, a2, a3, _⟩ := hp.range
  have hk := (Pq.half_iff hp).1 h
  have : kOf p.v (p.bits + 1) = kOf p.v p.bits - 1 := by unfold kOf; omega
  unfold Pq.np Pq.high Np.high
  simp only
  rw [qbps h hp.2.1 hp.2.2, this]
theorem qbfe {v : Bool} {hi lo : Int} (u1 : uok hi) (u2 : uok lo) : qm7 v hi lo = true ↔ (v = true ∨ numP hi lo < 2 ^ 32) := by
  unfold qm7 numP
  obtain ⟨a1, a2⟩ := u1
  obtain ⟨b1, b2⟩ := u2
  cases v with
  | true => simp
  | false =>
    have e : (2 : Nat) ^ 32 = 4294967296 := by decide
    rw [e]
    simp only [Bool.false_or, Bool.and_eq_true, beq_iff_eq, decide_eq_true_eq, Bool.false_eq_true, false_or]
    omega
theorem Pq.low_good {p : Pq} (hp : p.good) (h : p.half = true) : p.low.good := by
  have hk := (Pq.half_iff hp).1 h
  obtain ⟨a1, a2, a3, _⟩ := hp.range
  refine ⟨(qvb hp.2.1 hp.2.2).2 ⟨(qfr hp.1).2.2, by show 0 ≤ p.bits + 1; omega, by show p.bits + 1 ≤ qt p.v; omega, ?_⟩, hp.2⟩
  have := Np.low_ok hp.np_ok hk
  rw [← Pq.low_np hp h] at this
  exact this
theorem Pq.high_good {p : Pq} (hp : p.good) (h : p.half = true) : p.high.good := by
  have hk := (Pq.half_iff hp).1 h
  obtain ⟨a1, a2, a3, a4⟩ := hp.range
  have u1 : uok p.high.hi := qbog _ _
  have u2 : uok p.high.lo := qbog _ _
  have hn := Pq.high_np hp h
  refine ⟨(qvb u1 u2).2 ⟨(qbfe u1 u2).2 ?_, by show 0 ≤ p.bits + 1; omega, by show p.bits + 1 ≤ qt p.v; omega, ?_⟩, u1, u2⟩
  · rcases (qbfe hp.2.1 hp.2.2).1 (qfr hp.1).2.2 with h1 | h1
    · exact .inl h1
    · cases hv : p.v with
      | true => exact .inl hv
      | false =>
        right
        have e : numP p.high.hi p.high.lo = p.np.n + 2 ^ (p.np.k - 1) := congrArg Np.n hn
        rw [e]
        have hk32 : p.np.k ≤ 32 := by rw [hv] at a3; simp [qt] at a3; omega
        have hpo := hp.np_ok
        have hlt : p.np.n < 2 ^ 32 := h1
        obtain ⟨u, hu⟩ := Nat.dvd_of_mod_eq_zero hpo
        obtain ⟨c, hc⟩ := q9s hk32
        have hlt2 : u < c := by
          rw [hu, hc] at hlt
          exact Nat.lt_of_mul_lt_mul_left hlt
        have : 2 ^ p.np.k * (u + 1) ≤ 2 ^ p.np.k * c := Nat.mul_le_mul_left _ hlt2
        rw [Nat.mul_add, ← hu, ← hc, qbc9 hk] at this
        have h0 := Nat.two_pow_pos (p.np.k - 1)
        omega
  · have := Np.high_ok hp.np_ok hk
    rw [← hn] at this
    exact this
def qgm (l : List AV) : Nat → Pq → List Pq
  | 0, _ => []
  | n + 1, p => bif l.any (fun b => winP p (pqY b)) then [] else bif !(l.any fun b => ovP (pqY b) p) then [p] else bif p.half then qgm l n p.low ++ qgm l n p.high else []
def qjt (l : List AV) : Prop := ∀ y, y ∈ l → (pqY y).good
theorem q9c {p q b : Pq} (hp : p.good) (hq : q.good) (hb : b.good) (h : q.np.sub p.np) (ho : ovP b q = true) : ovP b p = true := by
  unfold ovP at *
  rw [Bool.or_eq_true, qll hb hq, qll hq hb] at ho
  rw [Bool.or_eq_true, qll hb hp, qll hp hb]
  rcases ho with ho | ho
  · exact .inl (Np.sub_trans ho h)
  · rcases Nat.lt_or_ge b.np.k p.np.k with hk | hk
    · exact .inl (Np.nest ho h (by omega))
    · exact .inr (Np.nest h ho hk)
theorem q2b {l l' : List AV} (hl : qjt l) (hl' : qjt l') {c : Pq} (hc : c.good)
    (hW : ∀ q : Pq, q.good → q.np.sub c.np → (l.any fun b => winP q (pqY b)) = l'.any fun b => winP q (pqY b)) (hO : ∀ q : Pq, q.good → q.np.sub c.np → (l.any fun b => ovP (pqY b) q) = l'.any fun b => ovP (pqY b) q) :
    ∀ (n : Nat) (p : Pq), p.good → p.np.sub c.np → qgm l n p = qgm l' n p
  | 0, p, _, _ => rfl
  | n + 1, p, hp, hs => by
    unfold qgm
    rw [hW p hp hs, hO p hp hs]
    cases hh : p.half with
    | false => rfl
    | true =>
      have hk := (Pq.half_iff hp).1 hh
      have h1 : p.low.np.sub p.np := by rw [Pq.low_np hp hh]; exact Np.low_sub hp.np_ok hk
      have h2 : p.high.np.sub p.np := by rw [Pq.high_np hp hh]; exact Np.high_sub hp.np_ok hk
      rw [q2b hl hl' hc hW hO n p.low (Pq.low_good hp hh) (Np.sub_trans h1 hs), q2b hl hl' hc hW hO n p.high (Pq.high_good hp hh) (Np.sub_trans h2 hs)]
theorem q9d {l : List AV} (hl : qjt l) {c : Pq} (hc : c.good) (n : Nat) (p : Pq) (hp : p.good) (hs : p.np.sub c.np) : qgm (l.filter fun b => ovP (pqY b) c) n p = qgm l n p := by
  refine q2b (fun y hy => hl y ((List.mem_filter.1 hy).1)) hl hc (fun q hq hqc => ?_) (fun q hq hqc => ?_) n p hp hs
  · rw [Bool.eq_iff_iff, List.any_eq_true, List.any_eq_true]
    constructor
    · rintro ⟨b, hb, h⟩; exact ⟨b, (List.mem_filter.1 hb).1, h⟩
    · rintro ⟨b, hb, h⟩
      refine ⟨b, List.mem_filter.2 ⟨hb, q9c hc hq (hl b hb) hqc ?_⟩, h⟩
      unfold ovP; rw [h, Bool.or_true]
  · rw [Bool.eq_iff_iff, List.any_eq_true, List.any_eq_true]
    constructor
    · rintro ⟨b, hb, h⟩; exact ⟨b, (List.mem_filter.1 hb).1, h⟩
    · rintro ⟨b, hb, h⟩
      exact ⟨b, List.mem_filter.2 ⟨hb, q9c hc hq (hl b hb) hqc h⟩, h⟩
theorem qbh4 {α : Type} {A B C : α → Bool} : ∀ (l : List α), (∀ b, b ∈ l → A b = true → C b = true) → (∀ b, b ∈ l → B b = true → C b = true) → (∀ b, b ∈ l → A b = true → B b = true → False) → (l.filter A).length + (l.filter B).length ≤ (l.filter C).length
  | [], _, _, _ => by simp
  | b :: r, h1, h2, h3 => by
    have ih := qbh4 r (fun x hx => h1 x (List.mem_cons_of_mem _ hx)) (fun x hx => h2 x (List.mem_cons_of_mem _ hx)) (fun x hx => h3 x (List.mem_cons_of_mem _ hx))
    have k1 := h1 b List.mem_cons_self
    have k2 := h2 b List.mem_cons_self
    have k3 := h3 b List.mem_cons_self
    rw [List.filter_cons, List.filter_cons, List.filter_cons]
    cases hA : A b <;> cases hB : B b
    · cases C b <;> simp <;> omega
    · rw [k2 hB]; simp; omega
    · rw [k1 hA]; simp; omega
    · exact (k3 hA hB).elim
theorem q9e {l : List AV} (hl : qjt l) : ∀ (n : Nat) (p : Pq), p.good → (qgm l n p).length ≤ (l.filter fun b => ovP (pqY b) p).length * n + 1
  | 0, p, _ => by simp [qgm]
  | n + 1, p, hp => by
    unfold qgm
    cases hW : l.any fun b => winP p (pqY b) with
    | true => simp
    | false =>
      cases hO : l.any fun b => ovP (pqY b) p with
      | false => simp
      | true =>
        cases hh : p.half with
        | false => simp
        | true =>
          have hk := (Pq.half_iff hp).1 hh
          have hlg := Pq.low_good hp hh
          have hhg := Pq.high_good hp hh
          have h1 : p.low.np.sub p.np := by rw [Pq.low_np hp hh]; exact Np.low_sub hp.np_ok hk
          have h2 : p.high.np.sub p.np := by rw [Pq.high_np hp hh]; exact Np.high_sub hp.np_ok hk
          have i1 := q9e hl n p.low hlg
          have i2 := q9e hl n p.high hhg
          have hc := qbh4 (A := fun b => ovP (pqY b) p.low) (B := fun b => ovP (pqY b) p.high) (C := fun b => ovP (pqY b) p) l (fun b hb h => q9c hp hlg (hl b hb) h1 h) (fun b hb h => q9c hp hhg (hl b hb) h2 h) (fun b hb ha hb' => by
            have hbg := hl b hb
            have hnw : winP p (pqY b) = false := by
              rw [List.any_eq_false] at hW
              simpa using hW b hb
            have hns : ¬ p.np.sub (pqY b).np := fun h => by rw [(qll hp hbg).2 h] at hnw; cases hnw
            unfold ovP at ha hb'
            rw [Bool.or_eq_true, qll hbg hlg, qll hlg hbg, Pq.low_np hp hh] at ha
            rw [Bool.or_eq_true, qll hbg hhg, qll hhg hbg, Pq.high_np hp hh] at hb'
            have hlo := Np.low_ok hp.np_ok hk
            have hho := Np.high_ok hp.np_ok hk
            rcases ha with ha | ha <;> rcases hb' with hb' | hb'
            · exact Np.not_both hp.np_ok hbg.np_ok hk ha hb'
            · exact Np.not_both hp.np_ok hho hk (Np.sub_trans hb' ha) (Np.sub_refl hho)
            · exact Np.not_both hp.np_ok hlo hk (Np.sub_refl hlo) (Np.sub_trans ha hb')
            · exact hns (Np.both hp.np_ok hbg.np_ok hk ha hb'))
          have hpos : 0 < (l.filter fun b => ovP (pqY b) p).length := by
            obtain ⟨b, hb, h⟩ := List.any_eq_true.1 hO
            exact List.length_pos_of_mem (List.mem_filter.2 ⟨hb, h⟩)
          simp only [Bool.not_true, cond_f, cond_t, List.length_append]
          generalize (l.filter fun b => ovP (pqY b) p).length = c at *
          generalize (l.filter fun b => ovP (pqY b) p.low).length = c1 at *
          generalize (l.filter fun b => ovP (pqY b) p.high).length = c2 at *
          have e1 : (c1 + c2) * n ≤ c * n := Nat.mul_le_mul_right _ hc
          rw [Nat.add_mul] at e1
          rw [Nat.mul_add]
          omega
theorem qbk4 {l : List AV} (hl : qjt l) (hn : l.length ≤ 1000) {n : Nat} (hn2 : n ≤ 200) {p : Pq} (hp : p.good) : (qgm l n p).length ≤ 200001 := by
  have h1 := q9e hl n p hp
  have h2 : (l.filter fun b => ovP (pqY b) p).length ≤ 1000 := Nat.le_trans (List.length_filter_le _ _) hn
  have h3 : (l.filter fun b => ovP (pqY b) p).length * n ≤ 1000 * 200 := Nat.mul_le_mul h2 hn2
  omega
end Go.Proofs.Ytmfghgaboaocgaa.Dn
