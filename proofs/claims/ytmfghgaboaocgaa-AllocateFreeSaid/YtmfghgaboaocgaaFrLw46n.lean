/- Prefixes as_ numbers: where they begin, and how many bits are left. -/
import Derived.Test.YtmfghgaboaocgaaFrLw46k
set_option linter.all false
namespace Go.Proofs.Ytmfghgaboaocgaa.Dn
open Go Go.Pev
set_option linter.unusedVariables false
set_option linter.unusedSimpArgs false
set_option maxRecDepth 4000
def numP (hi lo : Int) : Nat := hi.toNat * 18446744073709551616 + lo.toNat
def kOf (v6 : Bool) (bits : Int) : Nat := (qt v6 - bits).toNat
theorem q5c : (2 : Nat) ^ 64 = 18446744073709551616 := by decide
theorem qbkv (x j : Nat) : x &&& (2 ^ j - 1) = x % 2 ^ j := Nat.and_two_pow_sub_one_eq_mod x j
theorem qsm {x : Int} (h : uok x) (j : Nat) (hj : j ≤ 64) : qce .and .u64 x ((2 ^ j - 1 : Nat) : Int) = ((x.toNat % 2 ^ j : Nat) : Int) := by
  rw [qbfa]
  congr 1
  have e1 := q1q h
  have hp : (2 : Nat) ^ j ≤ 2 ^ 64 := Nat.pow_le_pow_right (by decide) hj
  have h0 : 0 < (2 : Nat) ^ j := Nat.two_pow_pos j
  have e2 := q1q (x := ((2 ^ j - 1 : Nat) : Int)) ⟨by omega, by rw [q5c] at hp; omega⟩
  rw [BitVec.toNat_and]
  have e3 : (BitVec.ofInt 64 x).toNat = x.toNat := by omega
  have e4 : (BitVec.ofInt 64 ((2 ^ j - 1 : Nat) : Int)).toNat = 2 ^ j - 1 := by omega
  rw [e3, e4]
  exact qbkv _ _
theorem qwt {x : Int} (h : uok x) (j : Nat) (hj : j ≤ 64) : qce .andNot .u64 x ((2 ^ j - 1 : Nat) : Int) = ((x.toNat - x.toNat % 2 ^ j : Nat) : Int) := by
  have h1 := qsm h j hj
  rw [qbfa] at h1
  rw [qbhv]
  have h2 := q49 (BitVec.ofInt 64 x) (BitVec.ofInt 64 ((2 ^ j - 1 : Nat) : Int))
  have h3 := q1q h
  have h4 : x.toNat % 2 ^ j ≤ x.toNat := Nat.mod_le _ _
  omega
theorem qbkw : ∀ n : Fin 65, qlg n = (0, ((2 ^ n.val - 1 : Nat) : Int)) := by decide +kernel
theorem qbhx : ∀ n : Fin 65, qlg (n.val + 64) = (((2 ^ n.val - 1 : Nat) : Int), ((2 ^ 64 - 1 : Nat) : Int)) := by decide +kernel
theorem qw2 {x : Int} (h : uok x) : qce .and .u64 x 0 = 0 := by
  have := qsm h 0 (by omega)
  simpa [Nat.mod_one] using this
theorem q9a (hi lo k : Nat) (hk : k ≤ 64) : (hi * 18446744073709551616 + lo) % 2 ^ k = lo % 2 ^ k := by
  have : 18446744073709551616 = 2 ^ k * 2 ^ (64 - k) := by rw [← Nat.pow_add, ← q5c]; congr 1; omega
  rw [this, show hi * (2 ^ k * 2 ^ (64 - k)) + lo = lo + 2 ^ k * (hi * 2 ^ (64 - k)) by rw [Nat.add_comm]; congr 1; rw [Nat.mul_left_comm], Nat.add_mul_mod_self_left]
theorem qbgw (hi lo j : Nat) (hl : lo < 18446744073709551616) : (hi * 18446744073709551616 + lo) % 2 ^ (j + 64) = hi % 2 ^ j * 18446744073709551616 + lo := by
  have h0 : 0 < (2 : Nat) ^ j := Nat.two_pow_pos j
  have h1 := Nat.div_add_mod hi (2 ^ j)
  have h2 := Nat.mod_lt hi h0
  rw [Nat.pow_add, q5c]
  have e : hi * 18446744073709551616 + lo = (hi % 2 ^ j * 18446744073709551616 + lo) + 2 ^ j * 18446744073709551616 * (hi / 2 ^ j) := by
    calc hi * 18446744073709551616 + lo = (2 ^ j * (hi / 2 ^ j) + hi % 2 ^ j) * 18446744073709551616 + lo := by rw [h1]
      _ = _ := by rw [Nat.add_mul]; rw [show 2 ^ j * (hi / 2 ^ j) * 18446744073709551616 = 2 ^ j * 18446744073709551616 * (hi / 2 ^ j) by rw [Nat.mul_right_comm]]; omega
  rw [e, Nat.add_mul_mod_self_left]
  refine Nat.mod_eq_of_lt ?_
  have h3 : (hi % 2 ^ j + 1) * 18446744073709551616 ≤ 2 ^ j * 18446744073709551616 := Nat.mul_le_mul_right _ h2
  rw [Nat.add_mul] at h3
  omega
theorem qbmd {hi lo : Int} (u1 : uok hi) (u2 : uok lo) (k : Nat) (hk : k ≤ 128) :
    uok (qce .andNot .u64 hi (qlg k).1) ∧ uok (qce .andNot .u64 lo (qlg k).2) ∧ numP (qce .andNot .u64 hi (qlg k).1) (qce .andNot .u64 lo (qlg k).2) = numP hi lo - numP hi lo % 2 ^ k := by
  obtain ⟨a1, a2⟩ := u1
  obtain ⟨b1, b2⟩ := u2
  rcases Nat.lt_or_ge k 65 with h | h
  · have e := qbkw ⟨k, h⟩
    simp only at e
    rw [e, qwt ⟨b1, b2⟩ k (by omega), qblv ⟨a1, a2⟩]
    have hm := q9a hi.toNat lo.toNat k (by omega)
    have hle := Nat.mod_le lo.toNat (2 ^ k)
    refine ⟨⟨a1, a2⟩, ⟨by omega, by omega⟩, ?_⟩
    unfold numP
    rw [hm]
    omega
  · obtain ⟨j, rfl⟩ : ∃ j, k = j + 64 := ⟨k - 64, by omega⟩
    have e := qbhx ⟨j, by omega⟩
    simp only at e
    rw [e, qwt ⟨a1, a2⟩ j (by omega), qwt ⟨b1, b2⟩ 64 (by omega)]
    have hm := qbgw hi.toNat lo.toNat j (by omega)
    have hle := Nat.mod_le hi.toNat (2 ^ j)
    have hlo : lo.toNat % 2 ^ 64 = lo.toNat := Nat.mod_eq_of_lt (by rw [q5c]; omega)
    refine ⟨⟨by omega, by omega⟩, ⟨by omega, by omega⟩, ?_⟩
    unfold numP
    rw [hm, hlo]
    omega
theorem qbqx {hi lo : Int} (u1 : uok hi) (u2 : uok lo) (k : Nat) (hk : k ≤ 128) :
    (qce .and .u64 hi (qlg k).1 = 0 ∧ qce .and .u64 lo (qlg k).2 = 0) ↔ numP hi lo % 2 ^ k = 0 := by
  obtain ⟨a1, a2⟩ := u1
  obtain ⟨b1, b2⟩ := u2
  rcases Nat.lt_or_ge k 65 with h | h
  · have e := qbkw ⟨k, h⟩
    simp only at e
    rw [e, qsm ⟨b1, b2⟩ k (by omega), qw2 ⟨a1, a2⟩]
    have hm := q9a hi.toNat lo.toNat k (by omega)
    unfold numP
    rw [hm]
    generalize lo.toNat % 2 ^ k = q
    constructor
    · rintro ⟨_, h⟩; omega
    · intro h; exact ⟨rfl, by omega⟩
  · obtain ⟨j, rfl⟩ : ∃ j, k = j + 64 := ⟨k - 64, by omega⟩
    have e := qbhx ⟨j, by omega⟩
    simp only at e
    rw [e, qsm ⟨a1, a2⟩ j (by omega), qsm ⟨b1, b2⟩ 64 (by omega)]
    have hm := qbgw hi.toNat lo.toNat j (by omega)
    have hlo : lo.toNat % 2 ^ 64 = lo.toNat := Nat.mod_eq_of_lt (by rw [q5c]; omega)
    unfold numP
    rw [hm, hlo]
    constructor
    · rintro ⟨h1, h2⟩
      have : hi.toNat % 2 ^ j = 0 := by omega
      rw [this]; omega
    · intro h1
      revert h1
      generalize hi.toNat % 2 ^ j = q
      intro h1
      have h4 : q = 0 := by omega
      have h5 : lo.toNat = 0 := by omega
      exact ⟨by omega, by omega⟩
theorem qbkx {hi lo hi' lo' : Int} (u1 : uok hi) (u2 : uok lo) (u3 : uok hi') (u4 : uok lo') (h : numP hi lo = numP hi' lo') : hi = hi' ∧ lo = lo' := by
  unfold numP at h
  unfold uok at *
  omega
theorem qvb {v6 : Bool} {hi lo bits : Int} (u1 : uok hi) (u2 : uok lo) : qf2 v6 hi lo bits = true ↔ qm7 v6 hi lo = true ∧ 0 ≤ bits ∧ bits ≤ qt v6 ∧ numP hi lo % 2 ^ kOf v6 bits = 0 := by
  by_cases h : 0 ≤ bits
  · have hl := qkj v6
    have := qbqx u1 u2 (kOf v6 bits) (by unfold kOf; omega)
    unfold qf2
    simp only [Bool.and_eq_true, decide_eq_true_eq, beq_iff_eq]
    unfold kOf at *
    rw [← this]
    constructor
    · rintro ⟨⟨⟨⟨a, b⟩, c⟩, d⟩, e⟩; exact ⟨a, b, c, d, e⟩
    · rintro ⟨a, b, c, d, e⟩; exact ⟨⟨⟨⟨a, b⟩, c⟩, d⟩, e⟩
  · unfold qf2
    simp [h]
theorem qboj {v6 : Bool} {hi lo bits : Int} {w6 : Bool} {ahi alo : Int} (h1 : uok hi) (h2 : uok lo) (u1 : uok ahi) (u2 : uok alo) :
    q9q v6 hi lo bits w6 ahi alo = true ↔ qf2 v6 hi lo bits = true ∧ qm7 w6 ahi alo = true ∧ v6 = w6 ∧ numP hi lo = numP ahi alo - numP ahi alo % 2 ^ kOf v6 bits := by
  unfold q9q
  simp only [Bool.and_eq_true, beq_iff_eq]
  constructor
  · rintro ⟨a, b, c, d, e⟩
    refine ⟨a, b, c, ?_⟩
    obtain ⟨r1, r2, _⟩ := qfr a
    have hl := qkj v6
    obtain ⟨_, _, h⟩ := qbmd u1 u2 (kOf v6 bits) (by unfold kOf; omega)
    unfold kOf at h
    rw [d, e] at h
    exact h
  · rintro ⟨a, b, c, d⟩
    refine ⟨a, b, c, ?_⟩
    obtain ⟨r1, r2, _⟩ := qfr a
    have hl := qkj v6
    obtain ⟨k1, k2, h⟩ := qbmd u1 u2 (kOf v6 bits) (by unfold kOf; omega)
    rw [← d] at h
    obtain ⟨e1, e2⟩ := qbkx k1 k2 h1 h2 h
    exact ⟨e1, e2⟩
structure Np where
  v : Bool
  n : Nat
  k : Nat
def Np.ok (p : Np) : Prop := p.n % 2 ^ p.k = 0
def Np.sub (p q : Np) : Prop := p.v = q.v ∧ p.k ≤ q.k ∧ p.n - p.n % 2 ^ q.k = q.n
theorem q9s {a b : Nat} (h : a ≤ b) : 2 ^ a ∣ 2 ^ b := Nat.pow_dvd_pow 2 h
theorem qbme {n a b : Nat} (h : a ≤ b) : (n - n % 2 ^ a) - (n - n % 2 ^ a) % 2 ^ b = n - n % 2 ^ b := by
  have h0 := Nat.two_pow_pos a
  have h1 := Nat.two_pow_pos b
  obtain ⟨c, hc⟩ := q9s h
  have e1 : n - n % 2 ^ a = 2 ^ a * (n / 2 ^ a) := by have := Nat.div_add_mod n (2 ^ a); omega
  have e2 : ∀ m, m - m % 2 ^ b = 2 ^ b * (m / 2 ^ b) := fun m => by have := Nat.div_add_mod m (2 ^ b); omega
  rw [e2, e2 n]
  congr 1
  rw [e1, hc, ← Nat.div_div_eq_div_mul, ← Nat.div_div_eq_div_mul, Nat.mul_div_cancel_left _ h0]
theorem Np.sub_refl {p : Np} (h : p.ok) : p.sub p := ⟨rfl, Nat.le_refl _, by unfold Np.ok at h; rw [h]; rfl⟩
theorem Np.sub_trans {p q r : Np} (h1 : p.sub q) (h2 : q.sub r) : p.sub r := by
  obtain ⟨a1, a2, a3⟩ := h1
  obtain ⟨b1, b2, b3⟩ := h2
  refine ⟨a1.trans b1, Nat.le_trans a2 b2, ?_⟩
  rw [← b3, ← a3, qbme b2]
theorem Np.sub_antisymm {p q : Np} (hp : p.ok) (h1 : p.sub q) (h2 : q.sub p) : p = q := by
  obtain ⟨a1, a2, a3⟩ := h1
  obtain ⟨b1, b2, b3⟩ := h2
  have hk : p.k = q.k := Nat.le_antisymm a2 b2
  have hn : p.n = q.n := by
    unfold Np.ok at hp
    rw [← hk, hp] at a3
    exact a3
  cases p; cases q; simp only at *
  subst a1 hk hn
  rfl
theorem Np.nest {p q r : Np} (h1 : p.sub q) (h2 : p.sub r) (h : q.k ≤ r.k) : q.sub r := by
  obtain ⟨a1, a2, a3⟩ := h1
  obtain ⟨b1, b2, b3⟩ := h2
  exact ⟨a1.symm.trans b1, h, by rw [← a3, qbme h]; exact b3⟩
end Go.Proofs.Ytmfghgaboaocgaa.Dn
