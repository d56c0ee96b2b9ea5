/- Prefixes as numbers: where they begin, and how many bits are left. -/
import Derived.Test.YtmfghgaboaocgaaChLw46k
set_option linter.all false
namespace Go.Proofs.Ytmfghgaboaocgaa.Dn
open Go Go.Pev
set_option linter.unusedVariables false
set_option linter.unusedSimpArgs false
set_option maxRecDepth 4000
def numP (hi lo : Int) : Nat := hi.toNat * 18446744073709551616 + lo.toNat
def kOf (v6 : Bool) (bits : Int) : Nat := (qn v6 - bits).toNat
theorem qbgn : (2 : Nat) ^ 64 = 18446744073709551616 := by decide
theorem qb01 (x j : Nat) : x &&& (2 ^ j - 1) = x % 2 ^ j := Nat.and_two_pow_sub_one_eq_mod x j
theorem qx5 {x : Int} (h : uok x) (j : Nat) (hj : j ≤ 64) : qbx .and .u64 x ((2 ^ j - 1 : Nat) : Int) = ((x.toNat % 2 ^ j : Nat) : Int) := by
  rw [qbmn]
  congr 1
  have e1 := q7s h
  have hp : (2 : Nat) ^ j ≤ 2 ^ 64 := Nat.pow_le_pow_right (by decide) hj
  have h0 : 0 < (2 : Nat) ^ j := Nat.two_pow_pos j
  have e2 := q7s (x := ((2 ^ j - 1 : Nat) : Int)) ⟨by omega, by rw [qbgn] at hp; omega⟩
  rw [BitVec.toNat_and]
  have e3 : (BitVec.ofInt 64 x).toNat = x.toNat := by omega
  have e4 : (BitVec.ofInt 64 ((2 ^ j - 1 : Nat) : Int)).toNat = 2 ^ j - 1 := by omega
  rw [e3, e4]
  exact qb01 _ _
theorem q39 {x : Int} (h : uok x) (j : Nat) (hj : j ≤ 64) : qbx .andNot .u64 x ((2 ^ j - 1 : Nat) : Int) = ((x.toNat - x.toNat % 2 ^ j : Nat) : Int) := by
  have h1 := qx5 h j hj
  rw [qbmn] at h1
  rw [qbmo]
  have h2 := q7t (BitVec.ofInt 64 x) (BitVec.ofInt 64 ((2 ^ j - 1 : Nat) : Int))
  have h3 := q7s h
  have h4 : x.toNat % 2 ^ j ≤ x.toNat := Nat.mod_le _ _
  omega
theorem qb02 : ∀ n : Fin 65, qfd n = (0, ((2 ^ n.val - 1 : Nat) : Int)) := by decide +kernel
theorem qbxu : ∀ n : Fin 65, qfd (n.val + 64) = (((2 ^ n.val - 1 : Nat) : Int), ((2 ^ 64 - 1 : Nat) : Int)) := by decide +kernel
theorem q4j {x : Int} (h : uok x) : qbx .and .u64 x 0 = 0 := by
  have := qx5 h 0 (by omega)
  simpa [Nat.mod_one] using this
theorem qbms (hi lo k : Nat) (hk : k ≤ 64) : (hi * 18446744073709551616 + lo) % 2 ^ k = lo % 2 ^ k := by
  have : 18446744073709551616 = 2 ^ k * 2 ^ (64 - k) := by rw [← Nat.pow_add, ← qbgn]; congr 1; omega
  rw [this, show hi * (2 ^ k * 2 ^ (64 - k)) + lo = lo + 2 ^ k * (hi * 2 ^ (64 - k)) by rw [Nat.add_comm]; congr 1; rw [Nat.mul_left_comm], Nat.add_mul_mod_self_left]
theorem qbwt (hi lo j : Nat) (hl : lo < 18446744073709551616) : (hi * 18446744073709551616 + lo) % 2 ^ (j + 64) = hi % 2 ^ j * 18446744073709551616 + lo := by
  have h0 : 0 < (2 : Nat) ^ j := Nat.two_pow_pos j
  have h1 := Nat.div_add_mod hi (2 ^ j)
  have h2 := Nat.mod_lt hi h0
  rw [Nat.pow_add, qbgn]
  have e : hi * 18446744073709551616 + lo = (hi % 2 ^ j * 18446744073709551616 + lo) + 2 ^ j * 18446744073709551616 * (hi / 2 ^ j) := by
    calc hi * 18446744073709551616 + lo = (2 ^ j * (hi / 2 ^ j) + hi % 2 ^ j) * 18446744073709551616 + lo := by rw [h1]
      _ = _ := by rw [Nat.add_mul]; rw [show 2 ^ j * (hi / 2 ^ j) * 18446744073709551616 = 2 ^ j * 18446744073709551616 * (hi / 2 ^ j) by rw [Nat.mul_right_comm]]; omega
  rw [e, Nat.add_mul_mod_self_left]
  refine Nat.mod_eq_of_lt ?_
  have h3 : (hi % 2 ^ j + 1) * 18446744073709551616 ≤ 2 ^ j * 18446744073709551616 := Nat.mul_le_mul_right _ h2
  rw [Nat.add_mul] at h3
  omega
theorem qb2m {hi lo : Int} (u1 : uok hi) (u2 : uok lo) (k : Nat) (hk : k ≤ 128) :
    uok (qbx .andNot .u64 hi (qfd k).1) ∧ uok (qbx .andNot .u64 lo (qfd k).2) ∧ numP (qbx .andNot .u64 hi (qfd k).1) (qbx .andNot .u64 lo (qfd k).2) = numP hi lo - numP hi lo % 2 ^ k := by
  obtain ⟨a1, a2⟩ := u1
  obtain ⟨b1, b2⟩ := u2
  rcases Nat.lt_or_ge k 65 with h | h
  · have e := qb02 ⟨k, h⟩
    simp only at e
    rw [e, q39 ⟨b1, b2⟩ k (by omega), qb11 ⟨a1, a2⟩]
    have hm := qbms hi.toNat lo.toNat k (by omega)
    have hle := Nat.mod_le lo.toNat (2 ^ k)
    refine ⟨⟨a1, a2⟩, ⟨by omega, by omega⟩, ?_⟩
    unfold numP
    rw [hm]
    omega
  · obtain ⟨j, rfl⟩ : ∃ j, k = j + 64 := ⟨k - 64, by omega⟩
    have e := qbxu ⟨j, by omega⟩
    simp only at e
    rw [e, q39 ⟨a1, a2⟩ j (by omega), q39 ⟨b1, b2⟩ 64 (by omega)]
    have hm := qbwt hi.toNat lo.toNat j (by omega)
    have hle := Nat.mod_le hi.toNat (2 ^ j)
    have hlo : lo.toNat % 2 ^ 64 = lo.toNat := Nat.mod_eq_of_lt (by rw [qbgn]; omega)
    refine ⟨⟨by omega, by omega⟩, ⟨by omega, by omega⟩, ?_⟩
    unfold numP
    rw [hm, hlo]
    omega
theorem qb7c {hi lo : Int} (u1 : uok hi) (u2 : uok lo) (k : Nat) (hk : k ≤ 128) :
    (qbx .and .u64 hi (qfd k).1 = 0 ∧ qbx .and .u64 lo (qfd k).2 = 0) ↔ numP hi lo % 2 ^ k = 0 := by
  obtain ⟨a1, a2⟩ := u1
  obtain ⟨b1, b2⟩ := u2
  rcases Nat.lt_or_ge k 65 with h | h
  · have e := qb02 ⟨k, h⟩
    simp only at e
    rw [e, qx5 ⟨b1, b2⟩ k (by omega), q4j ⟨a1, a2⟩]
    have hm := qbms hi.toNat lo.toNat k (by omega)
    unfold numP
    rw [hm]
    generalize lo.toNat % 2 ^ k = q
    constructor
    · rintro ⟨_, h⟩; omega
    · intro h; exact ⟨rfl, by omega⟩
  · obtain ⟨j, rfl⟩ : ∃ j, k = j + 64 := ⟨k - 64, by omega⟩
    have e := qbxu ⟨j, by omega⟩
    simp only at e
    rw [e, qx5 ⟨a1, a2⟩ j (by omega), qx5 ⟨b1, b2⟩ 64 (by omega)]
    have hm := qbwt hi.toNat lo.toNat j (by omega)
    have hlo : lo.toNat % 2 ^ 64 = lo.toNat := Nat.mod_eq_of_lt (by rw [qbgn]; omega)
    unfold numP
    rw [hm, hlo]
    constructor
    · rintro ⟨h1, h2⟩
      have : hi.toNat % 2 ^ j = 0 := by omega
      rw [this]; omega
    · intro h1
      revert h1
      generalize hi.toNat % 2 ^ j = q
      intro h1
      have h4 : q = 0 := by omega
      have h5 : lo.toNat = 0 := by omega
      exact ⟨by omega, by omega⟩
theorem qb5q {hi lo hi' lo' : Int} (u1 : uok hi) (u2 : uok lo) (u3 : uok hi') (u4 : uok lo') (h : numP hi lo = numP hi' lo') : hi = hi' ∧ lo = lo' := by
  unfold numP at h
  unfold uok at *
  omega
theorem q2c {v6 : Bool} {hi lo bits : Int} (u1 : uok hi) (u2 : uok lo) : qdy v6 hi lo bits = true ↔ qkh v6 hi lo = true ∧ 0 ≤ bits ∧ bits ≤ qn v6 ∧ numP hi lo % 2 ^ kOf v6 bits = 0 := by
  by_cases h : 0 ≤ bits
  · have hl := qhg v6
    have := qb7c u1 u2 (kOf v6 bits) (by unfold kOf; omega)
    unfold qdy
    simp only [Bool.and_eq_true, decide_eq_true_eq, beq_iff_eq]
    unfold kOf at *
    rw [← this]
    constructor
    · rintro ⟨⟨⟨⟨a, b⟩, c⟩, d⟩, e⟩; exact ⟨a, b, c, d, e⟩
    · rintro ⟨a, b, c, d, e⟩; exact ⟨⟨⟨⟨a, b⟩, c⟩, d⟩, e⟩
  · unfold qdy
    simp [h]
theorem qb4p {v6 : Bool} {hi lo bits : Int} {w6 : Bool} {ahi alo : Int} (h1 : uok hi) (h2 : uok lo) (u1 : uok ahi) (u2 : uok alo) :
    qbau v6 hi lo bits w6 ahi alo = true ↔ qdy v6 hi lo bits = true ∧ qkh w6 ahi alo = true ∧ v6 = w6 ∧ numP hi lo = numP ahi alo - numP ahi alo % 2 ^ kOf v6 bits := by
  unfold qbau
  simp only [Bool.and_eq_true, beq_iff_eq]
  constructor
  · rintro ⟨a, b, c, d, e⟩
    refine ⟨a, b, c, ?_⟩
    obtain ⟨r1, r2, _⟩ := qfo a
    have hl := qhg v6
    obtain ⟨_, _, h⟩ := qb2m u1 u2 (kOf v6 bits) (by unfold kOf; omega)
    unfold kOf at h
    rw [d, e] at h
    exact h
  · rintro ⟨a, b, c, d⟩
    refine ⟨a, b, c, ?_⟩
    obtain ⟨r1, r2, _⟩ := qfo a
    have hl := qhg v6
    obtain ⟨k1, k2, h⟩ := qb2m u1 u2 (kOf v6 bits) (by unfold kOf; omega)
    rw [← d] at h
    obtain ⟨e1, e2⟩ := qb5q k1 k2 h1 h2 h
    exact ⟨e1, e2⟩
structure Np where
  v : Bool
  n : Nat
  k : Nat
def Np.ok (p : Np) : Prop := p.n % 2 ^ p.k = 0
def Np.sub (p q : Np) : Prop := p.v = q.v ∧ p.k ≤ q.k ∧ p.n - p.n % 2 ^ q.k = q.n
theorem qbm9 {a b : Nat} (h : a ≤ b) : 2 ^ a ∣ 2 ^ b := Nat.pow_dvd_pow 2 h
theorem qb2n {n a b : Nat} (h : a ≤ b) : (n - n % 2 ^ a) - (n - n % 2 ^ a) % 2 ^ b = n - n % 2 ^ b := by
  have h0 := Nat.two_pow_pos a
  have h1 := Nat.two_pow_pos b
  obtain ⟨c, hc⟩ := qbm9 h
  have e1 : n - n % 2 ^ a = 2 ^ a * (n / 2 ^ a) := by have := Nat.div_add_mod n (2 ^ a); omega
  have e2 : ∀ m, m - m % 2 ^ b = 2 ^ b * (m / 2 ^ b) := fun m => by have := Nat.div_add_mod m (2 ^ b); omega
  rw [e2, e2 n]
  congr 1
  rw [e1, hc, ← Nat.div_div_eq_div_mul, ← Nat.div_div_eq_div_mul, Nat.mul_div_cancel_left _ h0]
theorem Np.sub_refl {p : Np} (h : p.ok) : p.sub p := ⟨rfl, Nat.le_refl _, by unfold Np.ok at h; rw [h]; rfl⟩
theorem Np.sub_trans {p q r : Np} (h1 : p.sub q) (h2 : q.sub r) : p.sub r := by
  obtain ⟨a1, a2, a3⟩ := h1
  obtain ⟨b1, b2, b3⟩ := h2
  refine ⟨a1.trans b1, Nat.le_trans a2 b2, ?_⟩
  rw [← b3, ← a3, qb2n b2]
theorem Np.nest {p q r : Np} (h1 : p.sub q) (h2 : p.sub r) (h : q.k ≤ r.k) : q.sub r := by
  obtain ⟨a1, a2, a3⟩ := h1
  obtain ⟨b1, b2, b3⟩ := h2
  exact ⟨a1.symm.trans b1, h, by rw [← a3, qb2n h]; exact b3⟩
end Go.Proofs.Ytmfghgaboaocgaa.Dn
