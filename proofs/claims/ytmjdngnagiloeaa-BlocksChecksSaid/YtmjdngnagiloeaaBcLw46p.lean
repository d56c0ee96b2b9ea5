/- Parts and halves of prefixes, the program's and the reference's. -/
import Derived.Test.YtmjdngnagiloeaaBcLw46d
set_option linter.all false
namespace Go.Proofs.Ytmjdngnagiloeaa.Dn
open Go Go.Pev
set_option linter.unusedVariables false
set_option linter.unusedSimpArgs false
set_option maxRecDepth 4000
theorem or_zero' {x : Int} (h : uok x) : ibits .or .u64 x 0 = x := by
  have := add_or h (y := 0) ⟨by omega, by omega⟩ (ib_and_zero h)
  omega
def shl1 (p : Int × Int) : Int × Int := (IntKind.u64.wrap (IntKind.u64.wrap (p.1 * 2) + IntKind.u64.wrap (p.2.tdiv 9223372036854775808)), IntKind.u64.wrap (p.2 * 2))
def shlN : Nat → Int × Int → Int × Int
  | 0, p => p
  | n + 1, p => shlN n (shl1 p)
theorem shl_low : ∀ n : Fin 64, shlN n (0, 1) = (0, ((2 ^ n.val : Nat) : Int)) := by decide +kernel
theorem shl_high : ∀ n : Fin 64, shlN (n.val + 64) (0, 1) = (((2 ^ n.val : Nat) : Int), 0) := by decide +kernel
theorem shl_uok : ∀ n : Fin 128, (0 ≤ (shlN n (0, 1)).1 ∧ (shlN n (0, 1)).1 ≤ 18446744073709551615) ∧ (0 ≤ (shlN n (0, 1)).2 ∧ (shlN n (0, 1)).2 ≤ 18446744073709551615) := by decide +kernel
theorem shl_num {n : Nat} (h : n < 128) : numP (shlN n (0, 1)).1 (shlN n (0, 1)).2 = 2 ^ n := by
  unfold numP
  rcases Nat.lt_or_ge n 64 with h1 | h1
  · rw [shl_low ⟨n, h1⟩]
    show (0 : Int).toNat * 18446744073709551616 + (((2 ^ n : Nat) : Int)).toNat = 2 ^ n
    rw [Int.toNat_natCast]
    simp
  · obtain ⟨j, rfl⟩ : ∃ j, n = j + 64 := ⟨n - 64, by omega⟩
    rw [shl_high ⟨j, by omega⟩, Nat.pow_add, two64]
    show (((2 ^ j : Nat) : Int)).toNat * 18446744073709551616 + (0 : Int).toNat = _
    rw [Int.toNat_natCast]
    simp
def zeroP : AV := mkP false 0 0 0
def partOk (v : Bool) (hi lo bits n : Int) : Bool := prefOk v hi lo bits && (decide (bits ≤ n) && decide (n ≤ longOf v))
theorem partOk_of {v : Bool} {hi lo bits n : Int} (h : partOk v hi lo bits n = true) : prefOk v hi lo bits = true ∧ 0 ≤ bits ∧ bits ≤ n ∧ n ≤ longOf v ∧ n ≤ 128 := by
  unfold partOk at h
  simp only [Bool.and_eq_true, decide_eq_true_eq] at h
  have h1 := prefOk_range h.1
  have := long_le v
  exact ⟨h.1, h1.1, h.2.1, h.2.2, by omega⟩
theorem p_pPartJ {v : Bool} {hi lo bits n i : Int} (c0 : Bool) (c1 c2 c3 : Int) (kn : Bool → Option (AV × Bool)) : qlk n i v hi lo bits c0 c1 c2 c3 kn = kn (!partOk v hi lo bits n) := by
  rw [qvy]; unfold qqo partOk
  simp only [p_pValid, p_length, oB_s]
  have e1 : decide (n < bits) = !decide (bits ≤ n) := by rw [Bool.eq_iff_iff]; simp
  have e2 : decide (n > longOf v) = !decide (n ≤ longOf v) := by rw [Bool.eq_iff_iff]; simp
  rw [e1, e2]
  cases prefOk v hi lo bits <;> cases decide (bits ≤ n) <;> rfl
theorem p_pPart0 {v : Bool} {hi lo bits n : Int} (u1 : uok hi) (u2 : uok lo) : qkw v hi lo bits n 0 = some (bif partOk v hi lo bits n then (mkP v hi lo n, true) else (zeroP, false)) := by
  rw [qto]; unfold qpx
  rw [p_pPartJ]
  cases hp : partOk v hi lo bits n with
  | false => rfl
  | true =>
    obtain ⟨h1, h2, h3, h4, h5⟩ := partOk_of hp
    have hw : IntKind.i64.wrap (n - bits) = n - bits := w64 (by omega) (by omega)
    have hw2 : IntKind.i64.wrap (longOf v - n) = longOf v - n := w64 (by have := long_le v; omega) (by have := long_le v; omega)
    have hu : IntKind.u64.wrap (n - bits) = n - bits := wu64 (by omega) (by omega)
    have hu2 : IntKind.u64.wrap (longOf v - n) = longOf v - n := wu64 (by omega) (by have := long_le v; omega)
    have a0 : ¬ n - bits < 0 := by omega
    simp only [Bool.not_true, cond_f, cond_t, hw, qn9, qk2, hu, a0, decide_false, Int.zero_fdiv, bne_self_eq_false, p_length, oB_s, hw2, hu2]
    have fin : (bif decide (n - bits < 64) then qgd n 0 (longOf v - n) 0 0 v hi lo bits false 0 0 0 (fun a b => some (mkP v (ibits .or .u64 hi a) (ibits .or .u64 lo b) n, true)) else qgd n 0 (longOf v - n) 0 0 v hi lo bits false 0 0 0 (fun a b => some (mkP v (ibits .or .u64 hi a) (ibits .or .u64 lo b) n, true))) = some (mkP v hi lo n, true) := by
      have e : qgd n 0 (longOf v - n) 0 0 v hi lo bits false 0 0 0 (fun a b => some (mkP v (ibits .or .u64 hi a) (ibits .or .u64 lo b) n, true)) = some (mkP v hi lo n, true) := by
        rw [qoa]; unfold qk4
        have q0 : IntKind.u64.wrap 0 = 0 := by decide
        have hnn : ∀ x, ¬ IntKind.u64.wrap x < 0 := fun x => by
          have : 0 ≤ IntKind.u64.wrap x := by simp [IntKind.wrap, IntKind.signed]; omega
          omega
        have a1 : ¬ longOf v - n < 0 := by omega
        simp only [Int.zero_mul, Int.zero_fdiv, q0, hnn, a1, decide_false, cond_f, or_zero' u1, or_zero' u2]
        cases decide (longOf v - n ≥ 64) <;> cases decide (longOf v - n > 0) <;> rfl
      rw [e]; cases decide (n - bits < 64) <;> rfl
    exact fin
def halfOk (v : Bool) (hi lo bits : Int) : Bool := prefOk v hi lo bits && decide (bits < longOf v)
def bitP (v : Bool) (bits : Int) : Int × Int := shlN (longOf v - bits - 1).toNat (0, 1)
def lowP (v : Bool) (hi lo bits : Int) : AV := mkP v hi lo (bits + 1)
def highP (v : Bool) (hi lo bits : Int) : AV := mkP v (ibits .or .u64 hi (bitP v bits).1) (ibits .or .u64 lo (bitP v bits).2) (bits + 1)
def halvesF (v : Bool) (hi lo bits : Int) : AV × AV × Bool := bif halfOk v hi lo bits then (lowP v hi lo bits, highP v hi lo bits, true) else (zeroP, zeroP, false)
theorem halfOk_of {v : Bool} {hi lo bits : Int} (h : halfOk v hi lo bits = true) : prefOk v hi lo bits = true ∧ 0 ≤ bits ∧ bits < longOf v ∧ bits < 128 := by
  unfold halfOk at h
  simp only [Bool.and_eq_true, decide_eq_true_eq] at h
  have := long_le v
  exact ⟨h.1, (prefOk_range h.1).1, h.2, by omega⟩
theorem bitP_uok {v : Bool} {bits : Int} (h0 : 0 ≤ bits) (h : bits < longOf v) : uok (bitP v bits).1 ∧ uok (bitP v bits).2 := by
  have := long_le v
  exact shl_uok ⟨(longOf v - bits - 1).toNat, by omega⟩
theorem half_part {v : Bool} {hi lo bits : Int} : partOk v hi lo bits (IntKind.i64.wrap (bits + 1)) = halfOk v hi lo bits := by
  unfold partOk halfOk
  cases hp : prefOk v hi lo bits with
  | false => rfl
  | true =>
    obtain ⟨h1, h2, _⟩ := prefOk_range hp
    have := long_le v
    rw [w64 (by omega) (by omega)]
    simp only [Bool.true_and]
    have : bits ≤ bits + 1 := by omega
    simp [this]
    omega
theorem bit_free {v : Bool} {hi lo bits : Int} (h : halfOk v hi lo bits = true) (u1 : uok hi) (u2 : uok lo) : ibits .and .u64 hi (bitP v bits).1 = 0 ∧ ibits .and .u64 lo (bitP v bits).2 = 0 := by
  obtain ⟨h1, h2, h3, h4⟩ := halfOk_of h
  obtain ⟨_, _, _, h5⟩ := (prefOk_iff u1 u2).1 h1
  have hl := long_le v
  obtain ⟨k, hk⟩ : ∃ k, kOf v bits = k + 1 := ⟨(longOf v - bits - 1).toNat, by unfold kOf; omega⟩
  have hk2 : (longOf v - bits - 1).toNat = k := by unfold kOf at hk; omega
  have hk3 : k < 128 := by omega
  unfold bitP
  rw [hk2]
  rw [hk] at h5
  obtain ⟨a1, a2⟩ := u1
  obtain ⟨b1, b2⟩ := u2
  have mask : ∀ {x : Int} (j : Nat), uok x → j < 64 → x.toNat % 2 ^ (j + 1) = 0 → ibits .and .u64 x ((2 ^ j : Nat) : Int) = 0 := by
    intro x j hx hj hm
    have hp : (2 : Nat) ^ j < 2 ^ 64 := Nat.pow_lt_pow_right (by decide) hj
    have h0 : 0 < (2 : Nat) ^ j := Nat.two_pow_pos j
    rw [ib_and]
    have e1 := bv_of hx
    have e2 := bv_of (x := ((2 ^ j : Nat) : Int)) ⟨by omega, by rw [two64] at hp; omega⟩
    rw [BitVec.toNat_and]
    have e3 : (BitVec.ofInt 64 x).toNat = x.toNat := by omega
    have e4 : (BitVec.ofInt 64 ((2 ^ j : Nat) : Int)).toNat = 2 ^ j := by omega
    rw [e3, e4]
    have : x.toNat.testBit j = false := by
      rw [Nat.testBit_eq_decide_div_mod_eq]
      have h6 : x.toNat / 2 ^ j % 2 = 0 := by
        rw [Nat.pow_succ, ] at hm
        have := Nat.mod_mul_right_div_self x.toNat (2 ^ j) 2
        rw [hm] at this
        simpa using this.symm
      simp [h6]
    have h7 : x.toNat &&& 2 ^ j = 0 := by
      refine Nat.eq_of_testBit_eq fun i => ?_
      rw [Nat.testBit_and, Nat.testBit_two_pow]
      by_cases hij : j = i
      · subst hij; simp [this]
      · simp [hij]
    rw [h7]; rfl
  rcases Nat.lt_or_ge k 64 with h6 | h6
  · rw [shl_low ⟨k, h6⟩]
    refine ⟨ib_and_zero ⟨a1, a2⟩, mask k ⟨b1, b2⟩ h6 ?_⟩
    have := mod_small hi.toNat lo.toNat (k + 1) (by omega)
    unfold numP at h5
    omega
  · obtain ⟨j, rfl⟩ : ∃ j, k = j + 64 := ⟨k - 64, by omega⟩
    rw [shl_high ⟨j, by omega⟩]
    refine ⟨mask j ⟨a1, a2⟩ (by omega) ?_, ib_and_zero ⟨b1, b2⟩⟩
    have := mod_big hi.toNat lo.toNat (j + 1) (by omega)
    unfold numP at h5
    rw [show j + 64 + 1 = j + 1 + 64 by omega, this] at h5
    revert h5
    generalize hi.toNat % 2 ^ (j + 1) = q
    omega
theorem p_pPart1 {v : Bool} {hi lo bits : Int} (h : halfOk v hi lo bits = true) : qkw v hi lo bits (bits + 1) 1 = some (highP v hi lo bits, true) := by
  obtain ⟨h1, h2, h3, h4⟩ := halfOk_of h
  have hw0 : IntKind.i64.wrap (bits + 1) = bits + 1 := w64 (by omega) (by omega)
  have hp := half_part (v := v) (hi := hi) (lo := lo) (bits := bits)
  rw [hw0, h] at hp
  rw [qto]; unfold qpx
  rw [p_pPartJ, hp]
  have hl := long_le v
  have e1 : IntKind.i64.wrap (bits + 1 - bits) = 1 := by rw [w64 (by omega) (by omega)]; omega
  have e2 : IntKind.i64.wrap (longOf v - (bits + 1)) = longOf v - bits - 1 := by rw [w64 (by omega) (by omega)]; omega
  have e3 : IntKind.u64.wrap (longOf v - bits - 1) = longOf v - bits - 1 := wu64 (by omega) (by omega)
  simp only [Bool.not_true, cond_f, e1, qn9, qk2, p_length, oB_s, e2, e3]
  rw [show decide ((1 : Int) < 64) = true by decide, show decide (IntKind.u64.wrap 1 < 0) = false by decide, show ((1 : Int).fdiv (2 ^ min (IntKind.u64.wrap 1).toNat IntKind.u64.bits) != 0) = false by decide]
  simp only [cond_t, cond_f]
  rw [qoa]; unfold qk4
  obtain ⟨k, hk⟩ : ∃ k : Nat, longOf v - bits - 1 = k := ⟨(longOf v - bits - 1).toNat, by omega⟩
  have hk3 : k < 128 := by omega
  unfold highP bitP
  rw [hk, Int.toNat_natCast]
  rcases Nat.lt_or_ge k 64 with h6 | h6
  · have a1 : ¬ (k : Int) ≥ 64 := by omega
    rw [shl_low ⟨k, h6⟩]
    simp only [a1, decide_false, cond_f]
    by_cases hk0 : k = 0
    · subst hk0; rfl
    · have a2 : (k : Int) > 0 := by omega
      have a3 : ¬ (k : Int) < 0 := by omega
      have fin : ∀ j : Fin 64, j.val ≠ 0 → ¬ IntKind.u64.wrap (64 - (j.val : Int)) < 0 ∧ (1 : Int).fdiv (2 ^ min (IntKind.u64.wrap (64 - (j.val : Int))).toNat IntKind.u64.bits) = 0 ∧ IntKind.u64.wrap (1 * 2 ^ min j.val IntKind.u64.bits) = ((2 ^ j.val : Nat) : Int) := by decide +kernel
      obtain ⟨f1, f2, f3⟩ := fin ⟨k, h6⟩ hk0
      simp only at f1 f2 f3
      simp only [a2, decide_true, cond_t, a3, decide_false, cond_f, f1, f2, f3]
      rfl
  · obtain ⟨j, rfl⟩ : ∃ j, k = j + 64 := ⟨k - 64, by omega⟩
    have a1 : ((j + 64 : Nat) : Int) ≥ 64 := by omega
    rw [shl_high ⟨j, by omega⟩]
    have fin : ∀ j : Fin 64, ¬ IntKind.u64.wrap (((j.val + 64 : Nat) : Int) - 64) < 0 ∧ IntKind.u64.wrap (1 * 2 ^ min (IntKind.u64.wrap (((j.val + 64 : Nat) : Int) - 64)).toNat IntKind.u64.bits) = ((2 ^ j.val : Nat) : Int) := by decide +kernel
    obtain ⟨f1, f2⟩ := fin ⟨j, by omega⟩
    simp only at f1 f2
    simp only [a1, decide_true, cond_t, f1, f2, decide_false, cond_f]
    rfl
theorem p_pHalves (v : Bool) (hi lo bits : Int) (u1 : uok hi) (u2 : uok lo) : qiv v hi lo bits = some (halvesF v hi lo bits) := by
  rw [qw3]; unfold qr7 halvesF
  rw [p_pPart0 u1 u2, half_part]
  simp only [qs2, qob, p_pValid, oB_s]
  cases hh : halfOk v hi lo bits with
  | false => rfl
  | true =>
    obtain ⟨h1, h2, h3, h4⟩ := halfOk_of hh
    have hw : IntKind.i64.wrap (bits + 1) = bits + 1 := w64 (by omega) (by omega)
    simp only [cond_t, Bool.not_true, cond_f, h1, hw, p_pPart1 hh, oB_s]
    rfl
theorem high_num {v : Bool} {hi lo bits : Int} (h : halfOk v hi lo bits = true) (u1 : uok hi) (u2 : uok lo) :
    numP (ibits .or .u64 hi (bitP v bits).1) (ibits .or .u64 lo (bitP v bits).2) = numP hi lo + 2 ^ kOf v (bits + 1) := by
  obtain ⟨h1, h2, h3, h4⟩ := halfOk_of h
  obtain ⟨o1, o2⟩ := bitP_uok h2 h3
  obtain ⟨f1, f2⟩ := bit_free h u1 u2
  have hl := long_le v
  have hk : kOf v (bits + 1) = (longOf v - bits - 1).toNat := by unfold kOf; congr 1; omega
  rw [← add_or u1 o1 f1, ← add_or u2 o2 f2, hk, ← shl_num (n := (longOf v - bits - 1).toNat) (by omega)]
  unfold bitP at o1 o2 ⊢
  unfold numP
  obtain ⟨a1, a2⟩ := u1
  obtain ⟨b1, b2⟩ := u2
  obtain ⟨c1, c2⟩ := o1
  obtain ⟨d1, d2⟩ := o2
  rw [Int.toNat_add a1 c1, Int.toNat_add b1 d1]
  omega
end Go.Proofs.Ytmjdngnagiloeaa.Dn
