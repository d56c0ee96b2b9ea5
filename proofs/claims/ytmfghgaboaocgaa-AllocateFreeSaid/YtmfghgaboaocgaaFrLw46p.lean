/- Parts and halves of prefixes, the program's and the reference's. -/
import Derived.Test.YtmfghgaboaocgaaFrLw46d
set_option linter.all false
namespace Go.Proofs.Ytmfghgaboaocgaa.Dn
open Go Go.Pev
set_option linter.unusedVariables false
set_option linter.unusedSimpArgs false
set_option maxRecDepth 4000
theorem qbk2 {x : Int} (h : uok x) : qce .or .u64 x 0 = x := by
  have := qbkt h (y := 0) ⟨by omega, by omega⟩ (qw2 h)
  omega
def shl1 (p : Int × Int) : Int × Int := (IntKind.u64.wrap (IntKind.u64.wrap (p.1 * 2) + IntKind.u64.wrap (p.2.tdiv 9223372036854775808)), IntKind.u64.wrap (p.2 * 2))
def shlN : Nat → Int × Int → Int × Int
  | 0, p => p
  | n + 1, p => shlN n (shl1 p)
theorem qbgx : ∀ n : Fin 64, shlN n (0, 1) = (0, ((2 ^ n.val : Nat) : Int)) := by decide +kernel
theorem qbc8 : ∀ n : Fin 64, shlN (n.val + 64) (0, 1) = (((2 ^ n.val : Nat) : Int), 0) := by decide +kernel
theorem qbq1 : ∀ n : Fin 128, (0 ≤ (shlN n (0, 1)).1 ∧ (shlN n (0, 1)).1 ≤ 18446744073709551615) ∧ (0 ≤ (shlN n (0, 1)).2 ∧ (shlN n (0, 1)).2 ≤ 18446744073709551615) := by decide +kernel
theorem qbq2 {n : Nat} (h : n < 128) : numP (shlN n (0, 1)).1 (shlN n (0, 1)).2 = 2 ^ n := by
  unfold numP
  rcases Nat.lt_or_ge n 64 with h1 | h1
  · rw [qbgx ⟨n, h1⟩]
    show (0 : Int).toNat * 18446744073709551616 + (((2 ^ n : Nat) : Int)).toNat = 2 ^ n
    rw [Int.toNat_natCast]
    simp
  · obtain ⟨j, rfl⟩ : ∃ j, n = j + 64 := ⟨n - 64, by omega⟩
    rw [qbc8 ⟨j, by omega⟩, Nat.pow_add, q5c]
    show (((2 ^ j : Nat) : Int)).toNat * 18446744073709551616 + (0 : Int).toNat = _
    rw [Int.toNat_natCast]
    simp
def qri : AV := mkP false 0 0 0
def qsn (v : Bool) (hi lo bits n : Int) : Bool := qf2 v hi lo bits && (decide (bits ≤ n) && decide (n ≤ qt v))
theorem qbop {v : Bool} {hi lo bits n : Int} (h : qsn v hi lo bits n = true) : qf2 v hi lo bits = true ∧ 0 ≤ bits ∧ bits ≤ n ∧ n ≤ qt v ∧ n ≤ 128 := by
  unfold qsn at h
  simp only [Bool.and_eq_true, decide_eq_true_eq] at h
  have h1 := qfr h.1
  have := qkj v
  exact ⟨h.1, h1.1, h.2.1, h.2.2, by omega⟩
theorem qbk3 {v : Bool} {hi lo bits n i : Int} (c0 : Bool) (c1 c2 c3 : Int) (kn : Bool → Option (AV × Bool)) : qmp n i v hi lo bits c0 c1 c2 c3 kn = kn (!qsn v hi lo bits n) := by
  rw [qys]; unfold qs4 qsn
  simp only [q0p, q0o, oB_s]
  have e1 : decide (n < bits) = !decide (bits ≤ n) := by rw [Bool.eq_iff_iff]; simp
  have e2 : decide (n > qt v) = !decide (n ≤ qt v) := by rw [Bool.eq_iff_iff]; simp
  rw [e1, e2]
  cases qf2 v hi lo bits <;> cases decide (bits ≤ n) <;> rfl
theorem q5g {v : Bool} {hi lo bits n : Int} (u1 : uok hi) (u2 : uok lo) : qee v hi lo bits n 0 = some (bif qsn v hi lo bits n then (mkP v hi lo n, true) else (qri, false)) := by
  rw [qv6]; unfold qsq
  rw [qbk3]
  cases hp : qsn v hi lo bits n with
  | false => rfl
  | true =>
    obtain ⟨h1, h2, h3, h4, h5⟩ := qbop hp
    have hw : IntKind.i64.wrap (n - bits) = n - bits := w64 (by omega) (by omega)
    have hw2 : IntKind.i64.wrap (qt v - n) = qt v - n := w64 (by have := qkj v; omega) (by have := qkj v; omega)
    have hu : IntKind.u64.wrap (n - bits) = n - bits := wu64 (by omega) (by omega)
    have hu2 : IntKind.u64.wrap (qt v - n) = qt v - n := wu64 (by omega) (by have := qkj v; omega)
    have a0 : ¬ n - bits < 0 := by omega
    simp only [Bool.not_true, cond_f, cond_t, hw, qp9, qmb, hu, a0, decide_false, Int.zero_fdiv, bne_self_eq_false, q0o, oB_s, hw2, hu2]
    have fin : (bif decide (n - bits < 64) then qhg n 0 (qt v - n) 0 0 v hi lo bits false 0 0 0 (fun a b => some (mkP v (qce .or .u64 hi a) (qce .or .u64 lo b) n, true)) else qhg n 0 (qt v - n) 0 0 v hi lo bits false 0 0 0 (fun a b => some (mkP v (qce .or .u64 hi a) (qce .or .u64 lo b) n, true))) = some (mkP v hi lo n, true) := by
      have e : qhg n 0 (qt v - n) 0 0 v hi lo bits false 0 0 0 (fun a b => some (mkP v (qce .or .u64 hi a) (qce .or .u64 lo b) n, true)) = some (mkP v hi lo n, true) := by
        rw [qqa]; unfold qmd
        have q0 : IntKind.u64.wrap 0 = 0 := by decide
        have hnn : ∀ x, ¬ IntKind.u64.wrap x < 0 := fun x => by
          have : 0 ≤ IntKind.u64.wrap x := by simp [IntKind.wrap, IntKind.signed]; omega
          omega
        have a1 : ¬ qt v - n < 0 := by omega
        simp only [Int.zero_mul, Int.zero_fdiv, q0, hnn, a1, decide_false, cond_f, qbk2 u1, qbk2 u2]
        cases decide (qt v - n ≥ 64) <;> cases decide (qt v - n > 0) <;> rfl
      rw [e]; cases decide (n - bits < 64) <;> rfl
    exact fin
def qm9 (v : Bool) (hi lo bits : Int) : Bool := qf2 v hi lo bits && decide (bits < qt v)
def bitP (v : Bool) (bits : Int) : Int × Int := shlN (qt v - bits - 1).toNat (0, 1)
def lowP (v : Bool) (hi lo bits : Int) : AV := mkP v hi lo (bits + 1)
def q5h (v : Bool) (hi lo bits : Int) : AV := mkP v (qce .or .u64 hi (bitP v bits).1) (qce .or .u64 lo (bitP v bits).2) (bits + 1)
def q3l (v : Bool) (hi lo bits : Int) : AV × AV × Bool := bif qm9 v hi lo bits then (lowP v hi lo bits, q5h v hi lo bits, true) else (qri, qri, false)
theorem q1t {v : Bool} {hi lo bits : Int} (h : qm9 v hi lo bits = true) : qf2 v hi lo bits = true ∧ 0 ≤ bits ∧ bits < qt v ∧ bits < 128 := by
  unfold qm9 at h
  simp only [Bool.and_eq_true, decide_eq_true_eq] at h
  have := qkj v
  exact ⟨h.1, (qfr h.1).1, h.2, by omega⟩
theorem qbpp {v : Bool} {bits : Int} (h0 : 0 ≤ bits) (h : bits < qt v) : uok (bitP v bits).1 ∧ uok (bitP v bits).2 := by
  have := qkj v
  exact qbq1 ⟨(qt v - bits - 1).toNat, by omega⟩
theorem qbh2 {v : Bool} {hi lo bits : Int} : qsn v hi lo bits (IntKind.i64.wrap (bits + 1)) = qm9 v hi lo bits := by
  unfold qsn qm9
  cases hp : qf2 v hi lo bits with
  | false => rfl
  | true =>
    obtain ⟨h1, h2, _⟩ := qfr hp
    have := qkj v
    rw [w64 (by omega) (by omega)]
    simp only [Bool.true_and]
    have : bits ≤ bits + 1 := by omega
    simp [this]
    omega
theorem qbpq {v : Bool} {hi lo bits : Int} (h : qm9 v hi lo bits = true) (u1 : uok hi) (u2 : uok lo) : qce .and .u64 hi (bitP v bits).1 = 0 ∧ qce .and .u64 lo (bitP v bits).2 = 0 := by
  obtain ⟨h1, h2, h3, h4⟩ := q1t h
  obtain ⟨_, _, _, h5⟩ := (qvb u1 u2).1 h1
  have hl := qkj v
  obtain ⟨k, hk⟩ : ∃ k, kOf v bits = k + 1 := ⟨(qt v - bits - 1).toNat, by unfold kOf; omega⟩
  have hk2 : (qt v - bits - 1).toNat = k := by unfold kOf at hk; omega
  have hk3 : k < 128 := by omega
  unfold bitP
  rw [hk2]
  rw [hk] at h5
  obtain ⟨a1, a2⟩ := u1
  obtain ⟨b1, b2⟩ := u2
  have mask : ∀ {x : Int} (j : Nat), uok x → j < 64 → x.toNat % 2 ^ (j + 1) = 0 → qce .and .u64 x ((2 ^ j : Nat) : Int) = 0 := by
    intro x j hx hj hm
    have hp : (2 : Nat) ^ j < 2 ^ 64 := Nat.pow_lt_pow_right (by decide) hj
    have h0 : 0 < (2 : Nat) ^ j := Nat.two_pow_pos j
    rw [qbfa]
    have e1 := q1q hx
    have e2 := q1q (x := ((2 ^ j : Nat) : Int)) ⟨by omega, by rw [q5c] at hp; omega⟩
    rw [BitVec.toNat_and]
    have e3 : (BitVec.ofInt 64 x).toNat = x.toNat := by omega
    have e4 : (BitVec.ofInt 64 ((2 ^ j : Nat) : Int)).toNat = 2 ^ j := by omega
    rw [e3, e4]
    have : x.toNat.testBit j = false := by
      rw [Nat.testBit_eq_decide_div_mod_eq]
      have h6 : x.toNat / 2 ^ j % 2 = 0 := by
        rw [Nat.pow_succ, ] at hm
        have := Nat.mod_mul_right_div_self x.toNat (2 ^ j) 2
        rw [hm] at this
        simpa using this.symm
      simp [h6]
    have h7 : x.toNat &&& 2 ^ j = 0 := by
      refine Nat.eq_of_testBit_eq fun i => ?_
      rw [Nat.testBit_and, Nat.testBit_two_pow]
      by_cases hij : j = i
      · subst hij; simp [this]
      · simp [hij]
    rw [h7]; rfl
  rcases Nat.lt_or_ge k 64 with h6 | h6
  · rw [qbgx ⟨k, h6⟩]
    refine ⟨qw2 ⟨a1, a2⟩, mask k ⟨b1, b2⟩ h6 ?_⟩
    have := q9a hi.toNat lo.toNat (k + 1) (by omega)
    unfold numP at h5
    omega
  · obtain ⟨j, rfl⟩ : ∃ j, k = j + 64 := ⟨k - 64, by omega⟩
    rw [qbc8 ⟨j, by omega⟩]
    refine ⟨mask j ⟨a1, a2⟩ (by omega) ?_, qw2 ⟨b1, b2⟩⟩
    have := qbgw hi.toNat lo.toNat (j + 1) (by omega)
    unfold numP at h5
    rw [show j + 64 + 1 = j + 1 + 64 by omega, this] at h5
    revert h5
    generalize hi.toNat % 2 ^ (j + 1) = q
    omega
theorem qbpr {v : Bool} {hi lo bits : Int} (h : qm9 v hi lo bits = true) : qee v hi lo bits (bits + 1) 1 = some (q5h v hi lo bits, true) := by
  obtain ⟨h1, h2, h3, h4⟩ := q1t h
  have hw0 : IntKind.i64.wrap (bits + 1) = bits + 1 := w64 (by omega) (by omega)
  have hp := qbh2 (v := v) (hi := hi) (lo := lo) (bits := bits)
  rw [hw0, h] at hp
  rw [qv6]; unfold qsq
  rw [qbk3, hp]
  have hl := qkj v
  have e1 : IntKind.i64.wrap (bits + 1 - bits) = 1 := by rw [w64 (by omega) (by omega)]; omega
  have e2 : IntKind.i64.wrap (qt v - (bits + 1)) = qt v - bits - 1 := by rw [w64 (by omega) (by omega)]; omega
  have e3 : IntKind.u64.wrap (qt v - bits - 1) = qt v - bits - 1 := wu64 (by omega) (by omega)
  simp only [Bool.not_true, cond_f, e1, qp9, qmb, q0o, oB_s, e2, e3]
  rw [show decide ((1 : Int) < 64) = true by decide, show decide (IntKind.u64.wrap 1 < 0) = false by decide, show ((1 : Int).fdiv (2 ^ min (IntKind.u64.wrap 1).toNat IntKind.u64.bits) != 0) = false by decide]
  simp only [cond_t, cond_f]
  rw [qqa]; unfold qmd
  obtain ⟨k, hk⟩ : ∃ k : Nat, qt v - bits - 1 = k := ⟨(qt v - bits - 1).toNat, by omega⟩
  have hk3 : k < 128 := by omega
  unfold q5h bitP
  rw [hk, Int.toNat_natCast]
  rcases Nat.lt_or_ge k 64 with h6 | h6
  · have a1 : ¬ (k : Int) ≥ 64 := by omega
    rw [qbgx ⟨k, h6⟩]
    simp only [a1, decide_false, cond_f]
    by_cases hk0 : k = 0
    · subst hk0; rfl
    · have a2 : (k : Int) > 0 := by omega
      have a3 : ¬ (k : Int) < 0 := by omega
      have fin : ∀ j : Fin 64, j.val ≠ 0 → ¬ IntKind.u64.wrap (64 - (j.val : Int)) < 0 ∧ (1 : Int).fdiv (2 ^ min (IntKind.u64.wrap (64 - (j.val : Int))).toNat IntKind.u64.bits) = 0 ∧ IntKind.u64.wrap (1 * 2 ^ min j.val IntKind.u64.bits) = ((2 ^ j.val : Nat) : Int) := by decide +kernel
      obtain ⟨f1, f2, f3⟩ := fin ⟨k, h6⟩ hk0
      simp only at f1 f2 f3
      simp only [a2, decide_true, cond_t, a3, decide_false, cond_f, f1, f2, f3]
      rfl
  · obtain ⟨j, rfl⟩ : ∃ j, k = j + 64 := ⟨k - 64, by omega⟩
    have a1 : ((j + 64 : Nat) : Int) ≥ 64 := by omega
    rw [qbc8 ⟨j, by omega⟩]
    have fin : ∀ j : Fin 64, ¬ IntKind.u64.wrap (((j.val + 64 : Nat) : Int) - 64) < 0 ∧ IntKind.u64.wrap (1 * 2 ^ min (IntKind.u64.wrap (((j.val + 64 : Nat) : Int) - 64)).toNat IntKind.u64.bits) = ((2 ^ j.val : Nat) : Int) := by decide +kernel
    obtain ⟨f1, f2⟩ := fin ⟨j, by omega⟩
    simp only at f1 f2
    simp only [a1, decide_true, cond_t, f1, f2, decide_false, cond_f]
    rfl
theorem qbh3 (v : Bool) (hi lo bits : Int) (u1 : uok hi) (u2 : uok lo) : qgl v hi lo bits = some (q3l v hi lo bits) := by
  rw [qzt]; unfold qua q3l
  rw [q5g u1 u2, qbh2]
  simp only [qvm, qqb, q0p, oB_s]
  cases hh : qm9 v hi lo bits with
  | false => rfl
  | true =>
    obtain ⟨h1, h2, h3, h4⟩ := q1t hh
    have hw : IntKind.i64.wrap (bits + 1) = bits + 1 := w64 (by omega) (by omega)
    simp only [cond_t, Bool.not_true, cond_f, h1, hw, qbpr hh, oB_s]
    rfl
theorem qbps {v : Bool} {hi lo bits : Int} (h : qm9 v hi lo bits = true) (u1 : uok hi) (u2 : uok lo) :
    numP (qce .or .u64 hi (bitP v bits).1) (qce .or .u64 lo (bitP v bits).2) = numP hi lo + 2 ^ kOf v (bits + 1) := by
  obtain ⟨h1, h2, h3, h4⟩ := q1t h
  obtain ⟨o1, o2⟩ := qbpp h2 h3
  obtain ⟨f1, f2⟩ := qbpq h u1 u2
  have hl := qkj v
  have hk : kOf v (bits + 1) = (qt v - bits - 1).toNat := by unfold kOf; congr 1; omega
  rw [← qbkt u1 o1 f1, ← qbkt u2 o2 f2, hk, ← qbq2 (n := (qt v - bits - 1).toNat) (by omega)]
  unfold bitP at o1 o2 ⊢
  unfold numP
  obtain ⟨a1, a2⟩ := u1
  obtain ⟨b1, b2⟩ := u2
  obtain ⟨c1, c2⟩ := o1
  obtain ⟨d1, d2⟩ := o2
  rw [Int.toNat_add a1 c1, Int.toNat_add b1 d1]
  omega
end Go.Proofs.Ytmfghgaboaocgaa.Dn
