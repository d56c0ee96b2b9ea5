/- Parts and halves of prefixes, the program's and the reference's. -/
import Derived.Test.YtmjdngnagiloeaaBnLw46d
set_option linter.all false
namespace Go.Proofs.Ytmjdngnagiloeaa.Dn
open Go Go.Pev
set_option linter.unusedVariables false
set_option linter.unusedSimpArgs false
set_option maxRecDepth 4000
theorem qblt {x : Int} (h : uok x) : qcf .or .u64 x 0 = x := by
  have := qbll h (y := 0) ⟨by omega, by omega⟩ (qv7 h)
  omega
def shl1 (p : Int × Int) : Int × Int := (IntKind.u64.wrap (IntKind.u64.wrap (p.1 * 2) + IntKind.u64.wrap (p.2.tdiv 9223372036854775808)), IntKind.u64.wrap (p.2 * 2))
def shlN : Nat → Int × Int → Int × Int
  | 0, p => p
  | n + 1, p => shlN n (shl1 p)
theorem qbhg : ∀ n : Fin 64, shlN n (0, 1) = (0, ((2 ^ n.val : Nat) : Int)) := by decide +kernel
theorem qbc2 : ∀ n : Fin 64, shlN (n.val + 64) (0, 1) = (((2 ^ n.val : Nat) : Int), 0) := by decide +kernel
theorem qbrp : ∀ n : Fin 128, (0 ≤ (shlN n (0, 1)).1 ∧ (shlN n (0, 1)).1 ≤ 18446744073709551615) ∧ (0 ≤ (shlN n (0, 1)).2 ∧ (shlN n (0, 1)).2 ≤ 18446744073709551615) := by decide +kernel
theorem qbrq {n : Nat} (h : n < 128) : numP (shlN n (0, 1)).1 (shlN n (0, 1)).2 = 2 ^ n := by
  unfold numP
  rcases Nat.lt_or_ge n 64 with h1 | h1
  · rw [qbhg ⟨n, h1⟩]
    show (0 : Int).toNat * 18446744073709551616 + (((2 ^ n : Nat) : Int)).toNat = 2 ^ n
    rw [Int.toNat_natCast]
    simp
  · obtain ⟨j, rfl⟩ : ∃ j, n = j + 64 := ⟨n - 64, by omega⟩
    rw [qbc2 ⟨j, by omega⟩, Nat.pow_add, q5b]
    show (((2 ^ j : Nat) : Int)).toNat * 18446744073709551616 + (0 : Int).toNat = _
    rw [Int.toNat_natCast]
    simp
def qbnw : AV := mkP false 0 0 0
def qxa (v : Bool) (hi lo bits n : Int) : Bool := qfl v hi lo bits && (decide (bits ≤ n) && decide (n ≤ qbg v))
theorem qbpb {v : Bool} {hi lo bits n : Int} (h : qxa v hi lo bits n = true) : qfl v hi lo bits = true ∧ 0 ≤ bits ∧ bits ≤ n ∧ n ≤ qbg v ∧ n ≤ 128 := by
  unfold qxa at h
  simp only [Bool.and_eq_true, decide_eq_true_eq] at h
  have h1 := qgd h.1
  have := qkj v
  exact ⟨h.1, h1.1, h.2.1, h.2.2, by omega⟩
theorem qblu {v : Bool} {hi lo bits n i : Int} (c0 : Bool) (c1 c2 c3 : Int) (kn : Bool → Option (AV × Bool)) : qm3 n i v hi lo bits c0 c1 c2 c3 kn = kn (!qxa v hi lo bits n) := by
  rw [qya]; unfold qse qxa
  simp only [q0m, q0l, oB_s]
  have e1 : decide (n < bits) = !decide (bits ≤ n) := by rw [Bool.eq_iff_iff]; simp
  have e2 : decide (n > qbg v) = !decide (n ≤ qbg v) := by rw [Bool.eq_iff_iff]; simp
  rw [e1, e2]
  cases qfl v hi lo bits <;> cases decide (bits ≤ n) <;> rfl
theorem qbqb {v : Bool} {hi lo bits n : Int} (u1 : uok hi) (u2 : uok lo) : qmj v hi lo bits n 0 = some (bif qxa v hi lo bits n then (mkP v hi lo n, true) else (qbnw, false)) := by
  rw [qvi]; unfold qrt
  rw [qblu]
  cases hp : qxa v hi lo bits n with
  | false => rfl
  | true =>
    obtain ⟨h1, h2, h3, h4, h5⟩ := qbpb hp
    have hw : IntKind.i64.wrap (n - bits) = n - bits := w64 (by omega) (by omega)
    have hw2 : IntKind.i64.wrap (qbg v - n) = qbg v - n := w64 (by have := qkj v; omega) (by have := qkj v; omega)
    have hu : IntKind.u64.wrap (n - bits) = n - bits := wu64 (by omega) (by omega)
    have hu2 : IntKind.u64.wrap (qbg v - n) = qbg v - n := wu64 (by omega) (by have := qkj v; omega)
    have a0 : ¬ n - bits < 0 := by omega
    simp only [Bool.not_true, cond_f, cond_t, hw, qp2, qmq, hu, a0, decide_false, Int.zero_fdiv, bne_self_eq_false, q0l, oB_s, hw2, hu2]
    have fin : (bif decide (n - bits < 64) then qhw n 0 (qbg v - n) 0 0 v hi lo bits false 0 0 0 (fun a b => some (mkP v (qcf .or .u64 hi a) (qcf .or .u64 lo b) n, true)) else qhw n 0 (qbg v - n) 0 0 v hi lo bits false 0 0 0 (fun a b => some (mkP v (qcf .or .u64 hi a) (qcf .or .u64 lo b) n, true))) = some (mkP v hi lo n, true) := by
      have e : qhw n 0 (qbg v - n) 0 0 v hi lo bits false 0 0 0 (fun a b => some (mkP v (qcf .or .u64 hi a) (qcf .or .u64 lo b) n, true)) = some (mkP v hi lo n, true) := by
        rw [qp3]; unfold qms
        have q0 : IntKind.u64.wrap 0 = 0 := by decide
        have hnn : ∀ x, ¬ IntKind.u64.wrap x < 0 := fun x => by
          have : 0 ≤ IntKind.u64.wrap x := by simp [IntKind.wrap, IntKind.signed]; omega
          omega
        have a1 : ¬ qbg v - n < 0 := by omega
        simp only [Int.zero_mul, Int.zero_fdiv, q0, hnn, a1, decide_false, cond_f, qblt u1, qblt u2]
        cases decide (qbg v - n ≥ 64) <;> cases decide (qbg v - n > 0) <;> rfl
      rw [e]; cases decide (n - bits < 64) <;> rfl
    exact fin
def qmh (v : Bool) (hi lo bits : Int) : Bool := qfl v hi lo bits && decide (bits < qbg v)
def bitP (v : Bool) (bits : Int) : Int × Int := shlN (qbg v - bits - 1).toNat (0, 1)
def lowP (v : Bool) (hi lo bits : Int) : AV := mkP v hi lo (bits + 1)
def qul (v : Bool) (hi lo bits : Int) : AV := mkP v (qcf .or .u64 hi (bitP v bits).1) (qcf .or .u64 lo (bitP v bits).2) (bits + 1)
def q3u (v : Bool) (hi lo bits : Int) : AV × AV × Bool := bif qmh v hi lo bits then (lowP v hi lo bits, qul v hi lo bits, true) else (qbnw, qbnw, false)
theorem qxb {v : Bool} {hi lo bits : Int} (h : qmh v hi lo bits = true) : qfl v hi lo bits = true ∧ 0 ≤ bits ∧ bits < qbg v ∧ bits < 128 := by
  unfold qmh at h
  simp only [Bool.and_eq_true, decide_eq_true_eq] at h
  have := qkj v
  exact ⟨h.1, (qgd h.1).1, h.2, by omega⟩
theorem qbqc {v : Bool} {bits : Int} (h0 : 0 ≤ bits) (h : bits < qbg v) : uok (bitP v bits).1 ∧ uok (bitP v bits).2 := by
  have := qkj v
  exact qbrp ⟨(qbg v - bits - 1).toNat, by omega⟩
theorem qbik {v : Bool} {hi lo bits : Int} : qxa v hi lo bits (IntKind.i64.wrap (bits + 1)) = qmh v hi lo bits := by
  unfold qxa qmh
  cases hp : qfl v hi lo bits with
  | false => rfl
  | true =>
    obtain ⟨h1, h2, _⟩ := qgd hp
    have := qkj v
    rw [w64 (by omega) (by omega)]
    simp only [Bool.true_and]
    have : bits ≤ bits + 1 := by omega
    simp [this]
    omega
theorem qbqd {v : Bool} {hi lo bits : Int} (h : qmh v hi lo bits = true) (u1 : uok hi) (u2 : uok lo) : qcf .and .u64 hi (bitP v bits).1 = 0 ∧ qcf .and .u64 lo (bitP v bits).2 = 0 := by
  obtain ⟨h1, h2, h3, h4⟩ := qxb h
  obtain ⟨_, _, _, h5⟩ := (qy3 u1 u2).1 h1
  have hl := qkj v
  obtain ⟨k, hk⟩ : ∃ k, kOf v bits = k + 1 := ⟨(qbg v - bits - 1).toNat, by unfold kOf; omega⟩
  have hk2 : (qbg v - bits - 1).toNat = k := by unfold kOf at hk; omega
  have hk3 : k < 128 := by omega
  unfold bitP
  rw [hk2]
  rw [hk] at h5
  obtain ⟨a1, a2⟩ := u1
  obtain ⟨b1, b2⟩ := u2
  have mask : ∀ {x : Int} (j : Nat), uok x → j < 64 → x.toNat % 2 ^ (j + 1) = 0 → qcf .and .u64 x ((2 ^ j : Nat) : Int) = 0 := by
    intro x j hx hj hm
    have hp : (2 : Nat) ^ j < 2 ^ 64 := Nat.pow_lt_pow_right (by decide) hj
    have h0 : 0 < (2 : Nat) ^ j := Nat.two_pow_pos j
    rw [q8t]
    have e1 := qv6 hx
    have e2 := qv6 (x := ((2 ^ j : Nat) : Int)) ⟨by omega, by rw [q5b] at hp; omega⟩
    rw [BitVec.toNat_and]
    have e3 : (BitVec.ofInt 64 x).toNat = x.toNat := by omega
    have e4 : (BitVec.ofInt 64 ((2 ^ j : Nat) : Int)).toNat = 2 ^ j := by omega
    rw [e3, e4]
    have : x.toNat.testBit j = false := by
      rw [Nat.testBit_eq_decide_div_mod_eq]
      have h6 : x.toNat / 2 ^ j % 2 = 0 := by
        rw [Nat.pow_succ, ] at hm
        have := Nat.mod_mul_right_div_self x.toNat (2 ^ j) 2
        rw [hm] at this
        simpa using this.symm
      simp [h6]
    have h7 : x.toNat &&& 2 ^ j = 0 := by
      refine Nat.eq_of_testBit_eq fun i => ?_
      rw [Nat.testBit_and, Nat.testBit_two_pow]
      by_cases hij : j = i
      · subst hij; simp [this]
      · simp [hij]
    rw [h7]; rfl
  rcases Nat.lt_or_ge k 64 with h6 | h6
  · rw [qbhg ⟨k, h6⟩]
    refine ⟨qv7 ⟨a1, a2⟩, mask k ⟨b1, b2⟩ h6 ?_⟩
    have := q8v hi.toNat lo.toNat (k + 1) (by omega)
    unfold numP at h5
    omega
  · obtain ⟨j, rfl⟩ : ∃ j, k = j + 64 := ⟨k - 64, by omega⟩
    rw [qbc2 ⟨j, by omega⟩]
    refine ⟨mask j ⟨a1, a2⟩ (by omega) ?_, qv7 ⟨b1, b2⟩⟩
    have := qbhe hi.toNat lo.toNat (j + 1) (by omega)
    unfold numP at h5
    rw [show j + 64 + 1 = j + 1 + 64 by omega, this] at h5
    revert h5
    generalize hi.toNat % 2 ^ (j + 1) = q
    omega
theorem qbqe {v : Bool} {hi lo bits : Int} (h : qmh v hi lo bits = true) : qmj v hi lo bits (bits + 1) 1 = some (qul v hi lo bits, true) := by
  obtain ⟨h1, h2, h3, h4⟩ := qxb h
  have hw0 : IntKind.i64.wrap (bits + 1) = bits + 1 := w64 (by omega) (by omega)
  have hp := qbik (v := v) (hi := hi) (lo := lo) (bits := bits)
  rw [hw0, h] at hp
  rw [qvi]; unfold qrt
  rw [qblu, hp]
  have hl := qkj v
  have e1 : IntKind.i64.wrap (bits + 1 - bits) = 1 := by rw [w64 (by omega) (by omega)]; omega
  have e2 : IntKind.i64.wrap (qbg v - (bits + 1)) = qbg v - bits - 1 := by rw [w64 (by omega) (by omega)]; omega
  have e3 : IntKind.u64.wrap (qbg v - bits - 1) = qbg v - bits - 1 := wu64 (by omega) (by omega)
  simp only [Bool.not_true, cond_f, e1, qp2, qmq, q0l, oB_s, e2, e3]
  rw [show decide ((1 : Int) < 64) = true by decide, show decide (IntKind.u64.wrap 1 < 0) = false by decide, show ((1 : Int).fdiv (2 ^ min (IntKind.u64.wrap 1).toNat IntKind.u64.bits) != 0) = false by decide]
  simp only [cond_t, cond_f]
  rw [qp3]; unfold qms
  obtain ⟨k, hk⟩ : ∃ k : Nat, qbg v - bits - 1 = k := ⟨(qbg v - bits - 1).toNat, by omega⟩
  have hk3 : k < 128 := by omega
  unfold qul bitP
  rw [hk, Int.toNat_natCast]
  rcases Nat.lt_or_ge k 64 with h6 | h6
  · have a1 : ¬ (k : Int) ≥ 64 := by omega
    rw [qbhg ⟨k, h6⟩]
    simp only [a1, decide_false, cond_f]
    by_cases hk0 : k = 0
    · subst hk0; rfl
    · have a2 : (k : Int) > 0 := by omega
      have a3 : ¬ (k : Int) < 0 := by omega
      have fin : ∀ j : Fin 64, j.val ≠ 0 → ¬ IntKind.u64.wrap (64 - (j.val : Int)) < 0 ∧ (1 : Int).fdiv (2 ^ min (IntKind.u64.wrap (64 - (j.val : Int))).toNat IntKind.u64.bits) = 0 ∧ IntKind.u64.wrap (1 * 2 ^ min j.val IntKind.u64.bits) = ((2 ^ j.val : Nat) : Int) := by decide +kernel
      obtain ⟨f1, f2, f3⟩ := fin ⟨k, h6⟩ hk0
      simp only at f1 f2 f3
      simp only [a2, decide_true, cond_t, a3, decide_false, cond_f, f1, f2, f3]
      rfl
  · obtain ⟨j, rfl⟩ : ∃ j, k = j + 64 := ⟨k - 64, by omega⟩
    have a1 : ((j + 64 : Nat) : Int) ≥ 64 := by omega
    rw [qbc2 ⟨j, by omega⟩]
    have fin : ∀ j : Fin 64, ¬ IntKind.u64.wrap (((j.val + 64 : Nat) : Int) - 64) < 0 ∧ IntKind.u64.wrap (1 * 2 ^ min (IntKind.u64.wrap (((j.val + 64 : Nat) : Int) - 64)).toNat IntKind.u64.bits) = ((2 ^ j.val : Nat) : Int) := by decide +kernel
    obtain ⟨f1, f2⟩ := fin ⟨j, by omega⟩
    simp only at f1 f2
    simp only [a1, decide_true, cond_t, f1, f2, decide_false, cond_f]
    rfl
theorem q8w (v : Bool) (hi lo bits : Int) (u1 : uok hi) (u2 : uok lo) : qko v hi lo bits = some (q3u v hi lo bits) := by
  rw [qzt]; unfold qtq q3u
  rw [qbqb u1 u2, qbik]
  simp only [quz, qp4, q0m, oB_s]
  cases hh : qmh v hi lo bits with
  | false => rfl
  | true =>
    obtain ⟨h1, h2, h3, h4⟩ := qxb hh
    have hw : IntKind.i64.wrap (bits + 1) = bits + 1 := w64 (by omega) (by omega)
    simp only [cond_t, Bool.not_true, cond_f, h1, hw, qbqe hh, oB_s]
    rfl
theorem qbqf {v : Bool} {hi lo bits : Int} (h : qmh v hi lo bits = true) (u1 : uok hi) (u2 : uok lo) :
    numP (qcf .or .u64 hi (bitP v bits).1) (qcf .or .u64 lo (bitP v bits).2) = numP hi lo + 2 ^ kOf v (bits + 1) := by
  obtain ⟨h1, h2, h3, h4⟩ := qxb h
  obtain ⟨o1, o2⟩ := qbqc h2 h3
  obtain ⟨f1, f2⟩ := qbqd h u1 u2
  have hl := qkj v
  have hk : kOf v (bits + 1) = (qbg v - bits - 1).toNat := by unfold kOf; congr 1; omega
  rw [← qbll u1 o1 f1, ← qbll u2 o2 f2, hk, ← qbrq (n := (qbg v - bits - 1).toNat) (by omega)]
  unfold bitP at o1 o2 ⊢
  unfold numP
  obtain ⟨a1, a2⟩ := u1
  obtain ⟨b1, b2⟩ := u2
  obtain ⟨c1, c2⟩ := o1
  obtain ⟨d1, d2⟩ := o2
  rw [Int.toNat_add a1 c1, Int.toNat_add b1 d1]
  omega
end Go.Proofs.Ytmjdngnagiloeaa.Dn
