/- Parts and halves of prefixes, the program's and the reference's. -/
import Derived.Test.YtmjdngnagiloeaaBhLw46d
set_option linter.all false
namespace Go.Proofs.Ytmjdngnagiloeaa.Dn
open Go Go.Pev
set_option linter.unusedVariables false
set_option linter.unusedSimpArgs false
set_option maxRecDepth 4000
theorem qbmg {x : Int} (h : uok x) : qcg .or .u64 x 0 = x := by
  have := qbl8 h (y := 0) ⟨by omega, by omega⟩ (qwl h)
  omega
def shl1 (p : Int × Int) : Int × Int := (IntKind.u64.wrap (IntKind.u64.wrap (p.1 * 2) + IntKind.u64.wrap (p.2.tdiv 9223372036854775808)), IntKind.u64.wrap (p.2 * 2))
def shlN : Nat → Int × Int → Int × Int
  | 0, p => p
  | n + 1, p => shlN n (shl1 p)
theorem qbhz : ∀ n : Fin 64, shlN n (0, 1) = (0, ((2 ^ n.val : Nat) : Int)) := by decide +kernel
theorem qbdf : ∀ n : Fin 64, shlN (n.val + 64) (0, 1) = (((2 ^ n.val : Nat) : Int), 0) := by decide +kernel
theorem qbsb : ∀ n : Fin 128, (0 ≤ (shlN n (0, 1)).1 ∧ (shlN n (0, 1)).1 ≤ 18446744073709551615) ∧ (0 ≤ (shlN n (0, 1)).2 ∧ (shlN n (0, 1)).2 ≤ 18446744073709551615) := by decide +kernel
theorem qbsc {n : Nat} (h : n < 128) : numP (shlN n (0, 1)).1 (shlN n (0, 1)).2 = 2 ^ n := by
  unfold numP
  rcases Nat.lt_or_ge n 64 with h1 | h1
  · rw [qbhz ⟨n, h1⟩]
    show (0 : Int).toNat * 18446744073709551616 + (((2 ^ n : Nat) : Int)).toNat = 2 ^ n
    rw [Int.toNat_natCast]
    simp
  · obtain ⟨j, rfl⟩ : ∃ j, n = j + 64 := ⟨n - 64, by omega⟩
    rw [qbdf ⟨j, by omega⟩, Nat.pow_add, q5n]
    show (((2 ^ j : Nat) : Int)).toNat * 18446744073709551616 + (0 : Int).toNat = _
    rw [Int.toNat_natCast]
    simp
def qbok : AV := mkP false 0 0 0
def qxp (v : Bool) (hi lo bits n : Int) : Bool := qfq v hi lo bits && (decide (bits ≤ n) && decide (n ≤ qbg v))
theorem qbpx {v : Bool} {hi lo bits n : Int} (h : qxp v hi lo bits n = true) : qfq v hi lo bits = true ∧ 0 ≤ bits ∧ bits ≤ n ∧ n ≤ qbg v ∧ n ≤ 128 := by
  unfold qxp at h
  simp only [Bool.and_eq_true, decide_eq_true_eq] at h
  have h1 := qgj h.1
  have := qko v
  exact ⟨h.1, h1.1, h.2.1, h.2.2, by omega⟩
theorem qbmh {v : Bool} {hi lo bits n i : Int} (c0 : Bool) (c1 c2 c3 : Int) (kn : Bool → Option (AV × Bool)) : qna n i v hi lo bits c0 c1 c2 c3 kn = kn (!qxp v hi lo bits n) := by
  rw [qyp]; unfold qsp qxp
  simp only [q00, q0z, oB_s]
  have e1 : decide (n < bits) = !decide (bits ≤ n) := by rw [Bool.eq_iff_iff]; simp
  have e2 : decide (n > qbg v) = !decide (n ≤ qbg v) := by rw [Bool.eq_iff_iff]; simp
  rw [e1, e2]
  cases qfq v hi lo bits <;> cases decide (bits ≤ n) <;> rfl
theorem qbqx {v : Bool} {hi lo bits n : Int} (u1 : uok hi) (u2 : uok lo) : qmq v hi lo bits n 0 = some (bif qxp v hi lo bits n then (mkP v hi lo n, true) else (qbok, false)) := by
  rw [qvv]; unfold qr2
  rw [qbmh]
  cases hp : qxp v hi lo bits n with
  | false => rfl
  | true =>
    obtain ⟨h1, h2, h3, h4, h5⟩ := qbpx hp
    have hw : IntKind.i64.wrap (n - bits) = n - bits := w64 (by omega) (by omega)
    have hw2 : IntKind.i64.wrap (qbg v - n) = qbg v - n := w64 (by have := qko v; omega) (by have := qko v; omega)
    have hu : IntKind.u64.wrap (n - bits) = n - bits := wu64 (by omega) (by omega)
    have hu2 : IntKind.u64.wrap (qbg v - n) = qbg v - n := wu64 (by omega) (by have := qko v; omega)
    have a0 : ¬ n - bits < 0 := by omega
    simp only [Bool.not_true, cond_f, cond_t, hw, qp9, qmx, hu, a0, decide_false, Int.zero_fdiv, bne_self_eq_false, q0z, oB_s, hw2, hu2]
    have fin : (bif decide (n - bits < 64) then qhz n 0 (qbg v - n) 0 0 v hi lo bits false 0 0 0 (fun a b => some (mkP v (qcg .or .u64 hi a) (qcg .or .u64 lo b) n, true)) else qhz n 0 (qbg v - n) 0 0 v hi lo bits false 0 0 0 (fun a b => some (mkP v (qcg .or .u64 hi a) (qcg .or .u64 lo b) n, true))) = some (mkP v hi lo n, true) := by
      have e : qhz n 0 (qbg v - n) 0 0 v hi lo bits false 0 0 0 (fun a b => some (mkP v (qcg .or .u64 hi a) (qcg .or .u64 lo b) n, true)) = some (mkP v hi lo n, true) := by
        rw [qqa]; unfold qmz
        have q0 : IntKind.u64.wrap 0 = 0 := by decide
        have hnn : ∀ x, ¬ IntKind.u64.wrap x < 0 := fun x => by
          have : 0 ≤ IntKind.u64.wrap x := by simp [IntKind.wrap, IntKind.signed]; omega
          omega
        have a1 : ¬ qbg v - n < 0 := by omega
        simp only [Int.zero_mul, Int.zero_fdiv, q0, hnn, a1, decide_false, cond_f, qbmg u1, qbmg u2]
        cases decide (qbg v - n ≥ 64) <;> cases decide (qbg v - n > 0) <;> rfl
      rw [e]; cases decide (n - bits < 64) <;> rfl
    exact fin
def qmo (v : Bool) (hi lo bits : Int) : Bool := qfq v hi lo bits && decide (bits < qbg v)
def bitP (v : Bool) (bits : Int) : Int × Int := shlN (qbg v - bits - 1).toNat (0, 1)
def lowP (v : Bool) (hi lo bits : Int) : AV := mkP v hi lo (bits + 1)
def quw (v : Bool) (hi lo bits : Int) : AV := mkP v (qcg .or .u64 hi (bitP v bits).1) (qcg .or .u64 lo (bitP v bits).2) (bits + 1)
def q36 (v : Bool) (hi lo bits : Int) : AV × AV × Bool := bif qmo v hi lo bits then (lowP v hi lo bits, quw v hi lo bits, true) else (qbok, qbok, false)
theorem qxq {v : Bool} {hi lo bits : Int} (h : qmo v hi lo bits = true) : qfq v hi lo bits = true ∧ 0 ≤ bits ∧ bits < qbg v ∧ bits < 128 := by
  unfold qmo at h
  simp only [Bool.and_eq_true, decide_eq_true_eq] at h
  have := qko v
  exact ⟨h.1, (qgj h.1).1, h.2, by omega⟩
theorem qbqy {v : Bool} {bits : Int} (h0 : 0 ≤ bits) (h : bits < qbg v) : uok (bitP v bits).1 ∧ uok (bitP v bits).2 := by
  have := qko v
  exact qbsb ⟨(qbg v - bits - 1).toNat, by omega⟩
theorem qbi7 {v : Bool} {hi lo bits : Int} : qxp v hi lo bits (IntKind.i64.wrap (bits + 1)) = qmo v hi lo bits := by
  unfold qxp qmo
  cases hp : qfq v hi lo bits with
  | false => rfl
  | true =>
    obtain ⟨h1, h2, _⟩ := qgj hp
    have := qko v
    rw [w64 (by omega) (by omega)]
    simp only [Bool.true_and]
    have : bits ≤ bits + 1 := by omega
    simp [this]
    omega
theorem qbqz {v : Bool} {hi lo bits : Int} (h : qmo v hi lo bits = true) (u1 : uok hi) (u2 : uok lo) : qcg .and .u64 hi (bitP v bits).1 = 0 ∧ qcg .and .u64 lo (bitP v bits).2 = 0 := by
  obtain ⟨h1, h2, h3, h4⟩ := qxq h
  obtain ⟨_, _, _, h5⟩ := (qzh u1 u2).1 h1
  have hl := qko v
  obtain ⟨k, hk⟩ : ∃ k, kOf v bits = k + 1 := ⟨(qbg v - bits - 1).toNat, by unfold kOf; omega⟩
  have hk2 : (qbg v - bits - 1).toNat = k := by unfold kOf at hk; omega
  have hk3 : k < 128 := by omega
  unfold bitP
  rw [hk2]
  rw [hk] at h5
  obtain ⟨a1, a2⟩ := u1
  obtain ⟨b1, b2⟩ := u2
  have mask : ∀ {x : Int} (j : Nat), uok x → j < 64 → x.toNat % 2 ^ (j + 1) = 0 → qcg .and .u64 x ((2 ^ j : Nat) : Int) = 0 := by
    intro x j hx hj hm
    have hp : (2 : Nat) ^ j < 2 ^ 64 := Nat.pow_lt_pow_right (by decide) hj
    have h0 : 0 < (2 : Nat) ^ j := Nat.two_pow_pos j
    rw [q86]
    have e1 := qwj hx
    have e2 := qwj (x := ((2 ^ j : Nat) : Int)) ⟨by omega, by rw [q5n] at hp; omega⟩
    rw [BitVec.toNat_and]
    have e3 : (BitVec.ofInt 64 x).toNat = x.toNat := by omega
    have e4 : (BitVec.ofInt 64 ((2 ^ j : Nat) : Int)).toNat = 2 ^ j := by omega
    rw [e3, e4]
    have : x.toNat.testBit j = false := by
      rw [Nat.testBit_eq_decide_div_mod_eq]
      have h6 : x.toNat / 2 ^ j % 2 = 0 := by
        rw [Nat.pow_succ, ] at hm
        have := Nat.mod_mul_right_div_self x.toNat (2 ^ j) 2
        rw [hm] at this
        simpa using this.symm
      simp [h6]
    have h7 : x.toNat &&& 2 ^ j = 0 := by
      refine Nat.eq_of_testBit_eq fun i => ?_
      rw [Nat.testBit_and, Nat.testBit_two_pow]
      by_cases hij : j = i
      · subst hij; simp [this]
      · simp [hij]
    rw [h7]; rfl
  rcases Nat.lt_or_ge k 64 with h6 | h6
  · rw [qbhz ⟨k, h6⟩]
    refine ⟨qwl ⟨a1, a2⟩, mask k ⟨b1, b2⟩ h6 ?_⟩
    have := q89 hi.toNat lo.toNat (k + 1) (by omega)
    unfold numP at h5
    omega
  · obtain ⟨j, rfl⟩ : ∃ j, k = j + 64 := ⟨k - 64, by omega⟩
    rw [qbdf ⟨j, by omega⟩]
    refine ⟨mask j ⟨a1, a2⟩ (by omega) ?_, qwl ⟨b1, b2⟩⟩
    have := qbhw hi.toNat lo.toNat (j + 1) (by omega)
    unfold numP at h5
    rw [show j + 64 + 1 = j + 1 + 64 by omega, this] at h5
    revert h5
    generalize hi.toNat % 2 ^ (j + 1) = q
    omega
theorem qbq0 {v : Bool} {hi lo bits : Int} (h : qmo v hi lo bits = true) : qmq v hi lo bits (bits + 1) 1 = some (quw v hi lo bits, true) := by
  obtain ⟨h1, h2, h3, h4⟩ := qxq h
  have hw0 : IntKind.i64.wrap (bits + 1) = bits + 1 := w64 (by omega) (by omega)
  have hp := qbi7 (v := v) (hi := hi) (lo := lo) (bits := bits)
  rw [hw0, h] at hp
  rw [qvv]; unfold qr2
  rw [qbmh, hp]
  have hl := qko v
  have e1 : IntKind.i64.wrap (bits + 1 - bits) = 1 := by rw [w64 (by omega) (by omega)]; omega
  have e2 : IntKind.i64.wrap (qbg v - (bits + 1)) = qbg v - bits - 1 := by rw [w64 (by omega) (by omega)]; omega
  have e3 : IntKind.u64.wrap (qbg v - bits - 1) = qbg v - bits - 1 := wu64 (by omega) (by omega)
  simp only [Bool.not_true, cond_f, e1, qp9, qmx, q0z, oB_s, e2, e3]
  rw [show decide ((1 : Int) < 64) = true by decide, show decide (IntKind.u64.wrap 1 < 0) = false by decide, show ((1 : Int).fdiv (2 ^ min (IntKind.u64.wrap 1).toNat IntKind.u64.bits) != 0) = false by decide]
  simp only [cond_t, cond_f]
  rw [qqa]; unfold qmz
  obtain ⟨k, hk⟩ : ∃ k : Nat, qbg v - bits - 1 = k := ⟨(qbg v - bits - 1).toNat, by omega⟩
  have hk3 : k < 128 := by omega
  unfold quw bitP
  rw [hk, Int.toNat_natCast]
  rcases Nat.lt_or_ge k 64 with h6 | h6
  · have a1 : ¬ (k : Int) ≥ 64 := by omega
    rw [qbhz ⟨k, h6⟩]
    simp only [a1, decide_false, cond_f]
    by_cases hk0 : k = 0
    · subst hk0; rfl
    · have a2 : (k : Int) > 0 := by omega
      have a3 : ¬ (k : Int) < 0 := by omega
      have fin : ∀ j : Fin 64, j.val ≠ 0 → ¬ IntKind.u64.wrap (64 - (j.val : Int)) < 0 ∧ (1 : Int).fdiv (2 ^ min (IntKind.u64.wrap (64 - (j.val : Int))).toNat IntKind.u64.bits) = 0 ∧ IntKind.u64.wrap (1 * 2 ^ min j.val IntKind.u64.bits) = ((2 ^ j.val : Nat) : Int) := by decide +kernel
      obtain ⟨f1, f2, f3⟩ := fin ⟨k, h6⟩ hk0
      simp only at f1 f2 f3
      simp only [a2, decide_true, cond_t, a3, decide_false, cond_f, f1, f2, f3]
      rfl
  · obtain ⟨j, rfl⟩ : ∃ j, k = j + 64 := ⟨k - 64, by omega⟩
    have a1 : ((j + 64 : Nat) : Int) ≥ 64 := by omega
    rw [qbdf ⟨j, by omega⟩]
    have fin : ∀ j : Fin 64, ¬ IntKind.u64.wrap (((j.val + 64 : Nat) : Int) - 64) < 0 ∧ IntKind.u64.wrap (1 * 2 ^ min (IntKind.u64.wrap (((j.val + 64 : Nat) : Int) - 64)).toNat IntKind.u64.bits) = ((2 ^ j.val : Nat) : Int) := by decide +kernel
    obtain ⟨f1, f2⟩ := fin ⟨j, by omega⟩
    simp only at f1 f2
    simp only [a1, decide_true, cond_t, f1, f2, decide_false, cond_f]
    rfl
theorem q9a (v : Bool) (hi lo bits : Int) (u1 : uok hi) (u2 : uok lo) : qks v hi lo bits = some (q36 v hi lo bits) := by
  rw [qz6]; unfold qt0 q36
  rw [qbqx u1 u2, qbi7]
  simp only [qvb, qqb, q00, oB_s]
  cases hh : qmo v hi lo bits with
  | false => rfl
  | true =>
    obtain ⟨h1, h2, h3, h4⟩ := qxq hh
    have hw : IntKind.i64.wrap (bits + 1) = bits + 1 := w64 (by omega) (by omega)
    simp only [cond_t, Bool.not_true, cond_f, h1, hw, qbq0 hh, oB_s]
    rfl
theorem qbq1 {v : Bool} {hi lo bits : Int} (h : qmo v hi lo bits = true) (u1 : uok hi) (u2 : uok lo) :
    numP (qcg .or .u64 hi (bitP v bits).1) (qcg .or .u64 lo (bitP v bits).2) = numP hi lo + 2 ^ kOf v (bits + 1) := by
  obtain ⟨h1, h2, h3, h4⟩ := qxq h
  obtain ⟨o1, o2⟩ := qbqy h2 h3
  obtain ⟨f1, f2⟩ := qbqz h u1 u2
  have hl := qko v
  have hk : kOf v (bits + 1) = (qbg v - bits - 1).toNat := by unfold kOf; congr 1; omega
  rw [← qbl8 u1 o1 f1, ← qbl8 u2 o2 f2, hk, ← qbsc (n := (qbg v - bits - 1).toNat) (by omega)]
  unfold bitP at o1 o2 ⊢
  unfold numP
  obtain ⟨a1, a2⟩ := u1
  obtain ⟨b1, b2⟩ := u2
  obtain ⟨c1, c2⟩ := o1
  obtain ⟨d1, d2⟩ := o2
  rw [Int.toNat_add a1 c1, Int.toNat_add b1 d1]
  omega
end Go.Proofs.Ytmjdngnagiloeaa.Dn
