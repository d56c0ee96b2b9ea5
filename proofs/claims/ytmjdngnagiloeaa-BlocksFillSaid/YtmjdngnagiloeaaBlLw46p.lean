/- Parts and halves of prefixes, the program's and the reference's. -/
import Derived.Test.YtmjdngnagiloeaaBlLw46d
set_option linter.all false
namespace Go.Proofs.Ytmjdngnagiloeaa.Dn
open Go Go.Pev
set_option linter.unusedVariables false
set_option linter.unusedSimpArgs false
set_option maxRecDepth 4000
theorem qboz {x : Int} (h : uok x) : qcg .or .u64 x 0 = x := by
  have := qbos h (y := 0) ⟨by omega, by omega⟩ (qx5 h)
  omega
def shl1 (p : Int × Int) : Int × Int := (IntKind.u64.wrap (IntKind.u64.wrap (p.1 * 2) + IntKind.u64.wrap (p.2.tdiv 9223372036854775808)), IntKind.u64.wrap (p.2 * 2))
def shlN : Nat → Int × Int → Int × Int
  | 0, p => p
  | n + 1, p => shlN n (shl1 p)
theorem qbkl : ∀ n : Fin 64, shlN n (0, 1) = (0, ((2 ^ n.val : Nat) : Int)) := by decide +kernel
theorem qbfu : ∀ n : Fin 64, shlN (n.val + 64) (0, 1) = (((2 ^ n.val : Nat) : Int), 0) := by decide +kernel
theorem qbu7 : ∀ n : Fin 128, (0 ≤ (shlN n (0, 1)).1 ∧ (shlN n (0, 1)).1 ≤ 18446744073709551615) ∧ (0 ≤ (shlN n (0, 1)).2 ∧ (shlN n (0, 1)).2 ≤ 18446744073709551615) := by decide +kernel
theorem qbu8 {n : Nat} (h : n < 128) : numP (shlN n (0, 1)).1 (shlN n (0, 1)).2 = 2 ^ n := by
  unfold numP
  rcases Nat.lt_or_ge n 64 with h1 | h1
  · rw [qbkl ⟨n, h1⟩]
    show (0 : Int).toNat * 18446744073709551616 + (((2 ^ n : Nat) : Int)).toNat = 2 ^ n
    rw [Int.toNat_natCast]
    simp
  · obtain ⟨j, rfl⟩ : ∃ j, n = j + 64 := ⟨n - 64, by omega⟩
    rw [qbfu ⟨j, by omega⟩, Nat.pow_add, q7u]
    show (((2 ^ j : Nat) : Int)).toNat * 18446744073709551616 + (0 : Int).toNat = _
    rw [Int.toNat_natCast]
    simp
def qbq8 : AV := mkP false 0 0 0
def qzg (v : Bool) (hi lo bits n : Int) : Bool := qgk v hi lo bits && (decide (bits ≤ n) && decide (n ≤ qbi v))
theorem qbsi {v : Bool} {hi lo bits n : Int} (h : qzg v hi lo bits n = true) : qgk v hi lo bits = true ∧ 0 ≤ bits ∧ bits ≤ n ∧ n ≤ qbi v ∧ n ≤ 128 := by
  unfold qzg at h
  simp only [Bool.and_eq_true, decide_eq_true_eq] at h
  have h1 := qe8 h.1
  have := qkj v
  exact ⟨h.1, h1.1, h.2.1, h.2.2, by omega⟩
theorem qbo0 {v : Bool} {hi lo bits n i : Int} (c0 : Bool) (c1 c2 c3 : Int) (kn : Bool → Option (AV × Bool)) : qof n i v hi lo bits c0 c1 c2 c3 kn = kn (!qzg v hi lo bits n) := by
  rw [q0p]; unfold qt1 qzg
  simp only [qxs, q3c, oB_s]
  have e1 : decide (n < bits) = !decide (bits ≤ n) := by rw [Bool.eq_iff_iff]; simp
  have e2 : decide (n > qbi v) = !decide (n ≤ qbi v) := by rw [Bool.eq_iff_iff]; simp
  rw [e1, e2]
  cases qgk v hi lo bits <;> cases decide (bits ≤ n) <;> rfl
theorem qbtr {v : Bool} {hi lo bits n : Int} (u1 : uok hi) (u2 : uok lo) : qns v hi lo bits n 0 = some (bif qzg v hi lo bits n then (mkP v hi lo n, true) else (qbq8, false)) := by
  rw [qxb]; unfold qtf
  rw [qbo0]
  cases hp : qzg v hi lo bits n with
  | false => rfl
  | true =>
    obtain ⟨h1, h2, h3, h4, h5⟩ := qbsi hp
    have hw : IntKind.i64.wrap (n - bits) = n - bits := w64 (by omega) (by omega)
    have hw2 : IntKind.i64.wrap (qbi v - n) = qbi v - n := w64 (by have := qkj v; omega) (by have := qkj v; omega)
    have hu : IntKind.u64.wrap (n - bits) = n - bits := wu64 (by omega) (by omega)
    have hu2 : IntKind.u64.wrap (qbi v - n) = qbi v - n := wu64 (by omega) (by have := qkj v; omega)
    have a0 : ¬ n - bits < 0 := by omega
    simp only [Bool.not_true, cond_f, cond_t, hw, qro, qn0, hu, a0, decide_false, Int.zero_fdiv, bne_self_eq_false, q3c, oB_s, hw2, hu2]
    have fin : (bif decide (n - bits < 64) then qip n 0 (qbi v - n) 0 0 v hi lo bits false 0 0 0 (fun a b => some (mkP v (qcg .or .u64 hi a) (qcg .or .u64 lo b) n, true)) else qip n 0 (qbi v - n) 0 0 v hi lo bits false 0 0 0 (fun a b => some (mkP v (qcg .or .u64 hi a) (qcg .or .u64 lo b) n, true))) = some (mkP v hi lo n, true) := by
      have e : qip n 0 (qbi v - n) 0 0 v hi lo bits false 0 0 0 (fun a b => some (mkP v (qcg .or .u64 hi a) (qcg .or .u64 lo b) n, true)) = some (mkP v hi lo n, true) := by
        rw [qrp]; unfold qn2
        have q0 : IntKind.u64.wrap 0 = 0 := by decide
        have hnn : ∀ x, ¬ IntKind.u64.wrap x < 0 := fun x => by
          have : 0 ≤ IntKind.u64.wrap x := by simp [IntKind.wrap, IntKind.signed]; omega
          omega
        have a1 : ¬ qbi v - n < 0 := by omega
        simp only [Int.zero_mul, Int.zero_fdiv, q0, hnn, a1, decide_false, cond_f, qboz u1, qboz u2]
        cases decide (qbi v - n ≥ 64) <;> cases decide (qbi v - n > 0) <;> rfl
      rw [e]; cases decide (n - bits < 64) <;> rfl
    exact fin
def qnq (v : Bool) (hi lo bits : Int) : Bool := qgk v hi lo bits && decide (bits < qbi v)
def bitP (v : Bool) (bits : Int) : Int × Int := shlN (qbi v - bits - 1).toNat (0, 1)
def lowP (v : Bool) (hi lo bits : Int) : AV := mkP v hi lo (bits + 1)
def qwf (v : Bool) (hi lo bits : Int) : AV := mkP v (qcg .or .u64 hi (bitP v bits).1) (qcg .or .u64 lo (bitP v bits).2) (bits + 1)
def q6a (v : Bool) (hi lo bits : Int) : AV × AV × Bool := bif qnq v hi lo bits then (lowP v hi lo bits, qwf v hi lo bits, true) else (qbq8, qbq8, false)
theorem qzh {v : Bool} {hi lo bits : Int} (h : qnq v hi lo bits = true) : qgk v hi lo bits = true ∧ 0 ≤ bits ∧ bits < qbi v ∧ bits < 128 := by
  unfold qnq at h
  simp only [Bool.and_eq_true, decide_eq_true_eq] at h
  have := qkj v
  exact ⟨h.1, (qe8 h.1).1, h.2, by omega⟩
theorem qbts {v : Bool} {bits : Int} (h0 : 0 ≤ bits) (h : bits < qbi v) : uok (bitP v bits).1 ∧ uok (bitP v bits).2 := by
  have := qkj v
  exact qbu7 ⟨(qbi v - bits - 1).toNat, by omega⟩
theorem qblp {v : Bool} {hi lo bits : Int} : qzg v hi lo bits (IntKind.i64.wrap (bits + 1)) = qnq v hi lo bits := by
  unfold qzg qnq
  cases hp : qgk v hi lo bits with
  | false => rfl
  | true =>
    obtain ⟨h1, h2, _⟩ := qe8 hp
    have := qkj v
    rw [w64 (by omega) (by omega)]
    simp only [Bool.true_and]
    have : bits ≤ bits + 1 := by omega
    simp [this]
    omega
theorem qbtt {v : Bool} {hi lo bits : Int} (h : qnq v hi lo bits = true) (u1 : uok hi) (u2 : uok lo) : qcg .and .u64 hi (bitP v bits).1 = 0 ∧ qcg .and .u64 lo (bitP v bits).2 = 0 := by
  obtain ⟨h1, h2, h3, h4⟩ := qzh h
  obtain ⟨_, _, _, h5⟩ := (q1p u1 u2).1 h1
  have hl := qkj v
  obtain ⟨k, hk⟩ : ∃ k, kOf v bits = k + 1 := ⟨(qbi v - bits - 1).toNat, by unfold kOf; omega⟩
  have hk2 : (qbi v - bits - 1).toNat = k := by unfold kOf at hk; omega
  have hk3 : k < 128 := by omega
  unfold bitP
  rw [hk2]
  rw [hk] at h5
  obtain ⟨a1, a2⟩ := u1
  obtain ⟨b1, b2⟩ := u2
  have mask : ∀ {x : Int} (j : Nat), uok x → j < 64 → x.toNat % 2 ^ (j + 1) = 0 → qcg .and .u64 x ((2 ^ j : Nat) : Int) = 0 := by
    intro x j hx hj hm
    have hp : (2 : Nat) ^ j < 2 ^ 64 := Nat.pow_lt_pow_right (by decide) hj
    have h0 : 0 < (2 : Nat) ^ j := Nat.two_pow_pos j
    rw [qbii]
    have e1 := q4b hx
    have e2 := q4b (x := ((2 ^ j : Nat) : Int)) ⟨by omega, by rw [q7u] at hp; omega⟩
    rw [BitVec.toNat_and]
    have e3 : (BitVec.ofInt 64 x).toNat = x.toNat := by omega
    have e4 : (BitVec.ofInt 64 ((2 ^ j : Nat) : Int)).toNat = 2 ^ j := by omega
    rw [e3, e4]
    have : x.toNat.testBit j = false := by
      rw [Nat.testBit_eq_decide_div_mod_eq]
      have h6 : x.toNat / 2 ^ j % 2 = 0 := by
        rw [Nat.pow_succ, ] at hm
        have := Nat.mod_mul_right_div_self x.toNat (2 ^ j) 2
        rw [hm] at this
        simpa using this.symm
      simp [h6]
    have h7 : x.toNat &&& 2 ^ j = 0 := by
      refine Nat.eq_of_testBit_eq fun i => ?_
      rw [Nat.testBit_and, Nat.testBit_two_pow]
      by_cases hij : j = i
      · subst hij; simp [this]
      · simp [hij]
    rw [h7]; rfl
  rcases Nat.lt_or_ge k 64 with h6 | h6
  · rw [qbkl ⟨k, h6⟩]
    refine ⟨qx5 ⟨a1, a2⟩, mask k ⟨b1, b2⟩ h6 ?_⟩
    have := qbbf hi.toNat lo.toNat (k + 1) (by omega)
    unfold numP at h5
    omega
  · obtain ⟨j, rfl⟩ : ∃ j, k = j + 64 := ⟨k - 64, by omega⟩
    rw [qbfu ⟨j, by omega⟩]
    refine ⟨mask j ⟨a1, a2⟩ (by omega) ?_, qx5 ⟨b1, b2⟩⟩
    have := qbkh hi.toNat lo.toNat (j + 1) (by omega)
    unfold numP at h5
    rw [show j + 64 + 1 = j + 1 + 64 by omega, this] at h5
    revert h5
    generalize hi.toNat % 2 ^ (j + 1) = q
    omega
theorem qbtu {v : Bool} {hi lo bits : Int} (h : qnq v hi lo bits = true) : qns v hi lo bits (bits + 1) 1 = some (qwf v hi lo bits, true) := by
  obtain ⟨h1, h2, h3, h4⟩ := qzh h
  have hw0 : IntKind.i64.wrap (bits + 1) = bits + 1 := w64 (by omega) (by omega)
  have hp := qblp (v := v) (hi := hi) (lo := lo) (bits := bits)
  rw [hw0, h] at hp
  rw [qxb]; unfold qtf
  rw [qbo0, hp]
  have hl := qkj v
  have e1 : IntKind.i64.wrap (bits + 1 - bits) = 1 := by rw [w64 (by omega) (by omega)]; omega
  have e2 : IntKind.i64.wrap (qbi v - (bits + 1)) = qbi v - bits - 1 := by rw [w64 (by omega) (by omega)]; omega
  have e3 : IntKind.u64.wrap (qbi v - bits - 1) = qbi v - bits - 1 := wu64 (by omega) (by omega)
  simp only [Bool.not_true, cond_f, e1, qro, qn0, q3c, oB_s, e2, e3]
  rw [show decide ((1 : Int) < 64) = true by decide, show decide (IntKind.u64.wrap 1 < 0) = false by decide, show ((1 : Int).fdiv (2 ^ min (IntKind.u64.wrap 1).toNat IntKind.u64.bits) != 0) = false by decide]
  simp only [cond_t, cond_f]
  rw [qrp]; unfold qn2
  obtain ⟨k, hk⟩ : ∃ k : Nat, qbi v - bits - 1 = k := ⟨(qbi v - bits - 1).toNat, by omega⟩
  have hk3 : k < 128 := by omega
  unfold qwf bitP
  rw [hk, Int.toNat_natCast]
  rcases Nat.lt_or_ge k 64 with h6 | h6
  · have a1 : ¬ (k : Int) ≥ 64 := by omega
    rw [qbkl ⟨k, h6⟩]
    simp only [a1, decide_false, cond_f]
    by_cases hk0 : k = 0
    · subst hk0; rfl
    · have a2 : (k : Int) > 0 := by omega
      have a3 : ¬ (k : Int) < 0 := by omega
      have fin : ∀ j : Fin 64, j.val ≠ 0 → ¬ IntKind.u64.wrap (64 - (j.val : Int)) < 0 ∧ (1 : Int).fdiv (2 ^ min (IntKind.u64.wrap (64 - (j.val : Int))).toNat IntKind.u64.bits) = 0 ∧ IntKind.u64.wrap (1 * 2 ^ min j.val IntKind.u64.bits) = ((2 ^ j.val : Nat) : Int) := by decide +kernel
      obtain ⟨f1, f2, f3⟩ := fin ⟨k, h6⟩ hk0
      simp only at f1 f2 f3
      simp only [a2, decide_true, cond_t, a3, decide_false, cond_f, f1, f2, f3]
      rfl
  · obtain ⟨j, rfl⟩ : ∃ j, k = j + 64 := ⟨k - 64, by omega⟩
    have a1 : ((j + 64 : Nat) : Int) ≥ 64 := by omega
    rw [qbfu ⟨j, by omega⟩]
    have fin : ∀ j : Fin 64, ¬ IntKind.u64.wrap (((j.val + 64 : Nat) : Int) - 64) < 0 ∧ IntKind.u64.wrap (1 * 2 ^ min (IntKind.u64.wrap (((j.val + 64 : Nat) : Int) - 64)).toNat IntKind.u64.bits) = ((2 ^ j.val : Nat) : Int) := by decide +kernel
    obtain ⟨f1, f2⟩ := fin ⟨j, by omega⟩
    simp only at f1 f2
    simp only [a1, decide_true, cond_t, f1, f2, decide_false, cond_f]
    rfl
theorem qbbg (v : Bool) (hi lo bits : Int) (u1 : uok hi) (u2 : uok lo) : qln v hi lo bits = some (q6a v hi lo bits) := by
  rw [q2g]; unfold qvh q6a
  rw [qbtr u1 u2, qblp]
  simp only [qws, qrq, qxs, oB_s]
  cases hh : qnq v hi lo bits with
  | false => rfl
  | true =>
    obtain ⟨h1, h2, h3, h4⟩ := qzh hh
    have hw : IntKind.i64.wrap (bits + 1) = bits + 1 := w64 (by omega) (by omega)
    simp only [cond_t, Bool.not_true, cond_f, h1, hw, qbtu hh, oB_s]
    rfl
theorem qbtv {v : Bool} {hi lo bits : Int} (h : qnq v hi lo bits = true) (u1 : uok hi) (u2 : uok lo) :
    numP (qcg .or .u64 hi (bitP v bits).1) (qcg .or .u64 lo (bitP v bits).2) = numP hi lo + 2 ^ kOf v (bits + 1) := by
  obtain ⟨h1, h2, h3, h4⟩ := qzh h
  obtain ⟨o1, o2⟩ := qbts h2 h3
  obtain ⟨f1, f2⟩ := qbtt h u1 u2
  have hl := qkj v
  have hk : kOf v (bits + 1) = (qbi v - bits - 1).toNat := by unfold kOf; congr 1; omega
  rw [← qbos u1 o1 f1, ← qbos u2 o2 f2, hk, ← qbu8 (n := (qbi v - bits - 1).toNat) (by omega)]
  unfold bitP at o1 o2 ⊢
  unfold numP
  obtain ⟨a1, a2⟩ := u1
  obtain ⟨b1, b2⟩ := u2
  obtain ⟨c1, c2⟩ := o1
  obtain ⟨d1, d2⟩ := o2
  rw [Int.toNat_add a1 c1, Int.toNat_add b1 d1]
  omega
end Go.Proofs.Ytmjdngnagiloeaa.Dn
