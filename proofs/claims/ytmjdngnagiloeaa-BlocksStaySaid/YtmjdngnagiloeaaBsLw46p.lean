/- Parts and halves of prefixes, the program's and the reference's. -/
import Derived.Test.YtmjdngnagiloeaaBsLw46d
set_option linter.all false
namespace Go.Proofs.Ytmjdngnagiloeaa.Dn
open Go Go.Pev
set_option linter.unusedVariables false
set_option linter.unusedSimpArgs false
set_option maxRecDepth 4000
theorem qbm5 {x : Int} (h : uok x) : qcg .or .u64 x 0 = x := by
  have := qbmz h (y := 0) ⟨by omega, by omega⟩ (qwz h)
  omega
def shl1 (p : Int × Int) : Int × Int := (IntKind.u64.wrap (IntKind.u64.wrap (p.1 * 2) + IntKind.u64.wrap (p.2.tdiv 9223372036854775808)), IntKind.u64.wrap (p.2 * 2))
def shlN : Nat → Int × Int → Int × Int
  | 0, p => p
  | n + 1, p => shlN n (shl1 p)
theorem qbiu : ∀ n : Fin 64, shlN n (0, 1) = (0, ((2 ^ n.val : Nat) : Int)) := by decide +kernel
theorem qbed : ∀ n : Fin 64, shlN (n.val + 64) (0, 1) = (((2 ^ n.val : Nat) : Int), 0) := by decide +kernel
theorem qbs5 : ∀ n : Fin 128, (0 ≤ (shlN n (0, 1)).1 ∧ (shlN n (0, 1)).1 ≤ 18446744073709551615) ∧ (0 ≤ (shlN n (0, 1)).2 ∧ (shlN n (0, 1)).2 ≤ 18446744073709551615) := by decide +kernel
theorem qbs6 {n : Nat} (h : n < 128) : numP (shlN n (0, 1)).1 (shlN n (0, 1)).2 = 2 ^ n := by
  unfold numP
  rcases Nat.lt_or_ge n 64 with h1 | h1
  · rw [qbiu ⟨n, h1⟩]
    show (0 : Int).toNat * 18446744073709551616 + (((2 ^ n : Nat) : Int)).toNat = 2 ^ n
    rw [Int.toNat_natCast]
    simp
  · obtain ⟨j, rfl⟩ : ∃ j, n = j + 64 := ⟨n - 64, by omega⟩
    rw [qbed ⟨j, by omega⟩, Nat.pow_add, q59]
    show (((2 ^ j : Nat) : Int)).toNat * 18446744073709551616 + (0 : Int).toNat = _
    rw [Int.toNat_natCast]
    simp
def qbpf : AV := mkP false 0 0 0
def qx3 (v : Bool) (hi lo bits n : Int) : Bool := qfl v hi lo bits && (decide (bits ≤ n) && decide (n ≤ q8 v))
theorem qbqs {v : Bool} {hi lo bits n : Int} (h : qx3 v hi lo bits n = true) : qfl v hi lo bits = true ∧ 0 ≤ bits ∧ bits ≤ n ∧ n ≤ q8 v ∧ n ≤ 128 := by
  unfold qx3 at h
  simp only [Bool.and_eq_true, decide_eq_true_eq] at h
  have h1 := qgc h.1
  have := qkr v
  exact ⟨h.1, h1.1, h.2.1, h.2.2, by omega⟩
theorem qbm6 {v : Bool} {hi lo bits n i : Int} (c0 : Bool) (c1 c2 c3 : Int) (kn : Bool → Option (AV × Bool)) : qnc n i v hi lo bits c0 c1 c2 c3 kn = kn (!qx3 v hi lo bits n) := by
  rw [qy7]; unfold qs0 qx3
  simp only [q1o, q1n, oB_s]
  have e1 : decide (n < bits) = !decide (bits ≤ n) := by rw [Bool.eq_iff_iff]; simp
  have e2 : decide (n > q8 v) = !decide (n ≤ q8 v) := by rw [Bool.eq_iff_iff]; simp
  rw [e1, e2]
  cases qfl v hi lo bits <;> cases decide (bits ≤ n) <;> rfl
theorem qbrs {v : Bool} {hi lo bits n : Int} (u1 : uok hi) (u2 : uok lo) : qmq v hi lo bits n 0 = some (bif qx3 v hi lo bits n then (mkP v hi lo n, true) else (qbpf, false)) := by
  rw [qv6]; unfold qsf
  rw [qbm6]
  cases hp : qx3 v hi lo bits n with
  | false => rfl
  | true =>
    obtain ⟨h1, h2, h3, h4, h5⟩ := qbqs hp
    have hw : IntKind.i64.wrap (n - bits) = n - bits := w64 (by omega) (by omega)
    have hw2 : IntKind.i64.wrap (q8 v - n) = q8 v - n := w64 (by have := qkr v; omega) (by have := qkr v; omega)
    have hu : IntKind.u64.wrap (n - bits) = n - bits := wu64 (by omega) (by omega)
    have hu2 : IntKind.u64.wrap (q8 v - n) = q8 v - n := wu64 (by omega) (by have := qkr v; omega)
    have a0 : ¬ n - bits < 0 := by omega
    simp only [Bool.not_true, cond_f, cond_t, hw, qqn, qmy, hu, a0, decide_false, Int.zero_fdiv, bne_self_eq_false, q1n, oB_s, hw2, hu2]
    have fin : (bif decide (n - bits < 64) then qh0 n 0 (q8 v - n) 0 0 v hi lo bits false 0 0 0 (fun a b => some (mkP v (qcg .or .u64 hi a) (qcg .or .u64 lo b) n, true)) else qh0 n 0 (q8 v - n) 0 0 v hi lo bits false 0 0 0 (fun a b => some (mkP v (qcg .or .u64 hi a) (qcg .or .u64 lo b) n, true))) = some (mkP v hi lo n, true) := by
      have e : qh0 n 0 (q8 v - n) 0 0 v hi lo bits false 0 0 0 (fun a b => some (mkP v (qcg .or .u64 hi a) (qcg .or .u64 lo b) n, true)) = some (mkP v hi lo n, true) := by
        rw [qqo]; unfold qm0
        have q0 : IntKind.u64.wrap 0 = 0 := by decide
        have hnn : ∀ x, ¬ IntKind.u64.wrap x < 0 := fun x => by
          have : 0 ≤ IntKind.u64.wrap x := by simp [IntKind.wrap, IntKind.signed]; omega
          omega
        have a1 : ¬ q8 v - n < 0 := by omega
        simp only [Int.zero_mul, Int.zero_fdiv, q0, hnn, a1, decide_false, cond_f, qbm5 u1, qbm5 u2]
        cases decide (q8 v - n ≥ 64) <;> cases decide (q8 v - n > 0) <;> rfl
      rw [e]; cases decide (n - bits < 64) <;> rfl
    exact fin
def qmn (v : Bool) (hi lo bits : Int) : Bool := qfl v hi lo bits && decide (bits < q8 v)
def bitP (v : Bool) (bits : Int) : Int × Int := shlN (q8 v - bits - 1).toNat (0, 1)
def lowP (v : Bool) (hi lo bits : Int) : AV := mkP v hi lo (bits + 1)
def qu8 (v : Bool) (hi lo bits : Int) : AV := mkP v (qcg .or .u64 hi (bitP v bits).1) (qcg .or .u64 lo (bitP v bits).2) (bits + 1)
def q4r (v : Bool) (hi lo bits : Int) : AV × AV × Bool := bif qmn v hi lo bits then (lowP v hi lo bits, qu8 v hi lo bits, true) else (qbpf, qbpf, false)
theorem qqy {v : Bool} {hi lo bits : Int} (h : qmn v hi lo bits = true) : qfl v hi lo bits = true ∧ 0 ≤ bits ∧ bits < q8 v ∧ bits < 128 := by
  unfold qmn at h
  simp only [Bool.and_eq_true, decide_eq_true_eq] at h
  have := qkr v
  exact ⟨h.1, (qgc h.1).1, h.2, by omega⟩
theorem qbrt {v : Bool} {bits : Int} (h0 : 0 ≤ bits) (h : bits < q8 v) : uok (bitP v bits).1 ∧ uok (bitP v bits).2 := by
  have := qkr v
  exact qbs5 ⟨(q8 v - bits - 1).toNat, by omega⟩
theorem qbj0 {v : Bool} {hi lo bits : Int} : qx3 v hi lo bits (IntKind.i64.wrap (bits + 1)) = qmn v hi lo bits := by
  unfold qx3 qmn
  cases hp : qfl v hi lo bits with
  | false => rfl
  | true =>
    obtain ⟨h1, h2, _⟩ := qgc hp
    have := qkr v
    rw [w64 (by omega) (by omega)]
    simp only [Bool.true_and]
    have : bits ≤ bits + 1 := by omega
    simp [this]
    omega
theorem qbru {v : Bool} {hi lo bits : Int} (h : qmn v hi lo bits = true) (u1 : uok hi) (u2 : uok lo) : qcg .and .u64 hi (bitP v bits).1 = 0 ∧ qcg .and .u64 lo (bitP v bits).2 = 0 := by
  obtain ⟨h1, h2, h3, h4⟩ := qqy h
  obtain ⟨_, _, _, h5⟩ := (qz2 u1 u2).1 h1
  have hl := qkr v
  obtain ⟨k, hk⟩ : ∃ k, kOf v bits = k + 1 := ⟨(q8 v - bits - 1).toNat, by unfold kOf; omega⟩
  have hk2 : (q8 v - bits - 1).toNat = k := by unfold kOf at hk; omega
  have hk3 : k < 128 := by omega
  unfold bitP
  rw [hk2]
  rw [hk] at h5
  obtain ⟨a1, a2⟩ := u1
  obtain ⟨b1, b2⟩ := u2
  have mask : ∀ {x : Int} (j : Nat), uok x → j < 64 → x.toNat % 2 ^ (j + 1) = 0 → qcg .and .u64 x ((2 ^ j : Nat) : Int) = 0 := by
    intro x j hx hj hm
    have hp : (2 : Nat) ^ j < 2 ^ 64 := Nat.pow_lt_pow_right (by decide) hj
    have h0 : 0 < (2 : Nat) ^ j := Nat.two_pow_pos j
    rw [q93]
    have e1 := qwy hx
    have e2 := qwy (x := ((2 ^ j : Nat) : Int)) ⟨by omega, by rw [q59] at hp; omega⟩
    rw [BitVec.toNat_and]
    have e3 : (BitVec.ofInt 64 x).toNat = x.toNat := by omega
    have e4 : (BitVec.ofInt 64 ((2 ^ j : Nat) : Int)).toNat = 2 ^ j := by omega
    rw [e3, e4]
    have : x.toNat.testBit j = false := by
      rw [Nat.testBit_eq_decide_div_mod_eq]
      have h6 : x.toNat / 2 ^ j % 2 = 0 := by
        rw [Nat.pow_succ, ] at hm
        have := Nat.mod_mul_right_div_self x.toNat (2 ^ j) 2
        rw [hm] at this
        simpa using this.symm
      simp [h6]
    have h7 : x.toNat &&& 2 ^ j = 0 := by
      refine Nat.eq_of_testBit_eq fun i => ?_
      rw [Nat.testBit_and, Nat.testBit_two_pow]
      by_cases hij : j = i
      · subst hij; simp [this]
      · simp [hij]
    rw [h7]; rfl
  rcases Nat.lt_or_ge k 64 with h6 | h6
  · rw [qbiu ⟨k, h6⟩]
    refine ⟨qwz ⟨a1, a2⟩, mask k ⟨b1, b2⟩ h6 ?_⟩
    have := q95 hi.toNat lo.toNat (k + 1) (by omega)
    unfold numP at h5
    omega
  · obtain ⟨j, rfl⟩ : ∃ j, k = j + 64 := ⟨k - 64, by omega⟩
    rw [qbed ⟨j, by omega⟩]
    refine ⟨mask j ⟨a1, a2⟩ (by omega) ?_, qwz ⟨b1, b2⟩⟩
    have := qbis hi.toNat lo.toNat (j + 1) (by omega)
    unfold numP at h5
    rw [show j + 64 + 1 = j + 1 + 64 by omega, this] at h5
    revert h5
    generalize hi.toNat % 2 ^ (j + 1) = q
    omega
theorem qbrv {v : Bool} {hi lo bits : Int} (h : qmn v hi lo bits = true) : qmq v hi lo bits (bits + 1) 1 = some (qu8 v hi lo bits, true) := by
  obtain ⟨h1, h2, h3, h4⟩ := qqy h
  have hw0 : IntKind.i64.wrap (bits + 1) = bits + 1 := w64 (by omega) (by omega)
  have hp := qbj0 (v := v) (hi := hi) (lo := lo) (bits := bits)
  rw [hw0, h] at hp
  rw [qv6]; unfold qsf
  rw [qbm6, hp]
  have hl := qkr v
  have e1 : IntKind.i64.wrap (bits + 1 - bits) = 1 := by rw [w64 (by omega) (by omega)]; omega
  have e2 : IntKind.i64.wrap (q8 v - (bits + 1)) = q8 v - bits - 1 := by rw [w64 (by omega) (by omega)]; omega
  have e3 : IntKind.u64.wrap (q8 v - bits - 1) = q8 v - bits - 1 := wu64 (by omega) (by omega)
  simp only [Bool.not_true, cond_f, e1, qqn, qmy, q1n, oB_s, e2, e3]
  rw [show decide ((1 : Int) < 64) = true by decide, show decide (IntKind.u64.wrap 1 < 0) = false by decide, show ((1 : Int).fdiv (2 ^ min (IntKind.u64.wrap 1).toNat IntKind.u64.bits) != 0) = false by decide]
  simp only [cond_t, cond_f]
  rw [qqo]; unfold qm0
  obtain ⟨k, hk⟩ : ∃ k : Nat, q8 v - bits - 1 = k := ⟨(q8 v - bits - 1).toNat, by omega⟩
  have hk3 : k < 128 := by omega
  unfold qu8 bitP
  rw [hk, Int.toNat_natCast]
  rcases Nat.lt_or_ge k 64 with h6 | h6
  · have a1 : ¬ (k : Int) ≥ 64 := by omega
    rw [qbiu ⟨k, h6⟩]
    simp only [a1, decide_false, cond_f]
    by_cases hk0 : k = 0
    · subst hk0; rfl
    · have a2 : (k : Int) > 0 := by omega
      have a3 : ¬ (k : Int) < 0 := by omega
      have fin : ∀ j : Fin 64, j.val ≠ 0 → ¬ IntKind.u64.wrap (64 - (j.val : Int)) < 0 ∧ (1 : Int).fdiv (2 ^ min (IntKind.u64.wrap (64 - (j.val : Int))).toNat IntKind.u64.bits) = 0 ∧ IntKind.u64.wrap (1 * 2 ^ min j.val IntKind.u64.bits) = ((2 ^ j.val : Nat) : Int) := by decide +kernel
      obtain ⟨f1, f2, f3⟩ := fin ⟨k, h6⟩ hk0
      simp only at f1 f2 f3
      simp only [a2, decide_true, cond_t, a3, decide_false, cond_f, f1, f2, f3]
      rfl
  · obtain ⟨j, rfl⟩ : ∃ j, k = j + 64 := ⟨k - 64, by omega⟩
    have a1 : ((j + 64 : Nat) : Int) ≥ 64 := by omega
    rw [qbed ⟨j, by omega⟩]
    have fin : ∀ j : Fin 64, ¬ IntKind.u64.wrap (((j.val + 64 : Nat) : Int) - 64) < 0 ∧ IntKind.u64.wrap (1 * 2 ^ min (IntKind.u64.wrap (((j.val + 64 : Nat) : Int) - 64)).toNat IntKind.u64.bits) = ((2 ^ j.val : Nat) : Int) := by decide +kernel
    obtain ⟨f1, f2⟩ := fin ⟨j, by omega⟩
    simp only at f1 f2
    simp only [a1, decide_true, cond_t, f1, f2, decide_false, cond_f]
    rfl
theorem q96 (v : Bool) (hi lo bits : Int) (u1 : uok hi) (u2 : uok lo) : qkw v hi lo bits = some (q4r v hi lo bits) := by
  rw [q0u]; unfold qud q4r
  rw [qbrs u1 u2, qbj0]
  simp only [qvl, qqp, q1o, oB_s]
  cases hh : qmn v hi lo bits with
  | false => rfl
  | true =>
    obtain ⟨h1, h2, h3, h4⟩ := qqy hh
    have hw : IntKind.i64.wrap (bits + 1) = bits + 1 := w64 (by omega) (by omega)
    simp only [cond_t, Bool.not_true, cond_f, h1, hw, qbrv hh, oB_s]
    rfl
theorem qbrw {v : Bool} {hi lo bits : Int} (h : qmn v hi lo bits = true) (u1 : uok hi) (u2 : uok lo) :
    numP (qcg .or .u64 hi (bitP v bits).1) (qcg .or .u64 lo (bitP v bits).2) = numP hi lo + 2 ^ kOf v (bits + 1) := by
  obtain ⟨h1, h2, h3, h4⟩ := qqy h
  obtain ⟨o1, o2⟩ := qbrt h2 h3
  obtain ⟨f1, f2⟩ := qbru h u1 u2
  have hl := qkr v
  have hk : kOf v (bits + 1) = (q8 v - bits - 1).toNat := by unfold kOf; congr 1; omega
  rw [← qbmz u1 o1 f1, ← qbmz u2 o2 f2, hk, ← qbs6 (n := (q8 v - bits - 1).toNat) (by omega)]
  unfold bitP at o1 o2 ⊢
  unfold numP
  obtain ⟨a1, a2⟩ := u1
  obtain ⟨b1, b2⟩ := u2
  obtain ⟨c1, c2⟩ := o1
  obtain ⟨d1, d2⟩ := o2
  rw [Int.toNat_add a1 c1, Int.toNat_add b1 d1]
  omega
end Go.Proofs.Ytmjdngnagiloeaa.Dn
