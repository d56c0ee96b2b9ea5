/- Parts and halves of prefixes, the program's and the reference's. -/
import Derived.Test.YtmjdngnagiloeaaBgLw46d
set_option linter.all false
namespace Go.Proofs.Ytmjdngnagiloeaa.Dn
open Go Go.Pev
set_option linter.unusedVariables false
set_option linter.unusedSimpArgs false
set_option maxRecDepth 4000
theorem qb06 {x : Int} (h : uok x) : qb4 .or .u64 x 0 = x := by
  have := qbk6 h (y := 0) ⟨by omega, by omega⟩ (q3q h)
  omega
def shl1 (p : Int × Int) : Int × Int := (IntKind.u64.wrap (IntKind.u64.wrap (p.1 * 2) + IntKind.u64.wrap (p.2.tdiv 9223372036854775808)), IntKind.u64.wrap (p.2 * 2))
def shlN : Nat → Int × Int → Int × Int
  | 0, p => p
  | n + 1, p => shlN n (shl1 p)
theorem qbxr : ∀ n, shlN n (0, 0) = (0, 0)
  | 0 => rfl
  | n + 1 => by unfold shlN; rw [show shl1 (0, 0) = (0, 0) by decide]; exact qbxr n
theorem qbwp : ∀ n : Fin 64, shlN n (0, 1) = (0, ((2 ^ n.val : Nat) : Int)) := by decide +kernel
theorem qbrd : ∀ n : Fin 64, shlN (n.val + 64) (0, 1) = (((2 ^ n.val : Nat) : Int), 0) := by decide +kernel
theorem qb7d : ∀ n : Fin 128, (0 ≤ (shlN n (0, 1)).1 ∧ (shlN n (0, 1)).1 ≤ 18446744073709551615) ∧ (0 ≤ (shlN n (0, 1)).2 ∧ (shlN n (0, 1)).2 ≤ 18446744073709551615) := by decide +kernel
theorem qb7e {n : Nat} (h : n < 128) : numP (shlN n (0, 1)).1 (shlN n (0, 1)).2 = 2 ^ n := by
  unfold numP
  rcases Nat.lt_or_ge n 64 with h1 | h1
  · rw [qbwp ⟨n, h1⟩]
    show (0 : Int).toNat * 18446744073709551616 + (((2 ^ n : Nat) : Int)).toNat = 2 ^ n
    rw [Int.toNat_natCast]
    simp
  · obtain ⟨j, rfl⟩ : ∃ j, n = j + 64 := ⟨n - 64, by omega⟩
    rw [qbrd ⟨j, by omega⟩, Nat.pow_add, qbfl]
    show (((2 ^ j : Nat) : Int)).toNat * 18446744073709551616 + (0 : Int).toNat = _
    rw [Int.toNat_natCast]
    simp
theorem qb5u (n : Int) (v : Bool) (hi lo bits : Int) (c0 : Bool) (c1 c2 c3 : Int) (kx : Int → Int → Option (AV × Bool)) : ∀ (k : Nat) (p : Int × Int) (i : Int), -1000 ≤ i → (qp v - i).toNat = k →
    ∀ m, k < m → qg0 n v hi lo bits c0 c1 c2 c3 kx m p.1 p.2 i = kx (shlN k p).1 (shlN k p).2 := by
  intro k
  have hl := qhx v
  induction k with
  | zero =>
    intro p i h0 hk m hm
    obtain ⟨m, rfl⟩ : ∃ j, m = j + 1 := ⟨m - 1, by omega⟩
    have : ¬ i < qp v := by omega
    simp only [qg0, qkh, qbk3, oB_s, this, decide_false, cond_f]
    rfl
  | succ k ih =>
    intro p i h0 hk m hm
    obtain ⟨m, rfl⟩ : ∃ j, m = j + 1 := ⟨m - 1, by omega⟩
    have : i < qp v := by omega
    have hw : IntKind.i64.wrap (i + 1) = i + 1 := w64 (by omega) (by omega)
    simp only [qg0, qkh, qbk3, oB_s, this, decide_true, cond_t, hw]
    exact ih (shl1 p) (i + 1) (by omega) (by omega) m (by omega)
def qblr : AV := mkP false 0 0 0
def qo5 (v : Bool) (hi lo bits n : Int) : Bool := qdz v hi lo bits && (decide (bits ≤ n) && decide (n ≤ qp v))
theorem qbla {v : Bool} {hi lo bits n : Int} (h : qo5 v hi lo bits n = true) : qdz v hi lo bits = true ∧ 0 ≤ bits ∧ bits ≤ n ∧ n ≤ qp v ∧ n ≤ 128 := by
  unfold qo5 at h
  simp only [Bool.and_eq_true, decide_eq_true_eq] at h
  have h1 := qf3 h.1
  have := qhx v
  exact ⟨h.1, h1.1, h.2.1, h.2.2, by omega⟩
theorem qb5v {v : Bool} {hi lo bits n i : Int} (c0 : Bool) (c1 c2 c3 : Int) (kn : Bool → Option (AV × Bool)) : qnv n i v hi lo bits c0 c1 c2 c3 kn = kn (!qo5 v hi lo bits n) := by
  rw [q12]; unfold qur qo5
  simp only [q45, qbk3, oB_s]
  have e1 : decide (n < bits) = !decide (bits ≤ n) := by rw [Bool.eq_iff_iff]; simp
  have e2 : decide (n > qp v) = !decide (n ≤ qp v) := by rw [Bool.eq_iff_iff]; simp
  rw [e1, e2]
  cases qdz v hi lo bits <;> cases decide (bits ≤ n) <;> rfl
theorem qb2l {v : Bool} {hi lo bits n i : Int} : qmc v hi lo bits n i = some (bif !qo5 v hi lo bits n then (qblr, false) else bif decide (i > (qe6 (n - bits).toNat).2) then (qblr, false) else
    (mkP v (IntKind.u64.wrap (hi + (shlN (qp v - n).toNat (0, i)).1)) (IntKind.u64.wrap (lo + (shlN (qp v - n).toNat (0, i)).2)) n, true)) := by
  rw [q8m]; unfold q0e
  rw [qb5v]
  cases hp : qo5 v hi lo bits n with
  | false => rfl
  | true =>
    obtain ⟨h1, h2, h3, h4, h5⟩ := qbla hp
    have hw : IntKind.i64.wrap (n - bits) = n - bits := w64 (by omega) (by omega)
    have hm : (min (n - bits) 128).toNat = (n - bits).toNat := by congr 1; omega
    simp only [Bool.not_true, cond_f, hw, qb0v, oB_s, hm]
    rw [q0d]
    rw [qb5u n v hi lo bits false 0 0 0 _ _ (0, i) n (by omega) rfl FU (qln (by have := qhx v; omega))]
    cases decide (i > (qe6 (n - bits).toNat).2) <;> rfl
theorem qb5w {v : Bool} {hi lo bits n : Int} (u1 : uok hi) (u2 : uok lo) : qmc v hi lo bits n 0 = some (bif qo5 v hi lo bits n then (mkP v hi lo n, true) else (qblr, false)) := by
  rw [qb2l]
  cases hp : qo5 v hi lo bits n with
  | false => rfl
  | true =>
    obtain ⟨h1, h2, h3, h4, h5⟩ := qbla hp
    have h6 := (qb5o ⟨(n - bits).toNat, by omega⟩).2.1
    have h7 : ¬ (0 : Int) > (qe6 (n - bits).toNat).2 := by simp only at h6; omega
    rw [qbxr]
    simp only [Bool.not_true, cond_f, h7, decide_false, Int.add_zero, cond_t]
    rw [wu64 u1.1 u1.2, wu64 u2.1 u2.2]
theorem qb07 {v : Bool} {hi lo bits n i : Int} (c0 : Bool) (c1 c2 c3 : Int) (kn : Bool → Option (AV × Bool)) : qqe n i v hi lo bits c0 c1 c2 c3 kn = kn (!qo5 v hi lo bits n) := by
  rw [q6i]; unfold qxr qo5
  simp only [q9a, q89, oB_s]
  have e1 : decide (n < bits) = !decide (bits ≤ n) := by rw [Bool.eq_iff_iff]; simp
  have e2 : decide (n > qp v) = !decide (n ≤ qp v) := by rw [Bool.eq_iff_iff]; simp
  rw [e1, e2]
  cases qdz v hi lo bits <;> cases decide (bits ≤ n) <;> rfl
theorem qb5x {v : Bool} {hi lo bits n : Int} (u1 : uok hi) (u2 : uok lo) : qpa v hi lo bits n 0 = some (bif qo5 v hi lo bits n then (mkP v hi lo n, true) else (qblr, false)) := by
  rw [q2r]; unfold qww
  rw [qb07]
  cases hp : qo5 v hi lo bits n with
  | false => rfl
  | true =>
    obtain ⟨h1, h2, h3, h4, h5⟩ := qbla hp
    have hw : IntKind.i64.wrap (n - bits) = n - bits := w64 (by omega) (by omega)
    have hw2 : IntKind.i64.wrap (qp v - n) = qp v - n := w64 (by have := qhx v; omega) (by have := qhx v; omega)
    have hu : IntKind.u64.wrap (n - bits) = n - bits := wu64 (by omega) (by omega)
    have hu2 : IntKind.u64.wrap (qp v - n) = qp v - n := wu64 (by omega) (by have := qhx v; omega)
    have a0 : ¬ n - bits < 0 := by omega
    simp only [Bool.not_true, cond_f, cond_t, hw, quc, qpr, hu, a0, decide_false, Int.zero_fdiv, bne_self_eq_false, q89, oB_s, hw2, hu2]
    have fin : (bif decide (n - bits < 64) then qiw n 0 (qp v - n) 0 0 v hi lo bits false 0 0 0 (fun a b => some (mkP v (qb4 .or .u64 hi a) (qb4 .or .u64 lo b) n, true)) else qiw n 0 (qp v - n) 0 0 v hi lo bits false 0 0 0 (fun a b => some (mkP v (qb4 .or .u64 hi a) (qb4 .or .u64 lo b) n, true))) = some (mkP v hi lo n, true) := by
      have e : qiw n 0 (qp v - n) 0 0 v hi lo bits false 0 0 0 (fun a b => some (mkP v (qb4 .or .u64 hi a) (qb4 .or .u64 lo b) n, true)) = some (mkP v hi lo n, true) := by
        rw [qud]; unfold qpt
        have q0 : IntKind.u64.wrap 0 = 0 := by decide
        have hnn : ∀ x, ¬ IntKind.u64.wrap x < 0 := fun x => by
          have : 0 ≤ IntKind.u64.wrap x := by simp [IntKind.wrap, IntKind.signed]; omega
          omega
        have a1 : ¬ qp v - n < 0 := by omega
        simp only [Int.zero_mul, Int.zero_fdiv, q0, hnn, a1, decide_false, cond_f, qb06 u1, qb06 u2]
        cases decide (qp v - n ≥ 64) <;> cases decide (qp v - n > 0) <;> rfl
      rw [e]; cases decide (n - bits < 64) <;> rfl
    exact fin
def qlo (v : Bool) (hi lo bits : Int) : Bool := qdz v hi lo bits && decide (bits < qp v)
def bitP (v : Bool) (bits : Int) : Int × Int := shlN (qp v - bits - 1).toNat (0, 1)
def lowP (v : Bool) (hi lo bits : Int) : AV := mkP v hi lo (bits + 1)
def qrz (v : Bool) (hi lo bits : Int) : AV := mkP v (qb4 .or .u64 hi (bitP v bits).1) (qb4 .or .u64 lo (bitP v bits).2) (bits + 1)
def qvc (v : Bool) (hi lo bits : Int) : AV × AV × Bool := bif qlo v hi lo bits then (lowP v hi lo bits, qrz v hi lo bits, true) else (qblr, qblr, false)
theorem qyy {v : Bool} {hi lo bits : Int} (h : qlo v hi lo bits = true) : qdz v hi lo bits = true ∧ 0 ≤ bits ∧ bits < qp v ∧ bits < 128 := by
  unfold qlo at h
  simp only [Bool.and_eq_true, decide_eq_true_eq] at h
  have := qhx v
  exact ⟨h.1, (qf3 h.1).1, h.2, by omega⟩
theorem qb08 {v : Bool} {bits : Int} (h0 : 0 ≤ bits) (h : bits < qp v) : uok (bitP v bits).1 ∧ uok (bitP v bits).2 := by
  have := qhx v
  exact qb7d ⟨(qp v - bits - 1).toNat, by omega⟩
theorem qblb {v : Bool} {hi lo bits : Int} : qo5 v hi lo bits (IntKind.i64.wrap (bits + 1)) = qlo v hi lo bits := by
  unfold qo5 qlo
  cases hp : qdz v hi lo bits with
  | false => rfl
  | true =>
    obtain ⟨h1, h2, _⟩ := qf3 hp
    have := qhx v
    rw [w64 (by omega) (by omega)]
    simp only [Bool.true_and]
    have : bits ≤ bits + 1 := by omega
    simp [this]
    omega
theorem qb09 {v : Bool} {hi lo bits : Int} (h : qlo v hi lo bits = true) (u1 : uok hi) (u2 : uok lo) : qb4 .and .u64 hi (bitP v bits).1 = 0 ∧ qb4 .and .u64 lo (bitP v bits).2 = 0 := by
  obtain ⟨h1, h2, h3, h4⟩ := qyy h
  obtain ⟨_, _, _, h5⟩ := (q7b u1 u2).1 h1
  have hl := qhx v
  obtain ⟨k, hk⟩ : ∃ k, kOf v bits = k + 1 := ⟨(qp v - bits - 1).toNat, by unfold kOf; omega⟩
  have hk2 : (qp v - bits - 1).toNat = k := by unfold kOf at hk; omega
  have hk3 : k < 128 := by omega
  unfold bitP
  rw [hk2]
  rw [hk] at h5
  obtain ⟨a1, a2⟩ := u1
  obtain ⟨b1, b2⟩ := u2
  have mask : ∀ {x : Int} (j : Nat), uok x → j < 64 → x.toNat % 2 ^ (j + 1) = 0 → qb4 .and .u64 x ((2 ^ j : Nat) : Int) = 0 := by
    intro x j hx hj hm
    have hp : (2 : Nat) ^ j < 2 ^ 64 := Nat.pow_lt_pow_right (by decide) hj
    have h0 : 0 < (2 : Nat) ^ j := Nat.two_pow_pos j
    rw [qbk4]
    have e1 := q69 hx
    have e2 := q69 (x := ((2 ^ j : Nat) : Int)) ⟨by omega, by rw [qbfl] at hp; omega⟩
    rw [BitVec.toNat_and]
    have e3 : (BitVec.ofInt 64 x).toNat = x.toNat := by omega
    have e4 : (BitVec.ofInt 64 ((2 ^ j : Nat) : Int)).toNat = 2 ^ j := by omega
    rw [e3, e4]
    have : x.toNat.testBit j = false := by
      rw [Nat.testBit_eq_decide_div_mod_eq]
      have h6 : x.toNat / 2 ^ j % 2 = 0 := by
        rw [Nat.pow_succ, ] at hm
        have := Nat.mod_mul_right_div_self x.toNat (2 ^ j) 2
        rw [hm] at this
        simpa using this.symm
      simp [h6]
    have h7 : x.toNat &&& 2 ^ j = 0 := by
      refine Nat.eq_of_testBit_eq fun i => ?_
      rw [Nat.testBit_and, Nat.testBit_two_pow]
      by_cases hij : j = i
      · subst hij; simp [this]
      · simp [hij]
    rw [h7]; rfl
  rcases Nat.lt_or_ge k 64 with h6 | h6
  · rw [qbwp ⟨k, h6⟩]
    refine ⟨q3q ⟨a1, a2⟩, mask k ⟨b1, b2⟩ h6 ?_⟩
    have := qbk8 hi.toNat lo.toNat (k + 1) (by omega)
    unfold numP at h5
    omega
  · obtain ⟨j, rfl⟩ : ∃ j, k = j + 64 := ⟨k - 64, by omega⟩
    rw [qbrd ⟨j, by omega⟩]
    refine ⟨mask j ⟨a1, a2⟩ (by omega) ?_, q3q ⟨b1, b2⟩⟩
    have := qbwn hi.toNat lo.toNat (j + 1) (by omega)
    unfold numP at h5
    rw [show j + 64 + 1 = j + 1 + 64 by omega, this] at h5
    revert h5
    generalize hi.toNat % 2 ^ (j + 1) = q
    omega
theorem qbxs (v : Bool) (hi lo bits : Int) (u1 : uok hi) (u2 : uok lo) : ql2 v hi lo bits = some (qvc v hi lo bits) := by
  rw [q4w]; unfold qv9 qvc
  rw [qb5w u1 u2, qb2l, qblb]
  cases hh : qlo v hi lo bits with
  | false => rfl
  | true =>
    obtain ⟨h1, h2, h3, h4⟩ := qyy hh
    have hw : IntKind.i64.wrap (bits + 1) = bits + 1 := w64 (by omega) (by omega)
    rw [hw]
    have e1 : (bits + 1 - bits).toNat = 1 := by omega
    have e2 : (qp v - (bits + 1)).toNat = (qp v - bits - 1).toNat := by omega
    have e3 : decide ((1 : Int) > (qe6 1).2) = false := by decide
    obtain ⟨o1, o2⟩ := qb08 h2 h3
    obtain ⟨f1, f2⟩ := qb09 hh u1 u2
    simp only [Bool.not_true, cond_f, cond_t, oB_s, e1, e3, e2]
    rw [show shlN (qp v - bits - 1).toNat (0, 1) = bitP v bits from rfl]
    rw [qbk6 u1 o1 f1, qbk6 u2 o2 f2, wu64 (qbc7 _ _).1 (qbc7 _ _).2, wu64 (qbc7 _ _).1 (qbc7 _ _).2]
    rfl
theorem qb5y {v : Bool} {hi lo bits : Int} (h : qlo v hi lo bits = true) : qpa v hi lo bits (bits + 1) 1 = some (qrz v hi lo bits, true) := by
  obtain ⟨h1, h2, h3, h4⟩ := qyy h
  have hw0 : IntKind.i64.wrap (bits + 1) = bits + 1 := w64 (by omega) (by omega)
  have hp := qblb (v := v) (hi := hi) (lo := lo) (bits := bits)
  rw [hw0, h] at hp
  rw [q2r]; unfold qww
  rw [qb07, hp]
  have hl := qhx v
  have e1 : IntKind.i64.wrap (bits + 1 - bits) = 1 := by rw [w64 (by omega) (by omega)]; omega
  have e2 : IntKind.i64.wrap (qp v - (bits + 1)) = qp v - bits - 1 := by rw [w64 (by omega) (by omega)]; omega
  have e3 : IntKind.u64.wrap (qp v - bits - 1) = qp v - bits - 1 := wu64 (by omega) (by omega)
  simp only [Bool.not_true, cond_f, e1, quc, qpr, q89, oB_s, e2, e3]
  rw [show decide ((1 : Int) < 64) = true by decide, show decide (IntKind.u64.wrap 1 < 0) = false by decide, show ((1 : Int).fdiv (2 ^ min (IntKind.u64.wrap 1).toNat IntKind.u64.bits) != 0) = false by decide]
  simp only [cond_t, cond_f]
  rw [qud]; unfold qpt
  obtain ⟨k, hk⟩ : ∃ k : Nat, qp v - bits - 1 = k := ⟨(qp v - bits - 1).toNat, by omega⟩
  have hk3 : k < 128 := by omega
  unfold qrz bitP
  rw [hk, Int.toNat_natCast]
  rcases Nat.lt_or_ge k 64 with h6 | h6
  · have a1 : ¬ (k : Int) ≥ 64 := by omega
    rw [qbwp ⟨k, h6⟩]
    simp only [a1, decide_false, cond_f]
    by_cases hk0 : k = 0
    · subst hk0; rfl
    · have a2 : (k : Int) > 0 := by omega
      have a3 : ¬ (k : Int) < 0 := by omega
      have fin : ∀ j : Fin 64, j.val ≠ 0 → ¬ IntKind.u64.wrap (64 - (j.val : Int)) < 0 ∧ (1 : Int).fdiv (2 ^ min (IntKind.u64.wrap (64 - (j.val : Int))).toNat IntKind.u64.bits) = 0 ∧ IntKind.u64.wrap (1 * 2 ^ min j.val IntKind.u64.bits) = ((2 ^ j.val : Nat) : Int) := by decide +kernel
      obtain ⟨f1, f2, f3⟩ := fin ⟨k, h6⟩ hk0
      simp only at f1 f2 f3
      simp only [a2, decide_true, cond_t, a3, decide_false, cond_f, f1, f2, f3]
      rfl
  · obtain ⟨j, rfl⟩ : ∃ j, k = j + 64 := ⟨k - 64, by omega⟩
    have a1 : ((j + 64 : Nat) : Int) ≥ 64 := by omega
    rw [qbrd ⟨j, by omega⟩]
    have fin : ∀ j : Fin 64, ¬ IntKind.u64.wrap (((j.val + 64 : Nat) : Int) - 64) < 0 ∧ IntKind.u64.wrap (1 * 2 ^ min (IntKind.u64.wrap (((j.val + 64 : Nat) : Int) - 64)).toNat IntKind.u64.bits) = ((2 ^ j.val : Nat) : Int) := by decide +kernel
    obtain ⟨f1, f2⟩ := fin ⟨j, by omega⟩
    simp only at f1 f2
    simp only [a1, decide_true, cond_t, f1, f2, decide_false, cond_f]
    rfl
theorem qblc (v : Bool) (hi lo bits : Int) (u1 : uok hi) (u2 : uok lo) : qmb v hi lo bits = some (qvc v hi lo bits) := by
  rw [q77]; unfold qzv qvc
  rw [qb5x u1 u2, qblb]
  simp only [q1o, que, q9a, oB_s]
  cases hh : qlo v hi lo bits with
  | false => rfl
  | true =>
    obtain ⟨h1, h2, h3, h4⟩ := qyy hh
    have hw : IntKind.i64.wrap (bits + 1) = bits + 1 := w64 (by omega) (by omega)
    simp only [cond_t, Bool.not_true, cond_f, h1, hw, qb5y hh, oB_s]
    rfl
theorem qb5z {v : Bool} {hi lo bits : Int} (h : qlo v hi lo bits = true) (u1 : uok hi) (u2 : uok lo) :
    numP (qb4 .or .u64 hi (bitP v bits).1) (qb4 .or .u64 lo (bitP v bits).2) = numP hi lo + 2 ^ kOf v (bits + 1) := by
  obtain ⟨h1, h2, h3, h4⟩ := qyy h
  obtain ⟨o1, o2⟩ := qb08 h2 h3
  obtain ⟨f1, f2⟩ := qb09 h u1 u2
  have hl := qhx v
  have hk : kOf v (bits + 1) = (qp v - bits - 1).toNat := by unfold kOf; congr 1; omega
  rw [← qbk6 u1 o1 f1, ← qbk6 u2 o2 f2, hk, ← qb7e (n := (qp v - bits - 1).toNat) (by omega)]
  unfold bitP at o1 o2 ⊢
  unfold numP
  obtain ⟨a1, a2⟩ := u1
  obtain ⟨b1, b2⟩ := u2
  obtain ⟨c1, c2⟩ := o1
  obtain ⟨d1, d2⟩ := o2
  rw [Int.toNat_add a1 c1, Int.toNat_add b1 d1]
  omega
end Go.Proofs.Ytmjdngnagiloeaa.Dn
