/- Parts and halves of prefixes, the program's and the reference's. -/
import Derived.Test.YtmfghgaboaocgaaChLw46d
set_option linter.all false
namespace Go.Proofs.Ytmfghgaboaocgaa.Dn
open Go Go.Pev
set_option linter.unusedVariables false
set_option linter.unusedSimpArgs false
set_option maxRecDepth 4000
theorem qb06 {x : Int} (h : uok x) : qbx .or .u64 x 0 = x := by
  have := qbmp h (y := 0) ⟨by omega, by omega⟩ (q4j h)
  omega
def shl1 (p : Int × Int) : Int × Int := (IntKind.u64.wrap (IntKind.u64.wrap (p.1 * 2) + IntKind.u64.wrap (p.2.tdiv 9223372036854775808)), IntKind.u64.wrap (p.2 * 2))
def shlN : Nat → Int × Int → Int × Int
  | 0, p => p
  | n + 1, p => shlN n (shl1 p)
theorem qbxy : ∀ n, shlN n (0, 0) = (0, 0)
  | 0 => rfl
  | n + 1 => by unfold shlN; rw [show shl1 (0, 0) = (0, 0) by decide]; exact qbxy n
theorem qbwu : ∀ n : Fin 64, shlN n (0, 1) = (0, ((2 ^ n.val : Nat) : Int)) := by decide +kernel
theorem qbsd : ∀ n : Fin 64, shlN (n.val + 64) (0, 1) = (((2 ^ n.val : Nat) : Int), 0) := by decide +kernel
theorem qb7h : ∀ n : Fin 128, (0 ≤ (shlN n (0, 1)).1 ∧ (shlN n (0, 1)).1 ≤ 18446744073709551615) ∧ (0 ≤ (shlN n (0, 1)).2 ∧ (shlN n (0, 1)).2 ≤ 18446744073709551615) := by decide +kernel
theorem qb7i {n : Nat} (h : n < 128) : numP (shlN n (0, 1)).1 (shlN n (0, 1)).2 = 2 ^ n := by
  unfold numP
  rcases Nat.lt_or_ge n 64 with h1 | h1
  · rw [qbwu ⟨n, h1⟩]
    show (0 : Int).toNat * 18446744073709551616 + (((2 ^ n : Nat) : Int)).toNat = 2 ^ n
    rw [Int.toNat_natCast]
    simp
  · obtain ⟨j, rfl⟩ : ∃ j, n = j + 64 := ⟨n - 64, by omega⟩
    rw [qbsd ⟨j, by omega⟩, Nat.pow_add, qbgn]
    show (((2 ^ j : Nat) : Int)).toNat * 18446744073709551616 + (0 : Int).toNat = _
    rw [Int.toNat_natCast]
    simp
theorem qb5y (n : Int) (v : Bool) (hi lo bits : Int) (c0 : Bool) (c1 c2 c3 : Int) (kx : Int → Int → Option (AV × Bool)) : ∀ (k : Nat) (p : Int × Int) (i : Int), -1000 ≤ i → (qn v - i).toNat = k →
    ∀ m, k < m → qhc n v hi lo bits c0 c1 c2 c3 kx m p.1 p.2 i = kx (shlN k p).1 (shlN k p).2 := by
  intro k
  have hl := qhg v
  induction k with
  | zero =>
    intro p i h0 hk m hm
    obtain ⟨m, rfl⟩ : ∃ j, m = j + 1 := ⟨m - 1, by omega⟩
    have : ¬ i < qn v := by omega
    simp only [qhc, qj9, qbmm, oB_s, this, decide_false, cond_f]
    rfl
  | succ k ih =>
    intro p i h0 hk m hm
    obtain ⟨m, rfl⟩ : ∃ j, m = j + 1 := ⟨m - 1, by omega⟩
    have : i < qn v := by omega
    have hw : IntKind.i64.wrap (i + 1) = i + 1 := w64 (by omega) (by omega)
    simp only [qhc, qj9, qbmm, oB_s, this, decide_true, cond_t, hw]
    exact ih (shl1 p) (i + 1) (by omega) (by omega) m (by omega)
def qo1 : AV := mkP false 0 0 0
def qmi (v : Bool) (hi lo bits n : Int) : Bool := qdy v hi lo bits && (decide (bits ≤ n) && decide (n ≤ qn v))
theorem qbmt {v : Bool} {hi lo bits n : Int} (h : qmi v hi lo bits n = true) : qdy v hi lo bits = true ∧ 0 ≤ bits ∧ bits ≤ n ∧ n ≤ qn v ∧ n ≤ 128 := by
  unfold qmi at h
  simp only [Bool.and_eq_true, decide_eq_true_eq] at h
  have h1 := qfo h.1
  have := qhg v
  exact ⟨h.1, h1.1, h.2.1, h.2.2, by omega⟩
theorem qb5z {v : Bool} {hi lo bits n i : Int} (c0 : Bool) (c1 c2 c3 : Int) (kn : Bool → Option (AV × Bool)) : qni n i v hi lo bits c0 c1 c2 c3 kn = kn (!qmi v hi lo bits n) := by
  rw [q2s]; unfold qu7 qmi
  simp only [q0d, qbmm, oB_s]
  have e1 : decide (n < bits) = !decide (bits ≤ n) := by rw [Bool.eq_iff_iff]; simp
  have e2 : decide (n > qn v) = !decide (n ≤ qn v) := by rw [Bool.eq_iff_iff]; simp
  rw [e1, e2]
  cases qdy v hi lo bits <;> cases decide (bits ≤ n) <;> rfl
theorem qb2o {v : Bool} {hi lo bits n i : Int} : qgj v hi lo bits n i = some (bif !qmi v hi lo bits n then (qo1, false) else bif decide (i > (qfd (n - bits).toNat).2) then (qo1, false) else
    (mkP v (IntKind.u64.wrap (hi + (shlN (qn v - n).toNat (0, i)).1)) (IntKind.u64.wrap (lo + (shlN (qn v - n).toNat (0, i)).2)) n, true)) := by
  rw [q8j]; unfold q1c
  rw [qb5z]
  cases hp : qmi v hi lo bits n with
  | false => rfl
  | true =>
    obtain ⟨h1, h2, h3, h4, h5⟩ := qbmt hp
    have hw : IntKind.i64.wrap (n - bits) = n - bits := w64 (by omega) (by omega)
    have hm : (min (n - bits) 128).toNat = (n - bits).toNat := by congr 1; omega
    simp only [Bool.not_true, cond_f, hw, qb0x, oB_s, hm]
    rw [q1b]
    rw [qb5y n v hi lo bits false 0 0 0 _ _ (0, i) n (by omega) rfl FU (qkg (by have := qhg v; omega))]
    cases decide (i > (qfd (n - bits).toNat).2) <;> rfl
theorem qbgq {v : Bool} {hi lo bits n : Int} (u1 : uok hi) (u2 : uok lo) : qgj v hi lo bits n 0 = some (bif qmi v hi lo bits n then (mkP v hi lo n, true) else (qo1, false)) := by
  rw [qb2o]
  cases hp : qmi v hi lo bits n with
  | false => rfl
  | true =>
    obtain ⟨h1, h2, h3, h4, h5⟩ := qbmt hp
    have h6 := (qb5p ⟨(n - bits).toNat, by omega⟩).2.1
    have h7 : ¬ (0 : Int) > (qfd (n - bits).toNat).2 := by simp only at h6; omega
    rw [qbxy]
    simp only [Bool.not_true, cond_f, h7, decide_false, Int.add_zero, cond_t]
    rw [wu64 u1.1 u1.2, wu64 u2.1 u2.2]
theorem qb07 {v : Bool} {hi lo bits n i : Int} (c0 : Bool) (c1 c2 c3 : Int) (kn : Bool → Option (AV × Bool)) : qp4 n i v hi lo bits c0 c1 c2 c3 kn = kn (!qmi v hi lo bits n) := by
  rw [q6z]; unfold qyy qmi
  simp only [q9g, q9f, oB_s]
  have e1 : decide (n < bits) = !decide (bits ≤ n) := by rw [Bool.eq_iff_iff]; simp
  have e2 : decide (n > qn v) = !decide (n ≤ qn v) := by rw [Bool.eq_iff_iff]; simp
  rw [e1, e2]
  cases qdy v hi lo bits <;> cases decide (bits ≤ n) <;> rfl
theorem qbgr {v : Bool} {hi lo bits n : Int} (u1 : uok hi) (u2 : uok lo) : qem v hi lo bits n 0 = some (bif qmi v hi lo bits n then (mkP v hi lo n, true) else (qo1, false)) := by
  rw [q3m]; unfold qx8
  rw [qb07]
  cases hp : qmi v hi lo bits n with
  | false => rfl
  | true =>
    obtain ⟨h1, h2, h3, h4, h5⟩ := qbmt hp
    have hw : IntKind.i64.wrap (n - bits) = n - bits := w64 (by omega) (by omega)
    have hw2 : IntKind.i64.wrap (qn v - n) = qn v - n := w64 (by have := qhg v; omega) (by have := qhg v; omega)
    have hu : IntKind.u64.wrap (n - bits) = n - bits := wu64 (by omega) (by omega)
    have hu2 : IntKind.u64.wrap (qn v - n) = qn v - n := wu64 (by omega) (by have := qhg v; omega)
    have a0 : ¬ n - bits < 0 := by omega
    simp only [Bool.not_true, cond_f, cond_t, hw, quq, qph, hu, a0, decide_false, Int.zero_fdiv, bne_self_eq_false, q9f, oB_s, hw2, hu2]
    have fin : (bif decide (n - bits < 64) then qij n 0 (qn v - n) 0 0 v hi lo bits false 0 0 0 (fun a b => some (mkP v (qbx .or .u64 hi a) (qbx .or .u64 lo b) n, true)) else qij n 0 (qn v - n) 0 0 v hi lo bits false 0 0 0 (fun a b => some (mkP v (qbx .or .u64 hi a) (qbx .or .u64 lo b) n, true))) = some (mkP v hi lo n, true) := by
      have e : qij n 0 (qn v - n) 0 0 v hi lo bits false 0 0 0 (fun a b => some (mkP v (qbx .or .u64 hi a) (qbx .or .u64 lo b) n, true)) = some (mkP v hi lo n, true) := by
        rw [qur]; unfold qpj
        have q0 : IntKind.u64.wrap 0 = 0 := by decide
        have hnn : ∀ x, ¬ IntKind.u64.wrap x < 0 := fun x => by
          have : 0 ≤ IntKind.u64.wrap x := by simp [IntKind.wrap, IntKind.signed]; omega
          omega
        have a1 : ¬ qn v - n < 0 := by omega
        simp only [Int.zero_mul, Int.zero_fdiv, q0, hnn, a1, decide_false, cond_f, qb06 u1, qb06 u2]
        cases decide (qn v - n ≥ 64) <;> cases decide (qn v - n > 0) <;> rfl
      rw [e]; cases decide (n - bits < 64) <;> rfl
    exact fin
def qmj (v : Bool) (hi lo bits : Int) : Bool := qdy v hi lo bits && decide (bits < qn v)
def bitP (v : Bool) (bits : Int) : Int × Int := shlN (qn v - bits - 1).toNat (0, 1)
def lowP (v : Bool) (hi lo bits : Int) : AV := mkP v hi lo (bits + 1)
def q2d (v : Bool) (hi lo bits : Int) : AV := mkP v (qbx .or .u64 hi (bitP v bits).1) (qbx .or .u64 lo (bitP v bits).2) (bits + 1)
def qsm (v : Bool) (hi lo bits : Int) : AV × AV × Bool := bif qmj v hi lo bits then (lowP v hi lo bits, q2d v hi lo bits, true) else (qo1, qo1, false)
theorem q5y {v : Bool} {hi lo bits : Int} (h : qmj v hi lo bits = true) : qdy v hi lo bits = true ∧ 0 ≤ bits ∧ bits < qn v ∧ bits < 128 := by
  unfold qmj at h
  simp only [Bool.and_eq_true, decide_eq_true_eq] at h
  have := qhg v
  exact ⟨h.1, (qfo h.1).1, h.2, by omega⟩
theorem qb08 {v : Bool} {bits : Int} (h0 : 0 ≤ bits) (h : bits < qn v) : uok (bitP v bits).1 ∧ uok (bitP v bits).2 := by
  have := qhg v
  exact qb7h ⟨(qn v - bits - 1).toNat, by omega⟩
theorem qbmu {v : Bool} {hi lo bits : Int} : qmi v hi lo bits (IntKind.i64.wrap (bits + 1)) = qmj v hi lo bits := by
  unfold qmi qmj
  cases hp : qdy v hi lo bits with
  | false => rfl
  | true =>
    obtain ⟨h1, h2, _⟩ := qfo hp
    have := qhg v
    rw [w64 (by omega) (by omega)]
    simp only [Bool.true_and]
    have : bits ≤ bits + 1 := by omega
    simp [this]
    omega
theorem qb09 {v : Bool} {hi lo bits : Int} (h : qmj v hi lo bits = true) (u1 : uok hi) (u2 : uok lo) : qbx .and .u64 hi (bitP v bits).1 = 0 ∧ qbx .and .u64 lo (bitP v bits).2 = 0 := by
  obtain ⟨h1, h2, h3, h4⟩ := q5y h
  obtain ⟨_, _, _, h5⟩ := (q2c u1 u2).1 h1
  have hl := qhg v
  obtain ⟨k, hk⟩ : ∃ k, kOf v bits = k + 1 := ⟨(qn v - bits - 1).toNat, by unfold kOf; omega⟩
  have hk2 : (qn v - bits - 1).toNat = k := by unfold kOf at hk; omega
  have hk3 : k < 128 := by omega
  unfold bitP
  rw [hk2]
  rw [hk] at h5
  obtain ⟨a1, a2⟩ := u1
  obtain ⟨b1, b2⟩ := u2
  have mask : ∀ {x : Int} (j : Nat), uok x → j < 64 → x.toNat % 2 ^ (j + 1) = 0 → qbx .and .u64 x ((2 ^ j : Nat) : Int) = 0 := by
    intro x j hx hj hm
    have hp : (2 : Nat) ^ j < 2 ^ 64 := Nat.pow_lt_pow_right (by decide) hj
    have h0 : 0 < (2 : Nat) ^ j := Nat.two_pow_pos j
    rw [qbmn]
    have e1 := q7s hx
    have e2 := q7s (x := ((2 ^ j : Nat) : Int)) ⟨by omega, by rw [qbgn] at hp; omega⟩
    rw [BitVec.toNat_and]
    have e3 : (BitVec.ofInt 64 x).toNat = x.toNat := by omega
    have e4 : (BitVec.ofInt 64 ((2 ^ j : Nat) : Int)).toNat = 2 ^ j := by omega
    rw [e3, e4]
    have : x.toNat.testBit j = false := by
      rw [Nat.testBit_eq_decide_div_mod_eq]
      have h6 : x.toNat / 2 ^ j % 2 = 0 := by
        rw [Nat.pow_succ, ] at hm
        have := Nat.mod_mul_right_div_self x.toNat (2 ^ j) 2
        rw [hm] at this
        simpa using this.symm
      simp [h6]
    have h7 : x.toNat &&& 2 ^ j = 0 := by
      refine Nat.eq_of_testBit_eq fun i => ?_
      rw [Nat.testBit_and, Nat.testBit_two_pow]
      by_cases hij : j = i
      · subst hij; simp [this]
      · simp [hij]
    rw [h7]; rfl
  rcases Nat.lt_or_ge k 64 with h6 | h6
  · rw [qbwu ⟨k, h6⟩]
    refine ⟨q4j ⟨a1, a2⟩, mask k ⟨b1, b2⟩ h6 ?_⟩
    have := qbms hi.toNat lo.toNat (k + 1) (by omega)
    unfold numP at h5
    omega
  · obtain ⟨j, rfl⟩ : ∃ j, k = j + 64 := ⟨k - 64, by omega⟩
    rw [qbsd ⟨j, by omega⟩]
    refine ⟨mask j ⟨a1, a2⟩ (by omega) ?_, q4j ⟨b1, b2⟩⟩
    have := qbwt hi.toNat lo.toNat (j + 1) (by omega)
    unfold numP at h5
    rw [show j + 64 + 1 = j + 1 + 64 by omega, this] at h5
    revert h5
    generalize hi.toNat % 2 ^ (j + 1) = q
    omega
theorem qbxz (v : Bool) (hi lo bits : Int) (u1 : uok hi) (u2 : uok lo) : qly v hi lo bits = some (qsm v hi lo bits) := by
  rw [q5c]; unfold qxc qsm
  rw [qbgq u1 u2, qb2o, qbmu]
  cases hh : qmj v hi lo bits with
  | false => rfl
  | true =>
    obtain ⟨h1, h2, h3, h4⟩ := q5y hh
    have hw : IntKind.i64.wrap (bits + 1) = bits + 1 := w64 (by omega) (by omega)
    rw [hw]
    have e1 : (bits + 1 - bits).toNat = 1 := by omega
    have e2 : (qn v - (bits + 1)).toNat = (qn v - bits - 1).toNat := by omega
    have e3 : decide ((1 : Int) > (qfd 1).2) = false := by decide
    obtain ⟨o1, o2⟩ := qb08 h2 h3
    obtain ⟨f1, f2⟩ := qb09 hh u1 u2
    simp only [Bool.not_true, cond_f, cond_t, oB_s, e1, e3, e2]
    rw [show shlN (qn v - bits - 1).toNat (0, 1) = bitP v bits from rfl]
    rw [qbmp u1 o1 f1, qbmp u2 o2 f2, wu64 (qbdr _ _).1 (qbdr _ _).2, wu64 (qbdr _ _).1 (qbdr _ _).2]
    rfl
theorem qb50 {v : Bool} {hi lo bits : Int} (h : qmj v hi lo bits = true) : qem v hi lo bits (bits + 1) 1 = some (q2d v hi lo bits, true) := by
  obtain ⟨h1, h2, h3, h4⟩ := q5y h
  have hw0 : IntKind.i64.wrap (bits + 1) = bits + 1 := w64 (by omega) (by omega)
  have hp := qbmu (v := v) (hi := hi) (lo := lo) (bits := bits)
  rw [hw0, h] at hp
  rw [q3m]; unfold qx8
  rw [qb07, hp]
  have hl := qhg v
  have e1 : IntKind.i64.wrap (bits + 1 - bits) = 1 := by rw [w64 (by omega) (by omega)]; omega
  have e2 : IntKind.i64.wrap (qn v - (bits + 1)) = qn v - bits - 1 := by rw [w64 (by omega) (by omega)]; omega
  have e3 : IntKind.u64.wrap (qn v - bits - 1) = qn v - bits - 1 := wu64 (by omega) (by omega)
  simp only [Bool.not_true, cond_f, e1, quq, qph, q9f, oB_s, e2, e3]
  rw [show decide ((1 : Int) < 64) = true by decide, show decide (IntKind.u64.wrap 1 < 0) = false by decide, show ((1 : Int).fdiv (2 ^ min (IntKind.u64.wrap 1).toNat IntKind.u64.bits) != 0) = false by decide]
  simp only [cond_t, cond_f]
  rw [qur]; unfold qpj
  obtain ⟨k, hk⟩ : ∃ k : Nat, qn v - bits - 1 = k := ⟨(qn v - bits - 1).toNat, by omega⟩
  have hk3 : k < 128 := by omega
  unfold q2d bitP
  rw [hk, Int.toNat_natCast]
  rcases Nat.lt_or_ge k 64 with h6 | h6
  · have a1 : ¬ (k : Int) ≥ 64 := by omega
    rw [qbwu ⟨k, h6⟩]
    simp only [a1, decide_false, cond_f]
    by_cases hk0 : k = 0
    · subst hk0; rfl
    · have a2 : (k : Int) > 0 := by omega
      have a3 : ¬ (k : Int) < 0 := by omega
      have fin : ∀ j : Fin 64, j.val ≠ 0 → ¬ IntKind.u64.wrap (64 - (j.val : Int)) < 0 ∧ (1 : Int).fdiv (2 ^ min (IntKind.u64.wrap (64 - (j.val : Int))).toNat IntKind.u64.bits) = 0 ∧ IntKind.u64.wrap (1 * 2 ^ min j.val IntKind.u64.bits) = ((2 ^ j.val : Nat) : Int) := by decide +kernel
      obtain ⟨f1, f2, f3⟩ := fin ⟨k, h6⟩ hk0
      simp only at f1 f2 f3
      simp only [a2, decide_true, cond_t, a3, decide_false, cond_f, f1, f2, f3]
      rfl
  · obtain ⟨j, rfl⟩ : ∃ j, k = j + 64 := ⟨k - 64, by omega⟩
    have a1 : ((j + 64 : Nat) : Int) ≥ 64 := by omega
    rw [qbsd ⟨j, by omega⟩]
    have fin : ∀ j : Fin 64, ¬ IntKind.u64.wrap (((j.val + 64 : Nat) : Int) - 64) < 0 ∧ IntKind.u64.wrap (1 * 2 ^ min (IntKind.u64.wrap (((j.val + 64 : Nat) : Int) - 64)).toNat IntKind.u64.bits) = ((2 ^ j.val : Nat) : Int) := by decide +kernel
    obtain ⟨f1, f2⟩ := fin ⟨j, by omega⟩
    simp only at f1 f2
    simp only [a1, decide_true, cond_t, f1, f2, decide_false, cond_f]
    rfl
theorem qbx0 (v : Bool) (hi lo bits : Int) (u1 : uok hi) (u2 : uok lo) : qhj v hi lo bits = some (qsm v hi lo bits) := by
  rw [q8e]; unfold q02 qsm
  rw [qbgr u1 u2, qbmu]
  simp only [q2n, qus, q9g, oB_s]
  cases hh : qmj v hi lo bits with
  | false => rfl
  | true =>
    obtain ⟨h1, h2, h3, h4⟩ := q5y hh
    have hw : IntKind.i64.wrap (bits + 1) = bits + 1 := w64 (by omega) (by omega)
    simp only [cond_t, Bool.not_true, cond_f, h1, hw, qb50 hh, oB_s]
    rfl
theorem qb51 {v : Bool} {hi lo bits : Int} (h : qmj v hi lo bits = true) (u1 : uok hi) (u2 : uok lo) :
    numP (qbx .or .u64 hi (bitP v bits).1) (qbx .or .u64 lo (bitP v bits).2) = numP hi lo + 2 ^ kOf v (bits + 1) := by
  obtain ⟨h1, h2, h3, h4⟩ := q5y h
  obtain ⟨o1, o2⟩ := qb08 h2 h3
  obtain ⟨f1, f2⟩ := qb09 h u1 u2
  have hl := qhg v
  have hk : kOf v (bits + 1) = (qn v - bits - 1).toNat := by unfold kOf; congr 1; omega
  rw [← qbmp u1 o1 f1, ← qbmp u2 o2 f2, hk, ← qb7i (n := (qn v - bits - 1).toNat) (by omega)]
  unfold bitP at o1 o2 ⊢
  unfold numP
  obtain ⟨a1, a2⟩ := u1
  obtain ⟨b1, b2⟩ := u2
  obtain ⟨c1, c2⟩ := o1
  obtain ⟨d1, d2⟩ := o2
  rw [Int.toNat_add a1 c1, Int.toNat_add b1 d1]
  omega
end Go.Proofs.Ytmfghgaboaocgaa.Dn
