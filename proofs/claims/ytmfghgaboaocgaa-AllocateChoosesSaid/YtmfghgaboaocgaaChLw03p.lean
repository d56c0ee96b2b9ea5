/- Prefixes: what the program's words of layers 2 and 3, and ddiref03's, answer. -/
import Derived.Test.YtmfghgaboaocgaaChLw03
set_option linter.all false
namespace Go.Proofs.Ytmfghgaboaocgaa.Dn
open Go Go.Pev
set_option linter.unusedVariables false
set_option linter.unusedSimpArgs false
set_option maxRecDepth 4000
def uok (x : Int) : Prop := 0 ≤ x ∧ x ≤ 18446744073709551615
theorem qbgm (n : Nat) (h : n < 18446744073709551616) : IntKind.u64.wrap (n : Int) = n := wu64 (by omega) (by omega)
theorem q7s {x : Int} (h : uok x) : ((BitVec.ofInt 64 x).toNat : Int) = x := by
  obtain ⟨h1, h2⟩ := h
  rw [BitVec.toNat_ofInt]
  omega
theorem qbmn (x y : Int) : qbx .and .u64 x y = ((BitVec.ofInt 64 x &&& BitVec.ofInt 64 y).toNat : Int) := by
  have := (BitVec.ofInt 64 x &&& BitVec.ofInt 64 y).isLt
  show IntKind.u64.wrap ((BitVec.ofInt 64 x &&& BitVec.ofInt 64 y).toNat : Int) = _
  exact qbgm _ (by omega)
theorem qb6j (x y : Int) : qbx .or .u64 x y = ((BitVec.ofInt 64 x ||| BitVec.ofInt 64 y).toNat : Int) := by
  have := (BitVec.ofInt 64 x ||| BitVec.ofInt 64 y).isLt
  show IntKind.u64.wrap ((BitVec.ofInt 64 x ||| BitVec.ofInt 64 y).toNat : Int) = _
  exact qbgm _ (by omega)
theorem qbmo (x y : Int) : qbx .andNot .u64 x y = ((BitVec.ofInt 64 x &&& ~~~BitVec.ofInt 64 y).toNat : Int) := by
  have := (BitVec.ofInt 64 x &&& ~~~BitVec.ofInt 64 y).isLt
  show IntKind.u64.wrap ((BitVec.ofInt 64 x &&& ~~~BitVec.ofInt 64 y).toNat : Int) = _
  exact qbgm _ (by omega)
theorem q7t (a b : BitVec 64) : (a &&& b).toNat + (a &&& ~~~b).toNat = a.toNat := by
  have h1 : (a &&& b) &&& (a &&& ~~~b) = 0#64 := by
    ext i hi
    simp
    intro _ h _
    exact h
  have h2 : (a &&& b) ||| (a &&& ~~~b) = a := by
    ext i hi
    simp
    cases a[i] <;> cases b[i] <;> rfl
  have h3 := BitVec.add_eq_or_of_and_eq_zero _ _ h1
  rw [h2] at h3
  have h4 := congrArg BitVec.toNat h3
  rw [BitVec.toNat_add] at h4
  have e1 : (a &&& b).toNat ≤ a.toNat := by rw [BitVec.toNat_and]; exact Nat.and_le_left
  have e2 := (a &&& ~~~b).isLt
  have e3 := a.isLt
  omega
theorem qb2k {x : Int} (y : Int) (h : uok x) : IntKind.u64.wrap (x - qbx .and .u64 x y) = qbx .andNot .u64 x y := by
  have h1 := q7t (BitVec.ofInt 64 x) (BitVec.ofInt 64 y)
  have h2 := q7s h
  rw [qbmn, qbmo]
  have h3 : x - ((BitVec.ofInt 64 x &&& BitVec.ofInt 64 y).toNat : Int) = ((BitVec.ofInt 64 x &&& ~~~BitVec.ofInt 64 y).toNat : Int) := by omega
  rw [h3]
  have := (BitVec.ofInt 64 x &&& ~~~BitVec.ofInt 64 y).isLt
  exact qbgm _ (by omega)
theorem qb4k (a b : BitVec 64) (h : (a &&& b).toNat = 0) : a.toNat + b.toNat = (a ||| b).toNat := by
  have h1 : a &&& b = 0#64 := BitVec.eq_of_toNat_eq h
  have h2 := congrArg BitVec.toNat (BitVec.add_eq_or_of_and_eq_zero _ _ h1)
  rw [BitVec.toNat_add] at h2
  have h3 := q7t a b
  have h4 : (a &&& ~~~b).toNat ≤ (~~~b).toNat := by rw [BitVec.toNat_and]; exact Nat.and_le_right
  rw [BitVec.toNat_not] at h4
  have e3 := b.isLt
  omega
theorem qbmp {x y : Int} (hx : uok x) (hy : uok y) (h : qbx .and .u64 x y = 0) : x + y = qbx .or .u64 x y := by
  rw [qbmn] at h
  rw [qb6j]
  have e1 := q7s hx
  have e2 := q7s hy
  have := qb4k (BitVec.ofInt 64 x) (BitVec.ofInt 64 y) (by omega)
  omega
theorem qbdr (x y : Int) : uok (qbx .or .u64 x y) := by
  rw [qb6j]
  have := (BitVec.ofInt 64 x ||| BitVec.ofInt 64 y).isLt
  exact ⟨by omega, by omega⟩
theorem qb11 {x : Int} (h : uok x) : qbx .andNot .u64 x 0 = x := by
  rw [qbmo]
  have := q7t (BitVec.ofInt 64 x) (BitVec.ofInt 64 0)
  have h2 := q7s h
  have h3 : (BitVec.ofInt 64 x &&& BitVec.ofInt 64 0).toNat = 0 := by simp
  omega
theorem qb5p : ∀ n : Fin 129, (0 ≤ (qfd n).1 ∧ (qfd n).1 ≤ 18446744073709551615) ∧ (0 ≤ (qfd n).2 ∧ (qfd n).2 ≤ 18446744073709551615) := by decide +kernel
theorem qhg (v6 : Bool) : qn v6 ≤ 128 := by unfold qn; split <;> omega
theorem qb74 : ∀ n : Fin 33, qvu false (n.val : Int) = some (qfd (32 - n.val)) := by decide +kernel
theorem qb75 : ∀ n : Fin 129, qvu true (n.val : Int) = some (qfd (128 - n.val)) := by decide +kernel
theorem qb2l {v6 : Bool} {bits : Int} (h1 : 0 ≤ bits) (h2 : bits ≤ qn v6) : qpt v6 bits = some (qfd (qn v6 - bits).toNat) := by
  rw [q94]
  obtain ⟨n, rfl⟩ := Int.eq_ofNat_of_zero_le h1
  cases v6 with
  | false =>
    have h3 : n ≤ 32 := by simp [qn] at h2; omega
    rw [qb74 ⟨n, by omega⟩]
    congr 2
    simp [qn] <;> omega
  | true =>
    have h3 : n ≤ 128 := by simp [qn] at h2; omega
    rw [qb75 ⟨n, by omega⟩]
    congr 2
    simp [qn] <;> omega
theorem qb0y (v6 : Bool) (hi lo : Int) : qvt v6 hi lo = some (qkh v6 hi lo) := by
  rw [qbgw]; unfold q73 qkh
  have : decide (lo ≤ 4294967295) = decide (lo < 4294967296) := by apply decide_eq_decide.2; omega
  cases v6 <;> cases (hi == 0) <;> simp [this]
theorem q9f (v6 : Bool) (hi lo : Int) : qjc v6 hi lo = some (qn v6) := by
  rw [q75]; unfold q0g qn
  cases v6 <;> rfl
theorem q9g (v6 : Bool) (hi lo bits : Int) : qhh v6 hi lo bits = some (qdy v6 hi lo bits) := by
  rw [q95]; unfold q3g
  simp only [q4o, qwi, qb0y, q9f, oB_s]
  unfold qdy
  cases h1 : qkh v6 hi lo
  · simp
  · by_cases h2 : bits < 0
    · have : ¬ 0 ≤ bits := by omega
      simp [h2, this]
    · have h2' : 0 ≤ bits := by omega
      by_cases h3 : qn v6 < bits
      · have : ¬ bits ≤ qn v6 := by omega
        simp [h2, h3, this]
      · have h3' : bits ≤ qn v6 := by omega
        simp [h2, h3, h2', h3', qb2l h2' h3']
def qbau (v6 : Bool) (hi lo bits : Int) (w6 : Bool) (ahi alo : Int) : Bool :=
  qdy v6 hi lo bits && (qkh w6 ahi alo && ((v6 == w6) && ((qbx .andNot .u64 ahi (qfd (qn v6 - bits).toNat).1 == hi) && (qbx .andNot .u64 alo (qfd (qn v6 - bits).toNat).2 == lo))))
theorem qfo {v6 : Bool} {hi lo bits : Int} (h : qdy v6 hi lo bits = true) : 0 ≤ bits ∧ bits ≤ qn v6 ∧ qkh v6 hi lo = true := by
  simp [qdy] at h
  exact ⟨h.1.1.1.2, h.1.1.2, h.1.1.1.1⟩
theorem qb8m {w6 : Bool} {ahi alo bits : Int} (h1 : 0 ≤ bits) (h2 : bits ≤ qn w6) : q4p w6 ahi alo bits = some (bif qkh w6 ahi alo then (.agg [(.bool w6), (.int .u64 (qbx .andNot .u64 ahi (qfd (qn w6 - bits).toNat).1)), (.int .u64 (qbx .andNot .u64 alo (qfd (qn w6 - bits).toNat).2)), (.int .i64 bits)], true) else (.agg [(.bool false), (.int .u64 0), (.int .u64 0), (.int .i64 0)], false)) := by
  rw [qbjk]; unfold qbay
  have a1 : ¬ bits < 0 := by omega
  have a2 : ¬ qn w6 < bits := by omega
  simp only [q97, q3i, qb0y, q9f, oB_s, qb2l h1 h2]
  cases qkh w6 ahi alo <;> simp [a1, a2]
theorem qb12 (v6 : Bool) (hi lo bits : Int) (w6 : Bool) (ahi alo : Int) : qn3 v6 hi lo bits w6 ahi alo = some (qbau v6 hi lo bits w6 ahi alo) := by
  rw [q4q]; unfold qwj qbau
  simp only [q9g, oB_s]
  cases h1 : qdy v6 hi lo bits
  · simp
  · obtain ⟨h2, h3, _⟩ := qfo h1
    by_cases h4 : v6 = w6
    · subst h4
      rw [qb8m h2 h3]
      cases qkh v6 ahi alo <;> simp [gB, gI, gC, aB, aI, AV.cells]
    · have h6 : (v6 == w6) = false := by simpa using h4
      simp [h6]
theorem qb8n {w6 : Bool} {ahi alo bits : Int} (h1 : 0 ≤ bits) (h2 : bits ≤ qn w6) (hv : qkh w6 ahi alo = true) (u1 : uok ahi) (u2 : uok alo) : qxn w6 ahi alo bits = some (.agg [(.bool w6), (.int .u64 (qbx .andNot .u64 ahi (qfd (qn w6 - bits).toNat).1)), (.int .u64 (qbx .andNot .u64 alo (qfd (qn w6 - bits).toNat).2)), (.int .i64 bits)], true) := by
  rw [qbb4]; unfold q52
  have a1 : ¬ bits < 0 := by omega
  have a2 : ¬ qn w6 < bits := by omega
  have hl := qhg w6
  have hw : IntKind.i64.wrap (qn w6 - bits) = qn w6 - bits := w64 (by omega) (by omega)
  have hm : (min (qn w6 - bits) 128).toNat = (qn w6 - bits).toNat := by congr 1; omega
  simp only [q6u, qyt, qbml, qbmm, qb0x, oB_s, hv, hw, hm, qb2k _ u1, qb2k _ u2]
  simp [a1, a2]
theorem qb13 (v6 : Bool) (hi lo bits : Int) (w6 : Bool) (ahi alo : Int) (u1 : uok ahi) (u2 : uok alo) : qmc v6 hi lo bits w6 ahi alo = some (qbau v6 hi lo bits w6 ahi alo) := by
  rw [q0v]; unfold qsu qbau
  simp only [qwc, qo4, q0d, qbml, oB_s]
  cases h1 : qdy v6 hi lo bits
  · simp
  · obtain ⟨h2, h3, _⟩ := qfo h1
    cases h5 : qkh w6 ahi alo
    · simp
    · by_cases h4 : v6 = w6
      · subst h4
        rw [qb8n h2 h3 h5 u1 u2]
        simp [gB, gI, gC, aB, aI, AV.cells]
      · have h6 : (v6 == w6) = false := by simpa using h4
        simp [h6]
end Go.Proofs.Ytmfghgaboaocgaa.Dn
