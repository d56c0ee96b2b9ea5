/- Prefixes: what the program's words of layers 2 and 3, and ddiref03's, answer. -/
import Derived.Test.YtmfghgaboaocgaaFrLw03
set_option linter.all false
namespace Go.Proofs.Ytmfghgaboaocgaa.Dn
open Go Go.Pev
set_option linter.unusedVariables false
set_option linter.unusedSimpArgs false
set_option maxRecDepth 4000
def uok (x : Int) : Prop := 0 ≤ x ∧ x ≤ 18446744073709551615
theorem qbc4 (n : Nat) (h : n < 18446744073709551616) : IntKind.u64.wrap (n : Int) = n := wu64 (by omega) (by omega)
theorem q1q {x : Int} (h : uok x) : ((BitVec.ofInt 64 x).toNat : Int) = x := by
  obtain ⟨h1, h2⟩ := h
  rw [BitVec.toNat_ofInt]
  omega
theorem qbfa (x y : Int) : qce .and .u64 x y = ((BitVec.ofInt 64 x &&& BitVec.ofInt 64 y).toNat : Int) := by
  have := (BitVec.ofInt 64 x &&& BitVec.ofInt 64 y).isLt
  show IntKind.u64.wrap ((BitVec.ofInt 64 x &&& BitVec.ofInt 64 y).toNat : Int) = _
  exact qbc4 _ (by omega)
theorem qbp9 (x y : Int) : qce .or .u64 x y = ((BitVec.ofInt 64 x ||| BitVec.ofInt 64 y).toNat : Int) := by
  have := (BitVec.ofInt 64 x ||| BitVec.ofInt 64 y).isLt
  show IntKind.u64.wrap ((BitVec.ofInt 64 x ||| BitVec.ofInt 64 y).toNat : Int) = _
  exact qbc4 _ (by omega)
theorem qbhv (x y : Int) : qce .andNot .u64 x y = ((BitVec.ofInt 64 x &&& ~~~BitVec.ofInt 64 y).toNat : Int) := by
  have := (BitVec.ofInt 64 x &&& ~~~BitVec.ofInt 64 y).isLt
  show IntKind.u64.wrap ((BitVec.ofInt 64 x &&& ~~~BitVec.ofInt 64 y).toNat : Int) = _
  exact qbc4 _ (by omega)
theorem q49 (a b : BitVec 64) : (a &&& b).toNat + (a &&& ~~~b).toNat = a.toNat := by
  have h1 : (a &&& b) &&& (a &&& ~~~b) = 0#64 := by
    ext i hi
    simp
    intro _ h _
    exact h
  have h2 : (a &&& b) ||| (a &&& ~~~b) = a := by
    ext i hi
    simp
    cases a[i] <;> cases b[i] <;> rfl
  have h3 := BitVec.add_eq_or_of_and_eq_zero _ _ h1
  rw [h2] at h3
  have h4 := congrArg BitVec.toNat h3
  rw [BitVec.toNat_add] at h4
  have e1 : (a &&& b).toNat ≤ a.toNat := by rw [BitVec.toNat_and]; exact Nat.and_le_left
  have e2 := (a &&& ~~~b).isLt
  have e3 := a.isLt
  omega
theorem qbof (a b : BitVec 64) (h : (a &&& b).toNat = 0) : a.toNat + b.toNat = (a ||| b).toNat := by
  have h1 : a &&& b = 0#64 := BitVec.eq_of_toNat_eq h
  have h2 := congrArg BitVec.toNat (BitVec.add_eq_or_of_and_eq_zero _ _ h1)
  rw [BitVec.toNat_add] at h2
  have h3 := q49 a b
  have h4 : (a &&& ~~~b).toNat ≤ (~~~b).toNat := by rw [BitVec.toNat_and]; exact Nat.and_le_right
  rw [BitVec.toNat_not] at h4
  have e3 := b.isLt
  omega
theorem qbkt {x y : Int} (hx : uok x) (hy : uok y) (h : qce .and .u64 x y = 0) : x + y = qce .or .u64 x y := by
  rw [qbfa] at h
  rw [qbp9]
  have e1 := q1q hx
  have e2 := q1q hy
  have := qbof (BitVec.ofInt 64 x) (BitVec.ofInt 64 y) (by omega)
  omega
theorem qbog (x y : Int) : uok (qce .or .u64 x y) := by
  rw [qbp9]
  have := (BitVec.ofInt 64 x ||| BitVec.ofInt 64 y).isLt
  exact ⟨by omega, by omega⟩
theorem qblv {x : Int} (h : uok x) : qce .andNot .u64 x 0 = x := by
  rw [qbhv]
  have := q49 (BitVec.ofInt 64 x) (BitVec.ofInt 64 0)
  have h2 := q1q h
  have h3 : (BitVec.ofInt 64 x &&& BitVec.ofInt 64 0).toNat = 0 := by simp
  omega
theorem qkj (v6 : Bool) : qt v6 ≤ 128 := by unfold qt; split <;> omega
theorem qbrq : ∀ n : Fin 33, qq3 false (n.val : Int) = some (qlg (32 - n.val)) := by decide +kernel
theorem qbrr : ∀ n : Fin 129, qq3 true (n.val : Int) = some (qlg (128 - n.val)) := by decide +kernel
theorem qbmc {v6 : Bool} {bits : Int} (h1 : 0 ≤ bits) (h2 : bits ≤ qt v6) : qml v6 bits = some (qlg (qt v6 - bits).toNat) := by
  rw [q03]
  obtain ⟨n, rfl⟩ := Int.eq_ofNat_of_zero_le h1
  cases v6 with
  | false =>
    have h3 : n ≤ 32 := by simp [qt] at h2; omega
    rw [qbrq ⟨n, by omega⟩]
    congr 2
    simp [qt] <;> omega
  | true =>
    have h3 : n ≤ 128 := by simp [qt] at h2; omega
    rw [qbrr ⟨n, by omega⟩]
    congr 2
    simp [qt] <;> omega
theorem qbku (v6 : Bool) (hi lo : Int) : qq2 v6 hi lo = some (qm7 v6 hi lo) := by
  rw [q5k]; unfold qzn qm7
  have : decide (lo ≤ 4294967295) = decide (lo < 4294967296) := by apply decide_eq_decide.2; omega
  cases v6 <;> cases (hi == 0) <;> simp [this]
theorem q0o (v6 : Bool) (hi lo : Int) : qh9 v6 hi lo = some (qt v6) := by
  rw [qzp]; unfold qt4 qt
  cases v6 <;> rfl
theorem q0p (v6 : Bool) (hi lo bits : Int) : qgj v6 hi lo bits = some (qf2 v6 hi lo bits) := by
  rw [q04]; unfold qv3
  simp only [qw6, qrm, qbku, q0o, oB_s]
  unfold qf2
  cases h1 : qm7 v6 hi lo
  · simp
  · by_cases h2 : bits < 0
    · have : ¬ 0 ≤ bits := by omega
      simp [h2, this]
    · have h2' : 0 ≤ bits := by omega
      by_cases h3 : qt v6 < bits
      · have : ¬ bits ≤ qt v6 := by omega
        simp [h2, h3, this]
      · have h3' : bits ≤ qt v6 := by omega
        simp [h2, h3, h2', h3', qbmc h2' h3']
def q9q (v6 : Bool) (hi lo bits : Int) (w6 : Bool) (ahi alo : Int) : Bool :=
  qf2 v6 hi lo bits && (qm7 w6 ahi alo && ((v6 == w6) && ((qce .andNot .u64 ahi (qlg (qt v6 - bits).toNat).1 == hi) && (qce .andNot .u64 alo (qlg (qt v6 - bits).toNat).2 == lo))))
theorem qfr {v6 : Bool} {hi lo bits : Int} (h : qf2 v6 hi lo bits = true) : 0 ≤ bits ∧ bits ≤ qt v6 ∧ qm7 v6 hi lo = true := by
  simp [qf2] at h
  exact ⟨h.1.1.1.2, h.1.1.2, h.1.1.1.1⟩
theorem qbr9 {w6 : Bool} {ahi alo bits : Int} (h1 : 0 ≤ bits) (h2 : bits ≤ qt w6) : qw7 w6 ahi alo bits = some (bif qm7 w6 ahi alo then (.agg [(.bool w6), (.int .u64 (qce .andNot .u64 ahi (qlg (qt w6 - bits).toNat).1)), (.int .u64 (qce .andNot .u64 alo (qlg (qt w6 - bits).toNat).2)), (.int .i64 bits)], true) else (.agg [(.bool false), (.int .u64 0), (.int .u64 0), (.int .i64 0)], false)) := by
  rw [q7a]; unfold q1w
  have a1 : ¬ bits < 0 := by omega
  have a2 : ¬ qt w6 < bits := by omega
  simp only [q06, qv5, qbku, q0o, oB_s, qbmc h1 h2]
  cases qm7 w6 ahi alo <;> simp [a1, a2]
theorem qblw (v6 : Bool) (hi lo bits : Int) (w6 : Bool) (ahi alo : Int) : qln v6 hi lo bits w6 ahi alo = some (q9q v6 hi lo bits w6 ahi alo) := by
  rw [qw8]; unfold qrn q9q
  simp only [q0p, oB_s]
  cases h1 : qf2 v6 hi lo bits
  · simp
  · obtain ⟨h2, h3, _⟩ := qfr h1
    by_cases h4 : v6 = w6
    · subst h4
      rw [qbr9 h2 h3]
      cases qm7 v6 ahi alo <;> simp [gB, gI, gC, aB, aI, AV.cells]
    · have h6 : (v6 == w6) = false := by simpa using h4
      simp [h6]
end Go.Proofs.Ytmfghgaboaocgaa.Dn
