/- Prefixes: what the program's words of layers 2 and 3, and ddiref03's, answer. -/
import Derived.Test.YtmjdngnagiloeaaBgLw03
set_option linter.all false
namespace Go.Proofs.Ytmjdngnagiloeaa.Dn
open Go Go.Pev
set_option linter.unusedVariables false
set_option linter.unusedSimpArgs false
set_option maxRecDepth 4000
def uok (x : Int) : Prop := 0 ≤ x ∧ x ≤ 18446744073709551615
theorem qbfk (n : Nat) (h : n < 18446744073709551616) : IntKind.u64.wrap (n : Int) = n := wu64 (by omega) (by omega)
theorem q69 {x : Int} (h : uok x) : ((BitVec.ofInt 64 x).toNat : Int) = x := by
  obtain ⟨h1, h2⟩ := h
  rw [BitVec.toNat_ofInt]
  omega
theorem qbk4 (x y : Int) : qb4 .and .u64 x y = ((BitVec.ofInt 64 x &&& BitVec.ofInt 64 y).toNat : Int) := by
  have := (BitVec.ofInt 64 x &&& BitVec.ofInt 64 y).isLt
  show IntKind.u64.wrap ((BitVec.ofInt 64 x &&& BitVec.ofInt 64 y).toNat : Int) = _
  exact qbfk _ (by omega)
theorem qb6h (x y : Int) : qb4 .or .u64 x y = ((BitVec.ofInt 64 x ||| BitVec.ofInt 64 y).toNat : Int) := by
  have := (BitVec.ofInt 64 x ||| BitVec.ofInt 64 y).isLt
  show IntKind.u64.wrap ((BitVec.ofInt 64 x ||| BitVec.ofInt 64 y).toNat : Int) = _
  exact qbfk _ (by omega)
theorem qbk5 (x y : Int) : qb4 .andNot .u64 x y = ((BitVec.ofInt 64 x &&& ~~~BitVec.ofInt 64 y).toNat : Int) := by
  have := (BitVec.ofInt 64 x &&& ~~~BitVec.ofInt 64 y).isLt
  show IntKind.u64.wrap ((BitVec.ofInt 64 x &&& ~~~BitVec.ofInt 64 y).toNat : Int) = _
  exact qbfk _ (by omega)
theorem q7a (a b : BitVec 64) : (a &&& b).toNat + (a &&& ~~~b).toNat = a.toNat := by
  have h1 : (a &&& b) &&& (a &&& ~~~b) = 0#64 := by
    ext i hi
    simp
    intro _ h _
    exact h
  have h2 : (a &&& b) ||| (a &&& ~~~b) = a := by
    ext i hi
    simp
    cases a[i] <;> cases b[i] <;> rfl
  have h3 := BitVec.add_eq_or_of_and_eq_zero _ _ h1
  rw [h2] at h3
  have h4 := congrArg BitVec.toNat h3
  rw [BitVec.toNat_add] at h4
  have e1 : (a &&& b).toNat ≤ a.toNat := by rw [BitVec.toNat_and]; exact Nat.and_le_left
  have e2 := (a &&& ~~~b).isLt
  have e3 := a.isLt
  omega
theorem qb2d {x : Int} (y : Int) (h : uok x) : IntKind.u64.wrap (x - qb4 .and .u64 x y) = qb4 .andNot .u64 x y := by
  have h1 := q7a (BitVec.ofInt 64 x) (BitVec.ofInt 64 y)
  have h2 := q69 h
  rw [qbk4, qbk5]
  have h3 : x - ((BitVec.ofInt 64 x &&& BitVec.ofInt 64 y).toNat : Int) = ((BitVec.ofInt 64 x &&& ~~~BitVec.ofInt 64 y).toNat : Int) := by omega
  rw [h3]
  have := (BitVec.ofInt 64 x &&& ~~~BitVec.ofInt 64 y).isLt
  exact qbfk _ (by omega)
theorem qb4h (a b : BitVec 64) (h : (a &&& b).toNat = 0) : a.toNat + b.toNat = (a ||| b).toNat := by
  have h1 : a &&& b = 0#64 := BitVec.eq_of_toNat_eq h
  have h2 := congrArg BitVec.toNat (BitVec.add_eq_or_of_and_eq_zero _ _ h1)
  rw [BitVec.toNat_add] at h2
  have h3 := q7a a b
  have h4 : (a &&& ~~~b).toNat ≤ (~~~b).toNat := by rw [BitVec.toNat_and]; exact Nat.and_le_right
  rw [BitVec.toNat_not] at h4
  have e3 := b.isLt
  omega
theorem qbk6 {x y : Int} (hx : uok x) (hy : uok y) (h : qb4 .and .u64 x y = 0) : x + y = qb4 .or .u64 x y := by
  rw [qbk4] at h
  rw [qb6h]
  have e1 := q69 hx
  have e2 := q69 hy
  have := qb4h (BitVec.ofInt 64 x) (BitVec.ofInt 64 y) (by omega)
  omega
theorem qbc7 (x y : Int) : uok (qb4 .or .u64 x y) := by
  rw [qb6h]
  have := (BitVec.ofInt 64 x ||| BitVec.ofInt 64 y).isLt
  exact ⟨by omega, by omega⟩
theorem qb1x {x : Int} (h : uok x) : qb4 .andNot .u64 x 0 = x := by
  rw [qbk5]
  have := q7a (BitVec.ofInt 64 x) (BitVec.ofInt 64 0)
  have h2 := q69 h
  have h3 : (BitVec.ofInt 64 x &&& BitVec.ofInt 64 0).toNat = 0 := by simp
  omega
theorem qb5o : ∀ n : Fin 129, (0 ≤ (qe6 n).1 ∧ (qe6 n).1 ≤ 18446744073709551615) ∧ (0 ≤ (qe6 n).2 ∧ (qe6 n).2 ≤ 18446744073709551615) := by decide +kernel
theorem qhx (v6 : Bool) : qp v6 ≤ 128 := by unfold qp; split <;> omega
theorem qb73 : ∀ n : Fin 33, quy false (n.val : Int) = some (qe6 (32 - n.val)) := by decide +kernel
theorem qb74 : ∀ n : Fin 129, quy true (n.val : Int) = some (qe6 (128 - n.val)) := by decide +kernel
theorem qb2e {v6 : Bool} {bits : Int} (h1 : 0 ≤ bits) (h2 : bits ≤ qp v6) : qp5 v6 bits = some (qe6 (qp v6 - bits).toNat) := by
  rw [q9p]
  obtain ⟨n, rfl⟩ := Int.eq_ofNat_of_zero_le h1
  cases v6 with
  | false =>
    have h3 : n ≤ 32 := by simp [qp] at h2; omega
    rw [qb73 ⟨n, by omega⟩]
    congr 2
    simp [qp] <;> omega
  | true =>
    have h3 : n ≤ 128 := by simp [qp] at h2; omega
    rw [qb74 ⟨n, by omega⟩]
    congr 2
    simp [qp] <;> omega
theorem qb0w (v6 : Bool) (hi lo : Int) : qux v6 hi lo = some (qki v6 hi lo) := by
  rw [qbfr]; unfold q7m qki
  have : decide (lo ≤ 4294967295) = decide (lo < 4294967296) := by apply decide_eq_decide.2; omega
  cases v6 <;> cases (hi == 0) <;> simp [this]
theorem q89 (v6 : Bool) (hi lo : Int) : qjn v6 hi lo = some (qp v6) := by
  rw [q7o]; unfold qyz qp
  cases v6 <;> rfl
theorem q9a (v6 : Bool) (hi lo bits : Int) : qg2 v6 hi lo bits = some (qdz v6 hi lo bits) := by
  rw [q9q]; unfold q2a
  simp only [q3u, qvh, qb0w, q89, oB_s]
  unfold qdz
  cases h1 : qki v6 hi lo
  · simp
  · by_cases h2 : bits < 0
    · have : ¬ 0 ≤ bits := by omega
      simp [h2, this]
    · have h2' : 0 ≤ bits := by omega
      by_cases h3 : qp v6 < bits
      · have : ¬ bits ≤ qp v6 := by omega
        simp [h2, h3, this]
      · have h3' : bits ≤ qp v6 := by omega
        simp [h2, h3, h2', h3', qb2e h2' h3']
def qtk (v6 : Bool) (hi lo bits : Int) (w6 : Bool) (ahi alo : Int) : Bool :=
  qdz v6 hi lo bits && (qki w6 ahi alo && ((v6 == w6) && ((qb4 .andNot .u64 ahi (qe6 (qp v6 - bits).toNat).1 == hi) && (qb4 .andNot .u64 alo (qe6 (qp v6 - bits).toNat).2 == lo))))
theorem qf3 {v6 : Bool} {hi lo bits : Int} (h : qdz v6 hi lo bits = true) : 0 ≤ bits ∧ bits ≤ qp v6 ∧ qki v6 hi lo = true := by
  simp [qdz] at h
  exact ⟨h.1.1.1.2, h.1.1.2, h.1.1.1.1⟩
theorem qb8l {w6 : Bool} {ahi alo bits : Int} (h1 : 0 ≤ bits) (h2 : bits ≤ qp w6) : q3w w6 ahi alo bits = some (bif qki w6 ahi alo then (.agg [(.bool w6), (.int .u64 (qb4 .andNot .u64 ahi (qe6 (qp w6 - bits).toNat).1)), (.int .u64 (qb4 .andNot .u64 alo (qe6 (qp w6 - bits).toNat).2)), (.int .i64 bits)], true) else (.agg [(.bool false), (.int .u64 0), (.int .u64 0), (.int .i64 0)], false)) := by
  rw [qbh0]; unfold qbar
  have a1 : ¬ bits < 0 := by omega
  have a2 : ¬ qp w6 < bits := by omega
  simp only [q9v, q2i, qb0w, q89, oB_s, qb2e h1 h2]
  cases qki w6 ahi alo <;> simp [a1, a2]
theorem qbop (v6 : Bool) (hi lo bits : Int) (w6 : Bool) (ahi alo : Int) : qlp v6 hi lo bits w6 ahi alo = some (qtk v6 hi lo bits w6 ahi alo) := by
  rw [q3x]; unfold qvi qtk
  simp only [q9a, oB_s]
  cases h1 : qdz v6 hi lo bits
  · simp
  · obtain ⟨h2, h3, _⟩ := qf3 h1
    by_cases h4 : v6 = w6
    · subst h4
      rw [qb8l h2 h3]
      cases qki v6 ahi alo <;> simp [gB, gI, gC, aB, aI, AV.cells]
    · have h6 : (v6 == w6) = false := by simpa using h4
      simp [h6]
theorem qb8m {w6 : Bool} {ahi alo bits : Int} (h1 : 0 ≤ bits) (h2 : bits ≤ qp w6) (hv : qki w6 ahi alo = true) (u1 : uok ahi) (u2 : uok alo) : qwc w6 ahi alo bits = some (.agg [(.bool w6), (.int .u64 (qb4 .andNot .u64 ahi (qe6 (qp w6 - bits).toNat).1)), (.int .u64 (qb4 .andNot .u64 alo (qe6 (qp w6 - bits).toNat).2)), (.int .i64 bits)], true) := by
  rw [qbbr]; unfold q5e
  have a1 : ¬ bits < 0 := by omega
  have a2 : ¬ qp w6 < bits := by omega
  have hl := qhx w6
  have hw : IntKind.i64.wrap (qp w6 - bits) = qp w6 - bits := w64 (by omega) (by omega)
  have hm : (min (qp w6 - bits) 128).toNat = (qp w6 - bits).toNat := by congr 1; omega
  simp only [q58, qxk, qbk2, qbk3, qb0v, oB_s, hv, hw, hm, qb2d _ u1, qb2d _ u2]
  simp [a1, a2]
theorem qb1y (v6 : Bool) (hi lo bits : Int) (w6 : Bool) (ahi alo : Int) (u1 : uok ahi) (u2 : uok alo) : qmf v6 hi lo bits w6 ahi alo = some (qtk v6 hi lo bits w6 ahi alo) := by
  rw [qzi]; unfold qsm qtk
  simp only [qvg, qo7, q45, qbk2, oB_s]
  cases h1 : qdz v6 hi lo bits
  · simp
  · obtain ⟨h2, h3, _⟩ := qf3 h1
    cases h5 : qki w6 ahi alo
    · simp
    · by_cases h4 : v6 = w6
      · subst h4
        rw [qb8m h2 h3 h5 u1 u2]
        simp [gB, gI, gC, aB, aI, AV.cells]
      · have h6 : (v6 == w6) = false := by simpa using h4
        simp [h6]
end Go.Proofs.Ytmjdngnagiloeaa.Dn
