/- Prefixes: what the program's words of layers 2 and 3, and ddiref03's, answer. -/
import Derived.Test.YtmjdngnagiloeaaBhLw03
set_option linter.all false
namespace Go.Proofs.Ytmjdngnagiloeaa.Dn
open Go Go.Pev
set_option linter.unusedVariables false
set_option linter.unusedSimpArgs false
set_option maxRecDepth 4000
def uok (x : Int) : Prop := 0 ≤ x ∧ x ≤ 18446744073709551615
theorem qbdd (n : Nat) (h : n < 18446744073709551616) : IntKind.u64.wrap (n : Int) = n := wu64 (by omega) (by omega)
theorem qwj {x : Int} (h : uok x) : ((BitVec.ofInt 64 x).toNat : Int) = x := by
  obtain ⟨h1, h2⟩ := h
  rw [BitVec.toNat_ofInt]
  omega
theorem q86 (x y : Int) : qcg .and .u64 x y = ((BitVec.ofInt 64 x &&& BitVec.ofInt 64 y).toNat : Int) := by
  have := (BitVec.ofInt 64 x &&& BitVec.ofInt 64 y).isLt
  show IntKind.u64.wrap ((BitVec.ofInt 64 x &&& BitVec.ofInt 64 y).toNat : Int) = _
  exact qbdd _ (by omega)
theorem qbrj (x y : Int) : qcg .or .u64 x y = ((BitVec.ofInt 64 x ||| BitVec.ofInt 64 y).toNat : Int) := by
  have := (BitVec.ofInt 64 x ||| BitVec.ofInt 64 y).isLt
  show IntKind.u64.wrap ((BitVec.ofInt 64 x ||| BitVec.ofInt 64 y).toNat : Int) = _
  exact qbdd _ (by omega)
theorem q13 (x y : Int) : qcg .andNot .u64 x y = ((BitVec.ofInt 64 x &&& ~~~BitVec.ofInt 64 y).toNat : Int) := by
  have := (BitVec.ofInt 64 x &&& ~~~BitVec.ofInt 64 y).isLt
  show IntKind.u64.wrap ((BitVec.ofInt 64 x &&& ~~~BitVec.ofInt 64 y).toNat : Int) = _
  exact qbdd _ (by omega)
theorem qus (a b : BitVec 64) : (a &&& b).toNat + (a &&& ~~~b).toNat = a.toNat := by
  have h1 : (a &&& b) &&& (a &&& ~~~b) = 0#64 := by
    ext i hi
    simp
    intro _ h _
    exact h
  have h2 : (a &&& b) ||| (a &&& ~~~b) = a := by
    ext i hi
    simp
    cases a[i] <;> cases b[i] <;> rfl
  have h3 := BitVec.add_eq_or_of_and_eq_zero _ _ h1
  rw [h2] at h3
  have h4 := congrArg BitVec.toNat h3
  rw [BitVec.toNat_add] at h4
  have e1 : (a &&& b).toNat ≤ a.toNat := by rw [BitVec.toNat_and]; exact Nat.and_le_left
  have e2 := (a &&& ~~~b).isLt
  have e3 := a.isLt
  omega
theorem qbpq (a b : BitVec 64) (h : (a &&& b).toNat = 0) : a.toNat + b.toNat = (a ||| b).toNat := by
  have h1 : a &&& b = 0#64 := BitVec.eq_of_toNat_eq h
  have h2 := congrArg BitVec.toNat (BitVec.add_eq_or_of_and_eq_zero _ _ h1)
  rw [BitVec.toNat_add] at h2
  have h3 := qus a b
  have h4 : (a &&& ~~~b).toNat ≤ (~~~b).toNat := by rw [BitVec.toNat_and]; exact Nat.and_le_right
  rw [BitVec.toNat_not] at h4
  have e3 := b.isLt
  omega
theorem qbl8 {x y : Int} (hx : uok x) (hy : uok y) (h : qcg .and .u64 x y = 0) : x + y = qcg .or .u64 x y := by
  rw [q86] at h
  rw [qbrj]
  have e1 := qwj hx
  have e2 := qwj hy
  have := qbpq (BitVec.ofInt 64 x) (BitVec.ofInt 64 y) (by omega)
  omega
theorem qbpr (x y : Int) : uok (qcg .or .u64 x y) := by
  rw [qbrj]
  have := (BitVec.ofInt 64 x ||| BitVec.ofInt 64 y).isLt
  exact ⟨by omega, by omega⟩
theorem qbm8 {x : Int} (h : uok x) : qcg .andNot .u64 x 0 = x := by
  rw [q13]
  have := qus (BitVec.ofInt 64 x) (BitVec.ofInt 64 0)
  have h2 := qwj h
  have h3 : (BitVec.ofInt 64 x &&& BitVec.ofInt 64 0).toNat = 0 := by simp
  omega
theorem qko (v6 : Bool) : qbg v6 ≤ 128 := by unfold qbg; split <;> omega
theorem qbs3 : ∀ n : Fin 33, qql false (n.val : Int) = some (qkn (32 - n.val)) := by decide +kernel
theorem qbs4 : ∀ n : Fin 129, qql true (n.val : Int) = some (qkn (128 - n.val)) := by decide +kernel
theorem qbnm {v6 : Bool} {bits : Int} (h1 : 0 ≤ bits) (h2 : bits ≤ qbg v6) : qm7 v6 bits = some (qkn (qbg v6 - bits).toNat) := by
  rw [q1b]
  obtain ⟨n, rfl⟩ := Int.eq_ofNat_of_zero_le h1
  cases v6 with
  | false =>
    have h3 : n ≤ 32 := by simp [qbg] at h2; omega
    rw [qbs3 ⟨n, by omega⟩]
    congr 2
    simp [qbg] <;> omega
  | true =>
    have h3 : n ≤ 128 := by simp [qbg] at h2; omega
    rw [qbs4 ⟨n, by omega⟩]
    congr 2
    simp [qbg] <;> omega
theorem qbl9 (v6 : Bool) (hi lo : Int) : qqk v6 hi lo = some (qmm v6 hi lo) := by
  rw [q5v]; unfold qzq qmm
  have : decide (lo ≤ 4294967295) = decide (lo < 4294967296) := by apply decide_eq_decide.2; omega
  cases v6 <;> cases (hi == 0) <;> simp [this]
theorem q0z (v6 : Bool) (hi lo : Int) : qio v6 hi lo = some (qbg v6) := by
  rw [qzs]; unfold qti qbg
  cases v6 <;> rfl
theorem q00 (v6 : Bool) (hi lo bits : Int) : qgd v6 hi lo bits = some (qfq v6 hi lo bits) := by
  rw [q1c]; unfold qvi
  simp only [qwq, qqz, qbl9, q0z, oB_s]
  unfold qfq
  cases h1 : qmm v6 hi lo
  · simp
  · by_cases h2 : bits < 0
    · have : ¬ 0 ≤ bits := by omega
      simp [h2, this]
    · have h2' : 0 ≤ bits := by omega
      by_cases h3 : qbg v6 < bits
      · have : ¬ bits ≤ qbg v6 := by omega
        simp [h2, h3, this]
      · have h3' : bits ≤ qbg v6 := by omega
        simp [h2, h3, h2', h3', qbnm h2' h3']
def qmn (v6 : Bool) (hi lo bits : Int) (w6 : Bool) (ahi alo : Int) : Bool :=
  qfq v6 hi lo bits && (qmm w6 ahi alo && ((v6 == w6) && ((qcg .andNot .u64 ahi (qkn (qbg v6 - bits).toNat).1 == hi) && (qcg .andNot .u64 alo (qkn (qbg v6 - bits).toNat).2 == lo))))
theorem qgj {v6 : Bool} {hi lo bits : Int} (h : qfq v6 hi lo bits = true) : 0 ≤ bits ∧ bits ≤ qbg v6 ∧ qmm v6 hi lo = true := by
  simp [qfq] at h
  exact ⟨h.1.1.1.2, h.1.1.2, h.1.1.1.1⟩
theorem qbto {w6 : Bool} {ahi alo bits : Int} (h1 : 0 ≤ bits) (h2 : bits ≤ qbg w6) : qws w6 ahi alo bits = some (bif qmm w6 ahi alo then (.agg [(.bool w6), (.int .u64 (qcg .andNot .u64 ahi (qkn (qbg w6 - bits).toNat).1)), (.int .u64 (qcg .andNot .u64 alo (qkn (qbg w6 - bits).toNat).2)), (.int .i64 bits)], true) else (.agg [(.bool false), (.int .u64 0), (.int .u64 0), (.int .i64 0)], false)) := by
  rw [q68]; unfold q19
  have a1 : ¬ bits < 0 := by omega
  have a2 : ¬ qbg w6 < bits := by omega
  simp only [q1h, qvq, qbl9, q0z, oB_s, qbnm h1 h2]
  cases qmm w6 ahi alo <;> simp [a1, a2]
theorem qwk (v6 : Bool) (hi lo bits : Int) (w6 : Bool) (ahi alo : Int) : qf2 v6 hi lo bits w6 ahi alo = some (qmn v6 hi lo bits w6 ahi alo) := by
  rw [qwt]; unfold qq0 qmn
  simp only [q00, oB_s]
  cases h1 : qfq v6 hi lo bits
  · simp
  · obtain ⟨h2, h3, _⟩ := qgj h1
    by_cases h4 : v6 = w6
    · subst h4
      rw [qbto h2 h3]
      cases qmm v6 ahi alo <;> simp [gB, gI, gC, aB, aI, AV.cells]
    · have h6 : (v6 == w6) = false := by simpa using h4
      simp [h6]
end Go.Proofs.Ytmjdngnagiloeaa.Dn
