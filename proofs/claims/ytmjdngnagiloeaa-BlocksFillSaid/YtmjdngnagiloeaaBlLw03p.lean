/- Prefixes: what the program's words of layers 2 and 3, and ddiref03's, answer. -/
import Derived.Test.YtmjdngnagiloeaaBlLw03
set_option linter.all false
namespace Go.Proofs.Ytmjdngnagiloeaa.Dn
open Go Go.Pev
set_option linter.unusedVariables false
set_option linter.unusedSimpArgs false
set_option maxRecDepth 4000
def uok (x : Int) : Prop := 0 ≤ x ∧ x ≤ 18446744073709551615
theorem qbfp (n : Nat) (h : n < 18446744073709551616) : IntKind.u64.wrap (n : Int) = n := wu64 (by omega) (by omega)
theorem q4b {x : Int} (h : uok x) : ((BitVec.ofInt 64 x).toNat : Int) = x := by
  obtain ⟨h1, h2⟩ := h
  rw [BitVec.toNat_ofInt]
  omega
theorem qbii (x y : Int) : qcg .and .u64 x y = ((BitVec.ofInt 64 x &&& BitVec.ofInt 64 y).toNat : Int) := by
  have := (BitVec.ofInt 64 x &&& BitVec.ofInt 64 y).isLt
  show IntKind.u64.wrap ((BitVec.ofInt 64 x &&& BitVec.ofInt 64 y).toNat : Int) = _
  exact qbfp _ (by omega)
theorem qbug (x y : Int) : qcg .or .u64 x y = ((BitVec.ofInt 64 x ||| BitVec.ofInt 64 y).toNat : Int) := by
  have := (BitVec.ofInt 64 x ||| BitVec.ofInt 64 y).isLt
  show IntKind.u64.wrap ((BitVec.ofInt 64 x ||| BitVec.ofInt 64 y).toNat : Int) = _
  exact qbfp _ (by omega)
theorem qblg (x y : Int) : qcg .andNot .u64 x y = ((BitVec.ofInt 64 x &&& ~~~BitVec.ofInt 64 y).toNat : Int) := by
  have := (BitVec.ofInt 64 x &&& ~~~BitVec.ofInt 64 y).isLt
  show IntKind.u64.wrap ((BitVec.ofInt 64 x &&& ~~~BitVec.ofInt 64 y).toNat : Int) = _
  exact qbfp _ (by omega)
theorem q7s (a b : BitVec 64) : (a &&& b).toNat + (a &&& ~~~b).toNat = a.toNat := by
  have h1 : (a &&& b) &&& (a &&& ~~~b) = 0#64 := by
    ext i hi
    simp
    intro _ h _
    exact h
  have h2 : (a &&& b) ||| (a &&& ~~~b) = a := by
    ext i hi
    simp
    cases a[i] <;> cases b[i] <;> rfl
  have h3 := BitVec.add_eq_or_of_and_eq_zero _ _ h1
  rw [h2] at h3
  have h4 := congrArg BitVec.toNat h3
  rw [BitVec.toNat_add] at h4
  have e1 : (a &&& b).toNat ≤ a.toNat := by rw [BitVec.toNat_and]; exact Nat.and_le_left
  have e2 := (a &&& ~~~b).isLt
  have e3 := a.isLt
  omega
theorem qbsc (a b : BitVec 64) (h : (a &&& b).toNat = 0) : a.toNat + b.toNat = (a ||| b).toNat := by
  have h1 : a &&& b = 0#64 := BitVec.eq_of_toNat_eq h
  have h2 := congrArg BitVec.toNat (BitVec.add_eq_or_of_and_eq_zero _ _ h1)
  rw [BitVec.toNat_add] at h2
  have h3 := q7s a b
  have h4 : (a &&& ~~~b).toNat ≤ (~~~b).toNat := by rw [BitVec.toNat_and]; exact Nat.and_le_right
  rw [BitVec.toNat_not] at h4
  have e3 := b.isLt
  omega
theorem qbos {x y : Int} (hx : uok x) (hy : uok y) (h : qcg .and .u64 x y = 0) : x + y = qcg .or .u64 x y := by
  rw [qbii] at h
  rw [qbug]
  have e1 := q4b hx
  have e2 := q4b hy
  have := qbsc (BitVec.ofInt 64 x) (BitVec.ofInt 64 y) (by omega)
  omega
theorem qbsd (x y : Int) : uok (qcg .or .u64 x y) := by
  rw [qbug]
  have := (BitVec.ofInt 64 x ||| BitVec.ofInt 64 y).isLt
  exact ⟨by omega, by omega⟩
theorem qbps {x : Int} (h : uok x) : qcg .andNot .u64 x 0 = x := by
  rw [qblg]
  have := q7s (BitVec.ofInt 64 x) (BitVec.ofInt 64 0)
  have h2 := q4b h
  have h3 : (BitVec.ofInt 64 x &&& BitVec.ofInt 64 0).toNat = 0 := by simp
  omega
theorem qkj (v6 : Bool) : qbi v6 ≤ 128 := by unfold qbi; split <;> omega
theorem qbv0 : ∀ n : Fin 33, qrz false (n.val : Int) = some (qlk (32 - n.val)) := by decide +kernel
theorem qbv1 : ∀ n : Fin 129, qrz true (n.val : Int) = some (qlk (128 - n.val)) := by decide +kernel
theorem qbkf {v6 : Bool} {bits : Int} (h1 : 0 ≤ bits) (h2 : bits ≤ qbi v6) : qmo v6 bits = some (qlk (qbi v6 - bits).toNat) := by
  rw [q3l]
  obtain ⟨n, rfl⟩ := Int.eq_ofNat_of_zero_le h1
  cases v6 with
  | false =>
    have h3 : n ≤ 32 := by simp [qbi] at h2; omega
    rw [qbv0 ⟨n, by omega⟩]
    congr 2
    simp [qbi] <;> omega
  | true =>
    have h3 : n ≤ 128 := by simp [qbi] at h2; omega
    rw [qbv1 ⟨n, by omega⟩]
    congr 2
    simp [qbi] <;> omega
theorem qbfq (v6 : Bool) (hi lo : Int) : qm9 v6 hi lo = some (ql5 v6 hi lo) := by
  rw [q72]; unfold q11 ql5
  have : decide (lo ≤ 4294967295) = decide (lo < 4294967296) := by apply decide_eq_decide.2; omega
  cases v6 <;> cases (hi == 0) <;> simp [this]
theorem q3c (v6 : Bool) (hi lo : Int) : qjf v6 hi lo = some (qbi v6) := by
  rw [q13]; unfold quz qbi
  cases v6 <;> rfl
theorem qxs (v6 : Bool) (hi lo bits : Int) : qfu v6 hi lo bits = some (qgk v6 hi lo bits) := by
  rw [q3m]; unfold qwy
  simp only [qyb, qsc, qbfq, q3c, oB_s]
  unfold qgk
  cases h1 : ql5 v6 hi lo
  · simp
  · by_cases h2 : bits < 0
    · have : ¬ 0 ≤ bits := by omega
      simp [h2, this]
    · have h2' : 0 ≤ bits := by omega
      by_cases h3 : qbi v6 < bits
      · have : ¬ bits ≤ qbi v6 := by omega
        simp [h2, h3, this]
      · have h3' : bits ≤ qbi v6 := by omega
        simp [h2, h3, h2', h3', qbkf h2' h3']
def qph (v6 : Bool) (hi lo bits : Int) (w6 : Bool) (ahi alo : Int) : Bool :=
  qgk v6 hi lo bits && (ql5 w6 ahi alo && ((v6 == w6) && ((qcg .andNot .u64 ahi (qlk (qbi v6 - bits).toNat).1 == hi) && (qcg .andNot .u64 alo (qlk (qbi v6 - bits).toNat).2 == lo))))
theorem qe8 {v6 : Bool} {hi lo bits : Int} (h : qgk v6 hi lo bits = true) : 0 ≤ bits ∧ bits ≤ qbi v6 ∧ ql5 v6 hi lo = true := by
  simp [qgk] at h
  exact ⟨h.1.1.1.2, h.1.1.2, h.1.1.1.1⟩
theorem qbuh {w6 : Bool} {ahi alo bits : Int} (h1 : 0 ≤ bits) (h2 : bits ≤ qbi w6) : qrh w6 ahi alo bits = some (bif ql5 w6 ahi alo then (.agg [(.bool w6), (.int .u64 (qcg .andNot .u64 ahi (qlk (qbi w6 - bits).toNat).1)), (.int .u64 (qcg .andNot .u64 alo (qlk (qbi w6 - bits).toNat).2)), (.int .i64 bits)], true) else (.agg [(.bool false), (.int .u64 0), (.int .u64 0), (.int .i64 0)], false)) := by
  rw [q9e]; unfold q4h
  have a1 : ¬ bits < 0 := by omega
  have a2 : ¬ qbi w6 < bits := by omega
  simp only [q3r, qw6, qbfq, q3c, oB_s, qbkf h1 h2]
  cases ql5 w6 ahi alo <;> simp [a1, a2]
theorem qx4 (v6 : Bool) (hi lo bits : Int) (w6 : Bool) (ahi alo : Int) : qgm v6 hi lo bits w6 ahi alo = some (qph v6 hi lo bits w6 ahi alo) := by
  rw [qyd]; unfold qsd qph
  simp only [qxs, oB_s]
  cases h1 : qgk v6 hi lo bits
  · simp
  · obtain ⟨h2, h3, _⟩ := qe8 h1
    by_cases h4 : v6 = w6
    · subst h4
      rw [qbuh h2 h3]
      cases ql5 v6 ahi alo <;> simp [gB, gI, gC, aB, aI, AV.cells]
    · have h6 : (v6 == w6) = false := by simpa using h4
      simp [h6]
end Go.Proofs.Ytmjdngnagiloeaa.Dn
