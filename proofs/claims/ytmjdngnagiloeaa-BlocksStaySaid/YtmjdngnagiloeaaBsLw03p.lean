/- Prefixes: what the program's words of layers 2 and 3, and ddiref03's, answer. -/
import Derived.Test.YtmjdngnagiloeaaBsLw03
set_option linter.all false
namespace Go.Proofs.Ytmjdngnagiloeaa.Dn
open Go Go.Pev
set_option linter.unusedVariables false
set_option linter.unusedSimpArgs false
set_option maxRecDepth 4000
def uok (x : Int) : Prop := 0 ≤ x ∧ x ≤ 18446744073709551615
theorem qbeb (n : Nat) (h : n < 18446744073709551616) : IntKind.u64.wrap (n : Int) = n := wu64 (by omega) (by omega)
theorem qwy {x : Int} (h : uok x) : ((BitVec.ofInt 64 x).toNat : Int) = x := by
  obtain ⟨h1, h2⟩ := h
  rw [BitVec.toNat_ofInt]
  omega
theorem q93 (x y : Int) : qcg .and .u64 x y = ((BitVec.ofInt 64 x &&& BitVec.ofInt 64 y).toNat : Int) := by
  have := (BitVec.ofInt 64 x &&& BitVec.ofInt 64 y).isLt
  show IntKind.u64.wrap ((BitVec.ofInt 64 x &&& BitVec.ofInt 64 y).toNat : Int) = _
  exact qbeb _ (by omega)
theorem qbse (x y : Int) : qcg .or .u64 x y = ((BitVec.ofInt 64 x ||| BitVec.ofInt 64 y).toNat : Int) := by
  have := (BitVec.ofInt 64 x ||| BitVec.ofInt 64 y).isLt
  show IntKind.u64.wrap ((BitVec.ofInt 64 x ||| BitVec.ofInt 64 y).toNat : Int) = _
  exact qbeb _ (by omega)
theorem q2o (x y : Int) : qcg .andNot .u64 x y = ((BitVec.ofInt 64 x &&& ~~~BitVec.ofInt 64 y).toNat : Int) := by
  have := (BitVec.ofInt 64 x &&& ~~~BitVec.ofInt 64 y).isLt
  show IntKind.u64.wrap ((BitVec.ofInt 64 x &&& ~~~BitVec.ofInt 64 y).toNat : Int) = _
  exact qbeb _ (by omega)
theorem qu6 (a b : BitVec 64) : (a &&& b).toNat + (a &&& ~~~b).toNat = a.toNat := by
  have h1 : (a &&& b) &&& (a &&& ~~~b) = 0#64 := by
    ext i hi
    simp
    intro _ h _
    exact h
  have h2 : (a &&& b) ||| (a &&& ~~~b) = a := by
    ext i hi
    simp
    cases a[i] <;> cases b[i] <;> rfl
  have h3 := BitVec.add_eq_or_of_and_eq_zero _ _ h1
  rw [h2] at h3
  have h4 := congrArg BitVec.toNat h3
  rw [BitVec.toNat_add] at h4
  have e1 : (a &&& b).toNat ≤ a.toNat := by rw [BitVec.toNat_and]; exact Nat.and_le_left
  have e2 := (a &&& ~~~b).isLt
  have e3 := a.isLt
  omega
theorem qbqk (a b : BitVec 64) (h : (a &&& b).toNat = 0) : a.toNat + b.toNat = (a ||| b).toNat := by
  have h1 : a &&& b = 0#64 := BitVec.eq_of_toNat_eq h
  have h2 := congrArg BitVec.toNat (BitVec.add_eq_or_of_and_eq_zero _ _ h1)
  rw [BitVec.toNat_add] at h2
  have h3 := qu6 a b
  have h4 : (a &&& ~~~b).toNat ≤ (~~~b).toNat := by rw [BitVec.toNat_and]; exact Nat.and_le_right
  rw [BitVec.toNat_not] at h4
  have e3 := b.isLt
  omega
theorem qbmz {x y : Int} (hx : uok x) (hy : uok y) (h : qcg .and .u64 x y = 0) : x + y = qcg .or .u64 x y := by
  rw [q93] at h
  rw [qbse]
  have e1 := qwy hx
  have e2 := qwy hy
  have := qbqk (BitVec.ofInt 64 x) (BitVec.ofInt 64 y) (by omega)
  omega
theorem qbql (x y : Int) : uok (qcg .or .u64 x y) := by
  rw [qbse]
  have := (BitVec.ofInt 64 x ||| BitVec.ofInt 64 y).isLt
  exact ⟨by omega, by omega⟩
theorem qbny {x : Int} (h : uok x) : qcg .andNot .u64 x 0 = x := by
  rw [q2o]
  have := qu6 (BitVec.ofInt 64 x) (BitVec.ofInt 64 0)
  have h2 := qwy h
  have h3 : (BitVec.ofInt 64 x &&& BitVec.ofInt 64 0).toNat = 0 := by simp
  omega
theorem qkr (v6 : Bool) : q8 v6 ≤ 128 := by unfold q8; split <;> omega
theorem qbtv : ∀ n : Fin 33, qq0 false (n.val : Int) = some (qkq (32 - n.val)) := by decide +kernel
theorem qbtw : ∀ n : Fin 129, qq0 true (n.val : Int) = some (qkq (128 - n.val)) := by decide +kernel
theorem qbof {v6 : Bool} {bits : Int} (h1 : 0 ≤ bits) (h2 : bits ≤ q8 v6) : qm9 v6 bits = some (qkq (q8 v6 - bits).toNat) := by
  rw [q1y]
  obtain ⟨n, rfl⟩ := Int.eq_ofNat_of_zero_le h1
  cases v6 with
  | false =>
    have h3 : n ≤ 32 := by simp [q8] at h2; omega
    rw [qbtv ⟨n, by omega⟩]
    congr 2
    simp [q8] <;> omega
  | true =>
    have h3 : n ≤ 128 := by simp [q8] at h2; omega
    rw [qbtw ⟨n, by omega⟩]
    congr 2
    simp [q8] <;> omega
theorem qbm0 (v6 : Bool) (hi lo : Int) : qqz v6 hi lo = some (qnp v6 hi lo) := by
  rw [q6p]; unfold q0e qnp
  have : decide (lo ≤ 4294967295) = decide (lo < 4294967296) := by apply decide_eq_decide.2; omega
  cases v6 <;> cases (hi == 0) <;> simp [this]
theorem q1n (v6 : Bool) (hi lo : Int) : qin v6 hi lo = some (q8 v6) := by
  rw [q0g]; unfold qtu q8
  cases v6 <;> rfl
theorem q1o (v6 : Bool) (hi lo bits : Int) : qf6 v6 hi lo bits = some (qfl v6 hi lo bits) := by
  rw [q1z]; unfold qvs
  simp only [qw4, qrd, qbm0, q1n, oB_s]
  unfold qfl
  cases h1 : qnp v6 hi lo
  · simp
  · by_cases h2 : bits < 0
    · have : ¬ 0 ≤ bits := by omega
      simp [h2, this]
    · have h2' : 0 ≤ bits := by omega
      by_cases h3 : q8 v6 < bits
      · have : ¬ bits ≤ q8 v6 := by omega
        simp [h2, h3, this]
      · have h3' : bits ≤ q8 v6 := by omega
        simp [h2, h3, h2', h3', qbof h2' h3']
def qrb (v6 : Bool) (hi lo bits : Int) (w6 : Bool) (ahi alo : Int) : Bool :=
  qfl v6 hi lo bits && (qnp w6 ahi alo && ((v6 == w6) && ((qcg .andNot .u64 ahi (qkq (q8 v6 - bits).toNat).1 == hi) && (qcg .andNot .u64 alo (qkq (q8 v6 - bits).toNat).2 == lo))))
theorem qgc {v6 : Bool} {hi lo bits : Int} (h : qfl v6 hi lo bits = true) : 0 ≤ bits ∧ bits ≤ q8 v6 ∧ qnp v6 hi lo = true := by
  simp [qfl] at h
  exact ⟨h.1.1.1.2, h.1.1.2, h.1.1.1.1⟩
theorem qbuj {w6 : Bool} {ahi alo bits : Int} (h1 : 0 ≤ bits) (h2 : bits ≤ q8 w6) : qw6 w6 ahi alo bits = some (bif qnp w6 ahi alo then (.agg [(.bool w6), (.int .u64 (qcg .andNot .u64 ahi (qkq (q8 w6 - bits).toNat).1)), (.int .u64 (qcg .andNot .u64 alo (qkq (q8 w6 - bits).toNat).2)), (.int .i64 bits)], true) else (.agg [(.bool false), (.int .u64 0), (.int .u64 0), (.int .i64 0)], false)) := by
  rw [q72]; unfold q2v
  have a1 : ¬ bits < 0 := by omega
  have a2 : ¬ q8 w6 < bits := by omega
  simp only [q14, qv0, qbm0, q1n, oB_s, qbof h1 h2]
  cases qnp w6 ahi alo <;> simp [a1, a2]
theorem qbck (v6 : Bool) (hi lo bits : Int) (w6 : Bool) (ahi alo : Int) : qkh v6 hi lo bits w6 ahi alo = some (qrb v6 hi lo bits w6 ahi alo) := by
  rw [qw7]; unfold qre qrb
  simp only [q1o, oB_s]
  cases h1 : qfl v6 hi lo bits
  · simp
  · obtain ⟨h2, h3, _⟩ := qgc h1
    by_cases h4 : v6 = w6
    · subst h4
      rw [qbuj h2 h3]
      cases qnp v6 ahi alo <;> simp [gB, gI, gC, aB, aI, AV.cells]
    · have h6 : (v6 == w6) = false := by simpa using h4
      simp [h6]
end Go.Proofs.Ytmjdngnagiloeaa.Dn
