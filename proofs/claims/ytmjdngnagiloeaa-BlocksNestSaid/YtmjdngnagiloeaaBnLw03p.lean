/- Prefixes: what the program's words of layers 2 and 3, and ddiref03's, answer. -/
import Derived.Test.YtmjdngnagiloeaaBnLw03
set_option linter.all false
namespace Go.Proofs.Ytmjdngnagiloeaa.Dn
open Go Go.Pev
set_option linter.unusedVariables false
set_option linter.unusedSimpArgs false
set_option maxRecDepth 4000
def uok (x : Int) : Prop := 0 ≤ x ∧ x ≤ 18446744073709551615
theorem qbcz (n : Nat) (h : n < 18446744073709551616) : IntKind.u64.wrap (n : Int) = n := wu64 (by omega) (by omega)
theorem qv6 {x : Int} (h : uok x) : ((BitVec.ofInt 64 x).toNat : Int) = x := by
  obtain ⟨h1, h2⟩ := h
  rw [BitVec.toNat_ofInt]
  omega
theorem q8t (x y : Int) : qcf .and .u64 x y = ((BitVec.ofInt 64 x &&& BitVec.ofInt 64 y).toNat : Int) := by
  have := (BitVec.ofInt 64 x &&& BitVec.ofInt 64 y).isLt
  show IntKind.u64.wrap ((BitVec.ofInt 64 x &&& BitVec.ofInt 64 y).toNat : Int) = _
  exact qbcz _ (by omega)
theorem qbq1 (x y : Int) : qcf .or .u64 x y = ((BitVec.ofInt 64 x ||| BitVec.ofInt 64 y).toNat : Int) := by
  have := (BitVec.ofInt 64 x ||| BitVec.ofInt 64 y).isLt
  show IntKind.u64.wrap ((BitVec.ofInt 64 x ||| BitVec.ofInt 64 y).toNat : Int) = _
  exact qbcz _ (by omega)
theorem q1o (x y : Int) : qcf .andNot .u64 x y = ((BitVec.ofInt 64 x &&& ~~~BitVec.ofInt 64 y).toNat : Int) := by
  have := (BitVec.ofInt 64 x &&& ~~~BitVec.ofInt 64 y).isLt
  show IntKind.u64.wrap ((BitVec.ofInt 64 x &&& ~~~BitVec.ofInt 64 y).toNat : Int) = _
  exact qbcz _ (by omega)
theorem quh (a b : BitVec 64) : (a &&& b).toNat + (a &&& ~~~b).toNat = a.toNat := by
  have h1 : (a &&& b) &&& (a &&& ~~~b) = 0#64 := by
    ext i hi
    simp
    intro _ h _
    exact h
  have h2 : (a &&& b) ||| (a &&& ~~~b) = a := by
    ext i hi
    simp
    cases a[i] <;> cases b[i] <;> rfl
  have h3 := BitVec.add_eq_or_of_and_eq_zero _ _ h1
  rw [h2] at h3
  have h4 := congrArg BitVec.toNat h3
  rw [BitVec.toNat_add] at h4
  have e1 : (a &&& b).toNat ≤ a.toNat := by rw [BitVec.toNat_and]; exact Nat.and_le_left
  have e2 := (a &&& ~~~b).isLt
  have e3 := a.isLt
  omega
theorem qbo3 (a b : BitVec 64) (h : (a &&& b).toNat = 0) : a.toNat + b.toNat = (a ||| b).toNat := by
  have h1 : a &&& b = 0#64 := BitVec.eq_of_toNat_eq h
  have h2 := congrArg BitVec.toNat (BitVec.add_eq_or_of_and_eq_zero _ _ h1)
  rw [BitVec.toNat_add] at h2
  have h3 := quh a b
  have h4 : (a &&& ~~~b).toNat ≤ (~~~b).toNat := by rw [BitVec.toNat_and]; exact Nat.and_le_right
  rw [BitVec.toNat_not] at h4
  have e3 := b.isLt
  omega
theorem qbll {x y : Int} (hx : uok x) (hy : uok y) (h : qcf .and .u64 x y = 0) : x + y = qcf .or .u64 x y := by
  rw [q8t] at h
  rw [qbq1]
  have e1 := qv6 hx
  have e2 := qv6 hy
  have := qbo3 (BitVec.ofInt 64 x) (BitVec.ofInt 64 y) (by omega)
  omega
theorem qbo4 (x y : Int) : uok (qcf .or .u64 x y) := by
  rw [qbq1]
  have := (BitVec.ofInt 64 x ||| BitVec.ofInt 64 y).isLt
  exact ⟨by omega, by omega⟩
theorem qbmj {x : Int} (h : uok x) : qcf .andNot .u64 x 0 = x := by
  rw [q1o]
  have := quh (BitVec.ofInt 64 x) (BitVec.ofInt 64 0)
  have h2 := qv6 h
  have h3 : (BitVec.ofInt 64 x &&& BitVec.ofInt 64 0).toNat = 0 := by simp
  omega
theorem qkj (v6 : Bool) : qbg v6 ≤ 128 := by unfold qbg; split <;> omega
theorem qbse : ∀ n : Fin 33, qqd false (n.val : Int) = some (qki (32 - n.val)) := by decide +kernel
theorem qbsf : ∀ n : Fin 129, qqd true (n.val : Int) = some (qki (128 - n.val)) := by decide +kernel
theorem qbmy {v6 : Bool} {bits : Int} (h1 : 0 ≤ bits) (h2 : bits ≤ qbg v6) : qm0 v6 bits = some (qki (qbg v6 - bits).toNat) := by
  rw [q0w]
  obtain ⟨n, rfl⟩ := Int.eq_ofNat_of_zero_le h1
  cases v6 with
  | false =>
    have h3 : n ≤ 32 := by simp [qbg] at h2; omega
    rw [qbse ⟨n, by omega⟩]
    congr 2
    simp [qbg] <;> omega
  | true =>
    have h3 : n ≤ 128 := by simp [qbg] at h2; omega
    rw [qbsf ⟨n, by omega⟩]
    congr 2
    simp [qbg] <;> omega
theorem qblm (v6 : Bool) (hi lo : Int) : qqc v6 hi lo = some (qnf v6 hi lo) := by
  rw [q5i]; unfold qzd qnf
  have : decide (lo ≤ 4294967295) = decide (lo < 4294967296) := by apply decide_eq_decide.2; omega
  cases v6 <;> cases (hi == 0) <;> simp [this]
theorem q0l (v6 : Bool) (hi lo : Int) : qim v6 hi lo = some (qbg v6) := by
  rw [qzf]; unfold qs8 qbg
  cases v6 <;> rfl
theorem q0m (v6 : Bool) (hi lo bits : Int) : qf7 v6 hi lo bits = some (qfl v6 hi lo bits) := by
  rw [q0x]; unfold qu5
  simp only [qwc, qqr, qblm, q0l, oB_s]
  unfold qfl
  cases h1 : qnf v6 hi lo
  · simp
  · by_cases h2 : bits < 0
    · have : ¬ 0 ≤ bits := by omega
      simp [h2, this]
    · have h2' : 0 ≤ bits := by omega
      by_cases h3 : qbg v6 < bits
      · have : ¬ bits ≤ qbg v6 := by omega
        simp [h2, h3, this]
      · have h3' : bits ≤ qbg v6 := by omega
        simp [h2, h3, h2', h3', qbmy h2' h3']
def qqp (v6 : Bool) (hi lo bits : Int) (w6 : Bool) (ahi alo : Int) : Bool :=
  qfl v6 hi lo bits && (qnf w6 ahi alo && ((v6 == w6) && ((qcf .andNot .u64 ahi (qki (qbg v6 - bits).toNat).1 == hi) && (qcf .andNot .u64 alo (qki (qbg v6 - bits).toNat).2 == lo))))
theorem qgd {v6 : Bool} {hi lo bits : Int} (h : qfl v6 hi lo bits = true) : 0 ≤ bits ∧ bits ≤ qbg v6 ∧ qnf v6 hi lo = true := by
  simp [qfl] at h
  exact ⟨h.1.1.1.2, h.1.1.2, h.1.1.1.1⟩
theorem qbsx {w6 : Bool} {ahi alo bits : Int} (h1 : 0 ≤ bits) (h2 : bits ≤ qbg w6) : qwe w6 ahi alo bits = some (bif qnf w6 ahi alo then (.agg [(.bool w6), (.int .u64 (qcf .andNot .u64 ahi (qki (qbg w6 - bits).toNat).1)), (.int .u64 (qcf .andNot .u64 alo (qki (qbg w6 - bits).toNat).2)), (.int .i64 bits)], true) else (.agg [(.bool false), (.int .u64 0), (.int .u64 0), (.int .i64 0)], false)) := by
  rw [q6v]; unfold q1w
  have a1 : ¬ bits < 0 := by omega
  have a2 : ¬ qbg w6 < bits := by omega
  simp only [q02, qvd, qblm, q0l, oB_s, qbmy h1 h2]
  cases qnf w6 ahi alo <;> simp [a1, a2]
theorem qbbb (v6 : Bool) (hi lo bits : Int) (w6 : Bool) (ahi alo : Int) : qkb v6 hi lo bits w6 ahi alo = some (qqp v6 hi lo bits w6 ahi alo) := by
  rw [qwf]; unfold qqs qqp
  simp only [q0m, oB_s]
  cases h1 : qfl v6 hi lo bits
  · simp
  · obtain ⟨h2, h3, _⟩ := qgd h1
    by_cases h4 : v6 = w6
    · subst h4
      rw [qbsx h2 h3]
      cases qnf v6 ahi alo <;> simp [gB, gI, gC, aB, aI, AV.cells]
    · have h6 : (v6 == w6) = false := by simpa using h4
      simp [h6]
end Go.Proofs.Ytmjdngnagiloeaa.Dn
