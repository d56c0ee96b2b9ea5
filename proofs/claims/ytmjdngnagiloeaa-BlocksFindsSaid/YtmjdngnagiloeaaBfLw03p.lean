/- Prefixes: what the program's words of layers 2 and 3, and ddiref03's, answer. -/
import Derived.Test.YtmjdngnagiloeaaBfLw03
set_option linter.all false
namespace Go.Proofs.Ytmjdngnagiloeaa.Dn
open Go Go.Pev
set_option linter.unusedVariables false
set_option linter.unusedSimpArgs false
set_option maxRecDepth 4000
def uok (x : Int) : Prop := 0 ≤ x ∧ x ≤ 18446744073709551615
theorem qbfu (n : Nat) (h : n < 18446744073709551616) : IntKind.u64.wrap (n : Int) = n := wu64 (by omega) (by omega)
theorem q64 {x : Int} (h : uok x) : ((BitVec.ofInt 64 x).toNat : Int) = x := by
  obtain ⟨h1, h2⟩ := h
  rw [BitVec.toNat_ofInt]
  omega
theorem qbk9 (x y : Int) : qb5 .and .u64 x y = ((BitVec.ofInt 64 x &&& BitVec.ofInt 64 y).toNat : Int) := by
  have := (BitVec.ofInt 64 x &&& BitVec.ofInt 64 y).isLt
  show IntKind.u64.wrap ((BitVec.ofInt 64 x &&& BitVec.ofInt 64 y).toNat : Int) = _
  exact qbfu _ (by omega)
theorem qb6h (x y : Int) : qb5 .or .u64 x y = ((BitVec.ofInt 64 x ||| BitVec.ofInt 64 y).toNat : Int) := by
  have := (BitVec.ofInt 64 x ||| BitVec.ofInt 64 y).isLt
  show IntKind.u64.wrap ((BitVec.ofInt 64 x ||| BitVec.ofInt 64 y).toNat : Int) = _
  exact qbfu _ (by omega)
theorem qbla (x y : Int) : qb5 .andNot .u64 x y = ((BitVec.ofInt 64 x &&& ~~~BitVec.ofInt 64 y).toNat : Int) := by
  have := (BitVec.ofInt 64 x &&& ~~~BitVec.ofInt 64 y).isLt
  show IntKind.u64.wrap ((BitVec.ofInt 64 x &&& ~~~BitVec.ofInt 64 y).toNat : Int) = _
  exact qbfu _ (by omega)
theorem q65 (a b : BitVec 64) : (a &&& b).toNat + (a &&& ~~~b).toNat = a.toNat := by
  have h1 : (a &&& b) &&& (a &&& ~~~b) = 0#64 := by
    ext i hi
    simp
    intro _ h _
    exact h
  have h2 : (a &&& b) ||| (a &&& ~~~b) = a := by
    ext i hi
    simp
    cases a[i] <;> cases b[i] <;> rfl
  have h3 := BitVec.add_eq_or_of_and_eq_zero _ _ h1
  rw [h2] at h3
  have h4 := congrArg BitVec.toNat h3
  rw [BitVec.toNat_add] at h4
  have e1 : (a &&& b).toNat ≤ a.toNat := by rw [BitVec.toNat_and]; exact Nat.and_le_left
  have e2 := (a &&& ~~~b).isLt
  have e3 := a.isLt
  omega
theorem qb2c {x : Int} (y : Int) (h : uok x) : IntKind.u64.wrap (x - qb5 .and .u64 x y) = qb5 .andNot .u64 x y := by
  have h1 := q65 (BitVec.ofInt 64 x) (BitVec.ofInt 64 y)
  have h2 := q64 h
  rw [qbk9, qbla]
  have h3 : x - ((BitVec.ofInt 64 x &&& BitVec.ofInt 64 y).toNat : Int) = ((BitVec.ofInt 64 x &&& ~~~BitVec.ofInt 64 y).toNat : Int) := by omega
  rw [h3]
  have := (BitVec.ofInt 64 x &&& ~~~BitVec.ofInt 64 y).isLt
  exact qbfu _ (by omega)
theorem qb4j (a b : BitVec 64) (h : (a &&& b).toNat = 0) : a.toNat + b.toNat = (a ||| b).toNat := by
  have h1 : a &&& b = 0#64 := BitVec.eq_of_toNat_eq h
  have h2 := congrArg BitVec.toNat (BitVec.add_eq_or_of_and_eq_zero _ _ h1)
  rw [BitVec.toNat_add] at h2
  have h3 := q65 a b
  have h4 : (a &&& ~~~b).toNat ≤ (~~~b).toNat := by rw [BitVec.toNat_and]; exact Nat.and_le_right
  rw [BitVec.toNat_not] at h4
  have e3 := b.isLt
  omega
theorem qblb {x y : Int} (hx : uok x) (hy : uok y) (h : qb5 .and .u64 x y = 0) : x + y = qb5 .or .u64 x y := by
  rw [qbk9] at h
  rw [qb6h]
  have e1 := q64 hx
  have e2 := q64 hy
  have := qb4j (BitVec.ofInt 64 x) (BitVec.ofInt 64 y) (by omega)
  omega
theorem qbdh (x y : Int) : uok (qb5 .or .u64 x y) := by
  rw [qb6h]
  have := (BitVec.ofInt 64 x ||| BitVec.ofInt 64 y).isLt
  exact ⟨by omega, by omega⟩
theorem qb1x {x : Int} (h : uok x) : qb5 .andNot .u64 x 0 = x := by
  rw [qbla]
  have := q65 (BitVec.ofInt 64 x) (BitVec.ofInt 64 0)
  have h2 := q64 h
  have h3 : (BitVec.ofInt 64 x &&& BitVec.ofInt 64 0).toNat = 0 := by simp
  omega
theorem qb5p : ∀ n : Fin 129, (0 ≤ (qe8 n).1 ∧ (qe8 n).1 ≤ 18446744073709551615) ∧ (0 ≤ (qe8 n).2 ∧ (qe8 n).2 ≤ 18446744073709551615) := by decide +kernel
theorem qh0 (v6 : Bool) : qq v6 ≤ 128 := by unfold qq; split <;> omega
theorem qb7z : ∀ n : Fin 33, qu5 false (n.val : Int) = some (qe8 (32 - n.val)) := by decide +kernel
theorem qb70 : ∀ n : Fin 129, qu5 true (n.val : Int) = some (qe8 (128 - n.val)) := by decide +kernel
theorem qb2d {v6 : Bool} {bits : Int} (h1 : 0 ≤ bits) (h2 : bits ≤ qq v6) : qqf v6 bits = some (qe8 (qq v6 - bits).toNat) := by
  rw [q9q]
  obtain ⟨n, rfl⟩ := Int.eq_ofNat_of_zero_le h1
  cases v6 with
  | false =>
    have h3 : n ≤ 32 := by simp [qq] at h2; omega
    rw [qb7z ⟨n, by omega⟩]
    congr 2
    simp [qq] <;> omega
  | true =>
    have h3 : n ≤ 128 := by simp [qq] at h2; omega
    rw [qb70 ⟨n, by omega⟩]
    congr 2
    simp [qq] <;> omega
theorem qb0w (v6 : Bool) (hi lo : Int) : qu4 v6 hi lo = some (qkt v6 hi lo) := by
  rw [qbf1]; unfold q7g qkt
  have : decide (lo ≤ 4294967295) = decide (lo < 4294967296) := by apply decide_eq_decide.2; omega
  cases v6 <;> cases (hi == 0) <;> simp [this]
theorem q85 (v6 : Bool) (hi lo : Int) : qjv v6 hi lo = some (qq v6) := by
  rw [q7i]; unfold qzg qq
  cases v6 <;> rfl
theorem q86 (v6 : Bool) (hi lo bits : Int) : qg3 v6 hi lo bits = some (qew v6 hi lo bits) := by
  rw [q9r]; unfold q2i
  simp only [q3r, qvp, qb0w, q85, oB_s]
  unfold qew
  cases h1 : qkt v6 hi lo
  · simp
  · by_cases h2 : bits < 0
    · have : ¬ 0 ≤ bits := by omega
      simp [h2, this]
    · have h2' : 0 ≤ bits := by omega
      by_cases h3 : qq v6 < bits
      · have : ¬ bits ≤ qq v6 := by omega
        simp [h2, h3, this]
      · have h3' : bits ≤ qq v6 := by omega
        simp [h2, h3, h2', h3', qb2d h2' h3']
def qnc (v6 : Bool) (hi lo bits : Int) (w6 : Bool) (ahi alo : Int) : Bool :=
  qew v6 hi lo bits && (qkt w6 ahi alo && ((v6 == w6) && ((qb5 .andNot .u64 ahi (qe8 (qq v6 - bits).toNat).1 == hi) && (qb5 .andNot .u64 alo (qe8 (qq v6 - bits).toNat).2 == lo))))
theorem qf8 {v6 : Bool} {hi lo bits : Int} (h : qew v6 hi lo bits = true) : 0 ≤ bits ∧ bits ≤ qq v6 ∧ qkt v6 hi lo = true := by
  simp [qew] at h
  exact ⟨h.1.1.1.2, h.1.1.2, h.1.1.1.1⟩
theorem qb8i {w6 : Bool} {ahi alo bits : Int} (h1 : 0 ≤ bits) (h2 : bits ≤ qq w6) : q3t w6 ahi alo bits = some (bif qkt w6 ahi alo then (.agg [(.bool w6), (.int .u64 (qb5 .andNot .u64 ahi (qe8 (qq w6 - bits).toNat).1)), (.int .u64 (qb5 .andNot .u64 alo (qe8 (qq w6 - bits).toNat).2)), (.int .i64 bits)], true) else (.agg [(.bool false), (.int .u64 0), (.int .u64 0), (.int .i64 0)], false)) := by
  rw [qbia]; unfold qbaq
  have a1 : ¬ bits < 0 := by omega
  have a2 : ¬ qq w6 < bits := by omega
  simp only [q9w, q2q, qb0w, q85, oB_s, qb2d h1 h2]
  cases qkt w6 ahi alo <;> simp [a1, a2]
theorem qbov (v6 : Bool) (hi lo bits : Int) (w6 : Bool) (ahi alo : Int) : qlz v6 hi lo bits w6 ahi alo = some (qnc v6 hi lo bits w6 ahi alo) := by
  rw [q3u]; unfold qvq qnc
  simp only [q86, oB_s]
  cases h1 : qew v6 hi lo bits
  · simp
  · obtain ⟨h2, h3, _⟩ := qf8 h1
    by_cases h4 : v6 = w6
    · subst h4
      rw [qb8i h2 h3]
      cases qkt v6 ahi alo <;> simp [gB, gI, gC, aB, aI, AV.cells]
    · have h6 : (v6 == w6) = false := by simpa using h4
      simp [h6]
theorem qb8j {w6 : Bool} {ahi alo bits : Int} (h1 : 0 ≤ bits) (h2 : bits ≤ qq w6) (hv : qkt w6 ahi alo = true) (u1 : uok ahi) (u2 : uok alo) : qwp w6 ahi alo bits = some (.agg [(.bool w6), (.int .u64 (qb5 .andNot .u64 ahi (qe8 (qq w6 - bits).toNat).1)), (.int .u64 (qb5 .andNot .u64 alo (qe8 (qq w6 - bits).toNat).2)), (.int .i64 bits)], true) := by
  rw [qbbz]; unfold q46
  have a1 : ¬ bits < 0 := by omega
  have a2 : ¬ qq w6 < bits := by omega
  have hl := qh0 w6
  have hw : IntKind.i64.wrap (qq w6 - bits) = qq w6 - bits := w64 (by omega) (by omega)
  have hm : (min (qq w6 - bits) 128).toNat = (qq w6 - bits).toNat := by congr 1; omega
  simp only [q5z, qx3, qbk7, qbk8, qb0v, oB_s, hv, hw, hm, qb2c _ u1, qb2c _ u2]
  simp [a1, a2]
theorem qbow (v6 : Bool) (hi lo bits : Int) (w6 : Bool) (ahi alo : Int) (u1 : uok ahi) (u2 : uok alo) : qi9 v6 hi lo bits w6 ahi alo = some (qnc v6 hi lo bits w6 ahi alo) := by
  rw [qz0]; unfold qsx qnc
  simp only [qvk, qpn, q4y, qbk7, oB_s]
  cases h1 : qew v6 hi lo bits
  · simp
  · obtain ⟨h2, h3, _⟩ := qf8 h1
    cases h5 : qkt w6 ahi alo
    · simp
    · by_cases h4 : v6 = w6
      · subst h4
        rw [qb8j h2 h3 h5 u1 u2]
        simp [gB, gI, gC, aB, aI, AV.cells]
      · have h6 : (v6 == w6) = false := by simpa using h4
        simp [h6]
end Go.Proofs.Ytmjdngnagiloeaa.Dn
