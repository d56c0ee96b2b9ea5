/- Prefixes: what the program's words of layers 2 and 3, and ddiref03's, answer. -/
import Derived.Test.YtmjdngnagiloeaaBcLw03
set_option linter.all false
namespace Go.Proofs.Ytmjdngnagiloeaa.Dn
open Go Go.Pev
set_option linter.unusedVariables false
set_option linter.unusedSimpArgs false
set_option maxRecDepth 4000
def uok (x : Int) : Prop := 0 ≤ x ∧ x ≤ 18446744073709551615
theorem wrap_nat (n : Nat) (h : n < 18446744073709551616) : IntKind.u64.wrap (n : Int) = n := wu64 (by omega) (by omega)
theorem bv_of {x : Int} (h : uok x) : ((BitVec.ofInt 64 x).toNat : Int) = x := by
  obtain ⟨h1, h2⟩ := h
  rw [BitVec.toNat_ofInt]
  omega
theorem ib_and (x y : Int) : ibits .and .u64 x y = ((BitVec.ofInt 64 x &&& BitVec.ofInt 64 y).toNat : Int) := by
  have := (BitVec.ofInt 64 x &&& BitVec.ofInt 64 y).isLt
  show IntKind.u64.wrap ((BitVec.ofInt 64 x &&& BitVec.ofInt 64 y).toNat : Int) = _
  exact wrap_nat _ (by omega)
theorem ib_or (x y : Int) : ibits .or .u64 x y = ((BitVec.ofInt 64 x ||| BitVec.ofInt 64 y).toNat : Int) := by
  have := (BitVec.ofInt 64 x ||| BitVec.ofInt 64 y).isLt
  show IntKind.u64.wrap ((BitVec.ofInt 64 x ||| BitVec.ofInt 64 y).toNat : Int) = _
  exact wrap_nat _ (by omega)
theorem ib_andNot (x y : Int) : ibits .andNot .u64 x y = ((BitVec.ofInt 64 x &&& ~~~BitVec.ofInt 64 y).toNat : Int) := by
  have := (BitVec.ofInt 64 x &&& ~~~BitVec.ofInt 64 y).isLt
  show IntKind.u64.wrap ((BitVec.ofInt 64 x &&& ~~~BitVec.ofInt 64 y).toNat : Int) = _
  exact wrap_nat _ (by omega)
theorem split_bits (a b : BitVec 64) : (a &&& b).toNat + (a &&& ~~~b).toNat = a.toNat := by
  have h1 : (a &&& b) &&& (a &&& ~~~b) = 0#64 := by
    ext i hi
    simp
    intro _ h _
    exact h
  have h2 : (a &&& b) ||| (a &&& ~~~b) = a := by
    ext i hi
    simp
    cases a[i] <;> cases b[i] <;> rfl
  have h3 := BitVec.add_eq_or_of_and_eq_zero _ _ h1
  rw [h2] at h3
  have h4 := congrArg BitVec.toNat h3
  rw [BitVec.toNat_add] at h4
  have e1 : (a &&& b).toNat ≤ a.toNat := by rw [BitVec.toNat_and]; exact Nat.and_le_left
  have e2 := (a &&& ~~~b).isLt
  have e3 := a.isLt
  omega
theorem sub_and {x : Int} (y : Int) (h : uok x) : IntKind.u64.wrap (x - ibits .and .u64 x y) = ibits .andNot .u64 x y := by
  have h1 := split_bits (BitVec.ofInt 64 x) (BitVec.ofInt 64 y)
  have h2 := bv_of h
  rw [ib_and, ib_andNot]
  have h3 : x - ((BitVec.ofInt 64 x &&& BitVec.ofInt 64 y).toNat : Int) = ((BitVec.ofInt 64 x &&& ~~~BitVec.ofInt 64 y).toNat : Int) := by omega
  rw [h3]
  have := (BitVec.ofInt 64 x &&& ~~~BitVec.ofInt 64 y).isLt
  exact wrap_nat _ (by omega)
theorem add_or_bv (a b : BitVec 64) (h : (a &&& b).toNat = 0) : a.toNat + b.toNat = (a ||| b).toNat := by
  have h1 : a &&& b = 0#64 := BitVec.eq_of_toNat_eq h
  have h2 := congrArg BitVec.toNat (BitVec.add_eq_or_of_and_eq_zero _ _ h1)
  rw [BitVec.toNat_add] at h2
  have h3 := split_bits a b
  have h4 : (a &&& ~~~b).toNat ≤ (~~~b).toNat := by rw [BitVec.toNat_and]; exact Nat.and_le_right
  rw [BitVec.toNat_not] at h4
  have e3 := b.isLt
  omega
theorem add_or {x y : Int} (hx : uok x) (hy : uok y) (h : ibits .and .u64 x y = 0) : x + y = ibits .or .u64 x y := by
  rw [ib_and] at h
  rw [ib_or]
  have e1 := bv_of hx
  have e2 := bv_of hy
  have := add_or_bv (BitVec.ofInt 64 x) (BitVec.ofInt 64 y) (by omega)
  omega
theorem or_uok (x y : Int) : uok (ibits .or .u64 x y) := by
  rw [ib_or]
  have := (BitVec.ofInt 64 x ||| BitVec.ofInt 64 y).isLt
  exact ⟨by omega, by omega⟩
theorem andNot_zero {x : Int} (h : uok x) : ibits .andNot .u64 x 0 = x := by
  rw [ib_andNot]
  have := split_bits (BitVec.ofInt 64 x) (BitVec.ofInt 64 0)
  have h2 := bv_of h
  have h3 : (BitVec.ofInt 64 x &&& BitVec.ofInt 64 0).toNat = 0 := by simp
  omega
theorem long_le (v6 : Bool) : longOf v6 ≤ 128 := by unfold longOf; split <;> omega
theorem later4 : ∀ n : Fin 33, qoh false (n.val : Int) = some (onesF (32 - n.val)) := by decide +kernel
theorem later6 : ∀ n : Fin 129, qoh true (n.val : Int) = some (onesF (128 - n.val)) := by decide +kernel
theorem p_later {v6 : Bool} {bits : Int} (h1 : 0 ≤ bits) (h2 : bits ≤ longOf v6) : qlb v6 bits = some (onesF (longOf v6 - bits).toNat) := by
  rw [qxt]
  obtain ⟨n, rfl⟩ := Int.eq_ofNat_of_zero_le h1
  cases v6 with
  | false =>
    have h3 : n ≤ 32 := by simp [longOf] at h2; omega
    rw [later4 ⟨n, by omega⟩]
    congr 2
    simp [longOf] <;> omega
  | true =>
    have h3 : n ≤ 128 := by simp [longOf] at h2; omega
    rw [later6 ⟨n, by omega⟩]
    congr 2
    simp [longOf] <;> omega
theorem p_aValid (v6 : Bool) (hi lo : Int) : qog v6 hi lo = some (addrOk v6 hi lo) := by
  rw [q0z]; unfold qwh addrOk
  have : decide (lo ≤ 4294967295) = decide (lo < 4294967296) := by apply decide_eq_decide.2; omega
  cases v6 <;> cases (hi == 0) <;> simp [this]
theorem p_length (v6 : Bool) (hi lo : Int) : qgw v6 hi lo = some (longOf v6) := by
  rw [qwj]; unfold qrb longOf
  cases v6 <;> rfl
theorem p_pValid (v6 : Bool) (hi lo bits : Int) : qey v6 hi lo bits = some (prefOk v6 hi lo bits) := by
  rw [qxu]; unfold qs9
  simp only [qtw, qos, p_aValid, p_length, oB_s]
  unfold prefOk
  cases h1 : addrOk v6 hi lo
  · simp
  · by_cases h2 : bits < 0
    · have : ¬ 0 ≤ bits := by omega
      simp [h2, this]
    · have h2' : 0 ≤ bits := by omega
      by_cases h3 : longOf v6 < bits
      · have : ¬ bits ≤ longOf v6 := by omega
        simp [h2, h3, this]
      · have h3' : bits ≤ longOf v6 := by omega
        simp [h2, h3, h2', h3', p_later h2' h3']
def contF (v6 : Bool) (hi lo bits : Int) (w6 : Bool) (ahi alo : Int) : Bool :=
  prefOk v6 hi lo bits && (addrOk w6 ahi alo && ((v6 == w6) && ((ibits .andNot .u64 ahi (onesF (longOf v6 - bits).toNat).1 == hi) && (ibits .andNot .u64 alo (onesF (longOf v6 - bits).toNat).2 == lo))))
theorem prefOk_range {v6 : Bool} {hi lo bits : Int} (h : prefOk v6 hi lo bits = true) : 0 ≤ bits ∧ bits ≤ longOf v6 ∧ addrOk v6 hi lo = true := by
  simp [prefOk] at h
  exact ⟨h.1.1.1.2, h.1.1.2, h.1.1.1.1⟩
theorem p_pOf {w6 : Bool} {ahi alo bits : Int} (h1 : 0 ≤ bits) (h2 : bits ≤ longOf w6) : qty w6 ahi alo bits = some (bif addrOk w6 ahi alo then (.agg [(.bool w6), (.int .u64 (ibits .andNot .u64 ahi (onesF (longOf w6 - bits).toNat).1)), (.int .u64 (ibits .andNot .u64 alo (onesF (longOf w6 - bits).toNat).2)), (.int .i64 bits)], true) else (.agg [(.bool false), (.int .u64 0), (.int .u64 0), (.int .i64 0)], false)) := by
  rw [q2h]; unfold qyb
  have a1 : ¬ bits < 0 := by omega
  have a2 : ¬ longOf w6 < bits := by omega
  simp only [qxz, qth, p_aValid, p_length, oB_s, p_later h1 h2]
  cases addrOk w6 ahi alo <;> simp [a1, a2]
theorem p_pContains (v6 : Bool) (hi lo bits : Int) (w6 : Bool) (ahi alo : Int) : qil v6 hi lo bits w6 ahi alo = some (contF v6 hi lo bits w6 ahi alo) := by
  rw [qtz]; unfold qot contF
  simp only [p_pValid, oB_s]
  cases h1 : prefOk v6 hi lo bits
  · simp
  · obtain ⟨h2, h3, _⟩ := prefOk_range h1
    by_cases h4 : v6 = w6
    · subst h4
      rw [p_pOf h2 h3]
      cases addrOk v6 ahi alo <;> simp [gB, gI, gC, aB, aI, AV.cells]
    · have h6 : (v6 == w6) = false := by simpa using h4
      simp [h6]
theorem p_rOf {w6 : Bool} {ahi alo bits : Int} (h1 : 0 ≤ bits) (h2 : bits ≤ longOf w6) (hv : addrOk w6 ahi alo = true) (u1 : uok ahi) (u2 : uok alo) : qpi w6 ahi alo bits = some (.agg [(.bool w6), (.int .u64 (ibits .andNot .u64 ahi (onesF (longOf w6 - bits).toNat).1)), (.int .u64 (ibits .andNot .u64 alo (onesF (longOf w6 - bits).toNat).2)), (.int .i64 bits)], true) := by
  rw [qy3]; unfold quw
  have a1 : ¬ bits < 0 := by omega
  have a2 : ¬ longOf w6 < bits := by omega
  have hl := long_le w6
  have hw : IntKind.i64.wrap (longOf w6 - bits) = longOf w6 - bits := w64 (by omega) (by omega)
  have hm : (min (longOf w6 - bits) 128).toNat = (longOf w6 - bits).toNat := by congr 1; omega
  simp only [qvo, qqh, p_Valid02, p_Long, p_ones, oB_s, hv, hw, hm, sub_and _ u1, sub_and _ u2]
  simp [a1, a2]
theorem p_rContains (v6 : Bool) (hi lo bits : Int) (w6 : Bool) (ahi alo : Int) (u1 : uok ahi) (u2 : uok alo) : qi0 v6 hi lo bits w6 ahi alo = some (contF v6 hi lo bits w6 ahi alo) := by
  rw [qru]; unfold qmw contF
  simp only [qor, qku, p_Valid03, p_Valid02, oB_s]
  cases h1 : prefOk v6 hi lo bits
  · simp
  · obtain ⟨h2, h3, _⟩ := prefOk_range h1
    cases h5 : addrOk w6 ahi alo
    · simp
    · by_cases h4 : v6 = w6
      · subst h4
        rw [p_rOf h2 h3 h5 u1 u2]
        simp [gB, gI, gC, aB, aI, AV.cells]
      · have h6 : (v6 == w6) = false := by simpa using h4
        simp [h6]
end Go.Proofs.Ytmjdngnagiloeaa.Dn
