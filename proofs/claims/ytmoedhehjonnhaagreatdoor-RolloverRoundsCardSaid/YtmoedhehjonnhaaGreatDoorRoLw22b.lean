/- Keys: their data, and their tags. -/
import Derived.Test.YtmoedhehjonnhaaGreatDoorRoLw22a
import Derived.Lib.ItoaLen
set_option linter.all false
namespace Go.Proofs.YtmoedhehjonnhaaGreatDoor.Dn
open Go Go.Pev
set_option linter.unusedVariables false
set_option linter.unusedSimpArgs false
set_option maxRecDepth 8000
theorem qbc7 (n : Int) (h0 : 0 ≤ n) (h1 : n ≤ 4294967296) : (Lib.decDigits n.toNat).length ≤ 21 := by
  have := Lib.itoa_length_le n (by omega) (by omega)
  unfold Lib.itoa at this
  rw [if_neg (by omega)] at this
  exact this
theorem qbc8 (n : Int) (h0 : 0 ≤ n) (h1 : n ≤ 4294967296) : q0e n = some (Lib.decDigits n.toNat) := by
  unfold q0e
  rw [decide_eq_true (by omega), decide_eq_true (by omega)]
  simp only [Bool.and_true, cond_t]
  unfold Lib.itoa
  rw [if_neg (by omega)]
def zDat : AV := .agg [(.bool false), (.int .u64 0), (.int .u64 0), (.str ([] : List UInt8)), (.str ([] : List UInt8)), (.str ([] : List UInt8)), (.int .i64 0), (.int .i64 0), (.int .i64 0), (.int .i64 0), (.int .i64 0), (.int .i64 0), (.int .u64 0)]
def kDat (fl : Int) (t : List UInt8) : AV := .agg [(.bool false), (.int .u64 0), (.int .u64 0), (.str ([] : List UInt8)), (.str ([] : List UInt8)), (.str t), (.int .i64 fl), (.int .i64 (3 : Int)), (.int .i64 (253 : Int)), (.int .i64 0), (.int .i64 0), (.int .i64 0), (.int .u64 0)]
def qcn (k : Bool) : Int := bif k then 257 else 256
def keyT (z : List UInt8) (k : Bool) (s : Int) : List UInt8 := macF z ((bif k then [75] else [90]) ++ Lib.decDigits s.toNat)
def errD (z : List UInt8) (s : Int) : Int := bif !qo0 z || z.head? == some 42 then 2 else bif decide (s < 0) || decide (s > 2147483647) then 1 else 0
def datF (z : List UInt8) (k : Bool) (s : Int) : AV × Int := bif errD z s == 0 then (kDat (qcn k) (keyT z k s), 0) else (zDat, errD z s)
theorem qbeb (z : List UInt8) (k : Bool) (s : Int) (hz : z.length ≤ 1000000) : qp8 z k s = some (datF z k s) := by
  rw [q0o]
  unfold qjq
  rw [qwt]
  unfold qg5
  rw [q9q z (by omega), oB_s]
  unfold datF errD
  cases hok : qo0 z with
  | false => simp [zDat]
  | true =>
    obtain ⟨c, r, rfl⟩ : ∃ c r, z = c :: r := by
      cases z with
      | nil => rcases q5h hok with ⟨h, _⟩ | ⟨_, h, _⟩ <;> simp at h
      | cons c r => exact ⟨c, r, rfl⟩
    simp only [Bool.not_true, cond_f, ixB_zero, List.getElem?_cons_zero, oB_s, List.head?_cons, Bool.false_or]
    have e1 : ((c.toNat : Int) == (42 : Int)) = (some c == some (42 : UInt8)) := by
      rw [Bool.eq_iff_iff]
      simp only [beq_iff_eq, Option.some.injEq]
      constructor
      · intro h
        apply UInt8.toNat_inj.1
        have : (42 : UInt8).toNat = 42 := rfl
        omega
      · rintro rfl; rfl
    rw [e1]
    cases hc : (some c == some (42 : UInt8)) with
    | true => simp [zDat]
    | false =>
      simp only [cond_f]
      have e2 : (decide (s < 0) || decide (s ≥ (2147483648 : Int))) = (decide (s < 0) || decide (s > 2147483647)) := by
        congr 1
        try exact decide_eq_decide.2 (by omega)
      rw [e2]
      cases hs : (decide (s < 0) || decide (s > 2147483647)) with
      | true => simp [zDat]
      | false =>
        simp only [Bool.or_eq_false_iff, decide_eq_false_iff_not] at hs
        simp only [cond_f]
        rw [quj]
        unfold qgj
        have hl := qbc7 s (by omega) (by omega)
        have h0 : ((0 : Int) == 0) = true := rfl
        cases k <;> simp only [cond_t, cond_f, qbc8 s (by omega) (by omega), oB_s] <;> (rw [decide_eq_true (by simp only [List.length_singleton]; omega), cond_t, qbe6 _ _ (by omega) (by simp only [List.length_append, List.length_singleton]; omega), h0]; rfl)
def tagS : Bool → Int → List UInt8 → Int
  | _, n, [] => n
  | true, n, b :: r => tagS false (n + 256 * (b.toNat : Int)) r
  | false, n, b :: r => tagS true (n + (b.toNat : Int)) r
def tagL (w : List UInt8) : Int := (tagS true 0 w + tagS true 0 w / 65536 % 65536) % 65536
theorem q5i (x : Int) (h0 : 0 ≤ x) (h1 : x ≤ 9223372036854775807) : qd9 .and .i64 x 65535 = x % 65536 := by
  obtain ⟨n, rfl⟩ : ∃ n : Nat, x = n := ⟨x.toNat, by omega⟩
  have e1 : (BitVec.ofInt 64 ((n : Int)) &&& BitVec.ofInt 64 65535).toNat = n % 65536 := by
    rw [BitVec.toNat_and]
    have a1 : (BitVec.ofInt 64 (n : Int)).toNat = n := by simp [BitVec.toNat_ofInt]; omega
    have a2 : (BitVec.ofInt 64 65535).toNat = 65535 := by decide
    rw [a1, a2]
    have := Nat.and_two_pow_sub_one_eq_mod n 16
    simpa using this
  show IntKind.i64.wrap _ = _
  have e2 : IntKind.i64.bits = 64 := rfl
  rw [e2, e1]
  have := Nat.mod_lt n (show 0 < 65536 by decide)
  rw [w64 (by omega) (by omega)]
  omega
end Go.Proofs.YtmoedhehjonnhaaGreatDoor.Dn
