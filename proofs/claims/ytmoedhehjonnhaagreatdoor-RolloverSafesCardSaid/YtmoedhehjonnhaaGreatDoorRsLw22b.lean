/- Keys: their data, and their tags. -/
import Derived.Test.YtmoedhehjonnhaaGreatDoorRsLw22a
import Derived.Lib.ItoaLen
set_option linter.all false
namespace Go.Proofs.YtmoedhehjonnhaaGreatDoor.Dn
open Go Go.Pev
set_option linter.unusedVariables false
set_option linter.unusedSimpArgs false
set_option maxRecDepth 8000
theorem qbod {u : Nat} (h : ¬ u < 10) : Lib.decDigits u = Lib.decDigits (u / 10) ++ [UInt8.ofNat (48 + u % 10)] := by rw [Lib.decDigits, dif_neg h]
theorem qbpq {x : Int} (h0 : 0 ≤ x) (h1 : x < 256) : IntKind.u8.wrap x = x := by
  simp [IntKind.wrap, IntKind.signed, IntKind.bits]; omega
theorem qbm5 (u : Nat) (h : u < 10) : qy [AV.int .u8 (IntKind.u8.wrap (IntKind.i64.wrap ((48 : Int) + (u : Int))))] = some [UInt8.ofNat (48 + u)] := by
  rw [w64 (by omega) (by omega), qbpq (by omega) (by omega)]
  have : ((48 : Int) + (u : Int)).toNat = 48 + u := by omega
  simp [qy, Pev.byteOf, this]
theorem qbkm (n : Int) (h0 : 0 ≤ n) (h1 : n ≤ 4294967296) : qnp n = some (Lib.decDigits n.toNat) := by
  rw [q1w]
  unfold qh0
  rw [qwb]
  have key := q5h (σ := Int × List UInt8) (fun m s => qcn (fun v0q1 v3q2 => (bif hd ([(.int .u8 (IntKind.u8.wrap (IntKind.i64.wrap ((48 : Int) + v0q1))))] : List AV) (([(.int .u8 (IntKind.u8.wrap (IntKind.i64.wrap ((48 : Int) + v0q1))))] : List AV).length) then (oB (qy ([(.int .u8 (IntKind.u8.wrap (IntKind.i64.wrap ((48 : Int) + v0q1))))] : List AV)) fun s3 => (bif decide (s3.length + v3q2.length ≤ 9223372036854775807) then (some (s3 ++ v3q2)) else none)) else none)) m s.1 s.2)
    (fun s nx => qf2 s.1 s.2 (fun a b => nx (a, b)) (fun v0q1 v3q2 => (bif hd ([(.int .u8 (IntKind.u8.wrap (IntKind.i64.wrap ((48 : Int) + v0q1))))] : List AV) (([(.int .u8 (IntKind.u8.wrap (IntKind.i64.wrap ((48 : Int) + v0q1))))] : List AV).length) then (oB (qy ([(.int .u8 (IntKind.u8.wrap (IntKind.i64.wrap ((48 : Int) + v0q1))))] : List AV)) fun s3 => (bif decide (s3.length + v3q2.length ≤ 9223372036854775807) then (some (s3 ++ v3q2)) else none)) else none))) (fun m s => rfl)
    (fun s => 0 ≤ s.1 ∧ s.1 + s.2.length ≤ 4294967296) (fun s => s.1.toNat) (fun s => some (Lib.decDigits s.1.toNat ++ s.2)) (fun s hI nx hnx => by
      obtain ⟨v, a⟩ := s
      simp only at hI hnx ⊢
      obtain ⟨u, rfl⟩ : ∃ u : Nat, v = u := ⟨v.toNat, by omega⟩
      unfold qf2
      by_cases h : u < 10
      · rw [decide_eq_false (by omega), cond_f]
        dsimp only
        rw [hd_self, cond_t, qbm5 u h, oB_s, decide_eq_true (by simp only [List.length_singleton]; omega), cond_t, Int.toNat_natCast, Lib.decDigits_one h]
      · have e1 : ((u : Int).tmod 10) = ((u % 10 : Nat) : Int) := by rw [Int.tmod_eq_emod_of_nonneg (by omega)]; omega
        have e2 : IntKind.i64.wrap ((u : Int).tdiv 10) = ((u / 10 : Nat) : Int) := by rw [Int.tdiv_eq_ediv_of_nonneg (by omega), w64 (by omega) (by omega)]; omega
        rw [decide_eq_true (by omega), cond_t, e1, hd_self, cond_t, qbm5 (u % 10) (by omega), oB_s, decide_eq_true (by simp only [List.length_singleton]; omega), cond_t, e2]
        dsimp only
        rw [hnx (((u / 10 : Nat) : Int), [UInt8.ofNat (48 + u % 10)] ++ a) ⟨by simp only; omega, by simp only [List.length_append, List.length_singleton]; omega⟩ (by simp only [Int.toNat_natCast]; omega)]
        simp only [Int.toNat_natCast]
        rw [qbod h]
        simp) FU (n, []) ⟨h0, by simp only [List.length_nil]; omega⟩ (qcc (by simp only; omega))
  rw [show (qcn _ FU n [] = _) from key]
  simp
theorem qbhq (n : Int) (h0 : 0 ≤ n) (h1 : n ≤ 4294967296) : (Lib.decDigits n.toNat).length ≤ 21 := by
  have := Lib.itoa_length_le n (by omega) (by omega)
  unfold Lib.itoa at this
  rw [if_neg (by omega)] at this
  exact this
theorem qboe (n : Int) (h0 : 0 ≤ n) (h1 : n ≤ 4294967296) : qbak n = some (Lib.decDigits n.toNat) := by
  unfold qbak
  rw [decide_eq_true (by omega), decide_eq_true (by omega)]
  simp only [Bool.and_true, cond_t]
  unfold Lib.itoa
  rw [if_neg (by omega)]
def zDat : AV := .agg [(.bool false), (.int .u64 0), (.int .u64 0), (.str ([] : List UInt8)), (.str ([] : List UInt8)), (.str ([] : List UInt8)), (.int .i64 0), (.int .i64 0), (.int .i64 0), (.int .i64 0), (.int .i64 0), (.int .i64 0), (.int .u64 0)]
def kDat (fl : Int) (t : List UInt8) : AV := .agg [(.bool false), (.int .u64 0), (.int .u64 0), (.str ([] : List UInt8)), (.str ([] : List UInt8)), (.str t), (.int .i64 fl), (.int .i64 (3 : Int)), (.int .i64 (253 : Int)), (.int .i64 0), (.int .i64 0), (.int .i64 0), (.int .u64 0)]
def qb2 (k : Bool) : Int := bif k then 257 else 256
def keyT (z : List UInt8) (k : Bool) (s : Int) : List UInt8 := macF z ((bif k then [75] else [90]) ++ Lib.decDigits s.toNat)
def errD (z : List UInt8) (s : Int) : Int := bif !qka z || z.head? == some 42 then 2 else bif decide (s < 0) || decide (s > 2147483647) then 1 else 0
def datF (z : List UInt8) (k : Bool) (s : Int) : AV × Int := bif errD z s == 0 then (kDat (qb2 k) (keyT z k s), 0) else (zDat, errD z s)
theorem qbpr (z : List UInt8) (k : Bool) (s : Int) (hz : z.length ≤ 1000000) : qv5 z k s = some (datF z k s) := by
  rw [qbav]
  unfold qnc
  rw [q5y]
  unfold qja
  rw [qbki z (by omega), oB_s]
  unfold datF errD
  cases hok : qka z with
  | false => simp [zDat]
  | true =>
    obtain ⟨c, r, rfl⟩ : ∃ c r, z = c :: r := by
      cases z with
      | nil => rcases q45 hok with ⟨h, _⟩ | ⟨_, h, _⟩ <;> simp at h
      | cons c r => exact ⟨c, r, rfl⟩
    simp only [Bool.not_true, cond_f, ixB_zero, List.getElem?_cons_zero, oB_s, List.head?_cons, Bool.false_or]
    have e1 : ((c.toNat : Int) == (42 : Int)) = (some c == some (42 : UInt8)) := by
      rw [Bool.eq_iff_iff]
      simp only [beq_iff_eq, Option.some.injEq]
      constructor
      · intro h
        apply UInt8.toNat_inj.1
        have : (42 : UInt8).toNat = 42 := rfl
        omega
      · rintro rfl; rfl
    rw [e1]
    cases hc : (some c == some (42 : UInt8)) with
    | true => simp [zDat]
    | false =>
      simp only [cond_f]
      have e2 : (decide (s < 0) || decide (s ≥ (2147483648 : Int))) = (decide (s < 0) || decide (s > 2147483647)) := by
        congr 1
        try exact decide_eq_decide.2 (by omega)
      rw [e2]
      cases hs : (decide (s < 0) || decide (s > 2147483647)) with
      | true => simp [zDat]
      | false =>
        simp only [Bool.or_eq_false_iff, decide_eq_false_iff_not] at hs
        simp only [cond_f]
        rw [q28]
        unfold qik
        have hl := qbhq s (by omega) (by omega)
        have h0 : ((0 : Int) == 0) = true := rfl
        cases k <;> simp only [cond_t, cond_f, qboe s (by omega) (by omega), oB_s] <;> (rw [decide_eq_true (by simp only [List.length_singleton]; omega), cond_t, qbqp _ _ (by omega) (by simp only [List.length_append, List.length_singleton]; omega), h0]; rfl)
theorem p_J6 (z : List UInt8) (hz : z.length ≤ 1000000) (k : Bool) (s : Int) (kn : Bool → Option (AV × Int)) : qnq (avS (qqr z)) z k s false 0 0 [] [] [] 0 0 0 0 0 0 0 kn = kn (!qka z || z.head? == some 42) := by
  rw [q10]
  unfold qh2
  rw [qbkh z (by omega), oB_s]
  cases hok : qka z with
  | false => rfl
  | true =>
    have hstar := qbkk hok
    simp only [Bool.not_true, cond_f, Bool.false_or]
    cases hl : qqr z with
    | nil =>
      rw [hl] at hstar
      have : (z.head? == some 42) = false := by
        rw [beq_eq_false_iff_ne]
        intro h
        have := hstar.2 h
        simp at this
      rw [this]
      rfl
    | cons a r =>
      rw [hl] at hstar
      have e1 : (a == ([42] : List UInt8)) = (z.head? == some 42) := by
        rw [Bool.eq_iff_iff]
        simp only [beq_iff_eq]
        simpa using hstar
      have e2 : avS (a :: r) = AV.str a :: avS r := rfl
      rw [e2, decide_eq_true (by simp only [List.length_cons]; omega), cond_t]
      simp only [ixB_zero, List.getElem?_cons_zero, oB_s]
      rw [← e1]
      rfl
theorem qbhr (z : List UInt8) (k : Bool) (s : Int) (hz : z.length ≤ 1000000) : qng z k s = some (datF z k s) := by
  rw [q7r]
  unfold qkq
  rw [qbkj z (by omega), oB_s, p_J6 z hz]
  unfold datF errD
  cases hc : (!qka z || z.head? == some (42 : UInt8)) with
  | true => simp [zDat]
  | false =>
    simp only [cond_f]
    cases hs : (decide (s < 0) || decide (s > 2147483647)) with
    | true => simp [zDat]
    | false =>
      simp only [Bool.or_eq_false_iff, decide_eq_false_iff_not] at hs
      simp only [cond_f]
      rw [qyw]
      unfold qg5
      have hl := qbhq s (by omega) (by omega)
      have h0 : ((0 : Int) == 0) = true := rfl
      cases k <;> simp only [cond_t, cond_f, qbkm s (by omega) (by omega), oB_s] <;> (rw [decide_eq_true (by simp only [List.length_singleton]; omega), cond_t, qbpp _ _ (by omega) (by simp only [List.length_append, List.length_singleton]; omega), h0]; rfl)
  done
def tagS : Bool → Int → List UInt8 → Int
  | _, n, [] => n
  | true, n, b :: r => tagS false (n + 256 * (b.toNat : Int)) r
  | false, n, b :: r => tagS true (n + (b.toNat : Int)) r
def tagL (w : List UInt8) : Int := (tagS true 0 w + tagS true 0 w / 65536 % 65536) % 65536
theorem qbf0 (x : Int) (h0 : 0 ≤ x) (h1 : x ≤ 9223372036854775807) : qdf .and .i64 x 65535 = x % 65536 := by
  obtain ⟨n, rfl⟩ : ∃ n : Nat, x = n := ⟨x.toNat, by omega⟩
  have e1 : (BitVec.ofInt 64 ((n : Int)) &&& BitVec.ofInt 64 65535).toNat = n % 65536 := by
    rw [BitVec.toNat_and]
    have a1 : (BitVec.ofInt 64 (n : Int)).toNat = n := by simp [BitVec.toNat_ofInt]; omega
    have a2 : (BitVec.ofInt 64 65535).toNat = 65535 := by decide
    rw [a1, a2]
    have := Nat.and_two_pow_sub_one_eq_mod n 16
    simpa using this
  show IntKind.i64.wrap _ = _
  have e2 : IntKind.i64.bits = 64 := rfl
  rw [e2, e1]
  have := Nat.mod_lt n (show 0 < 65536 by decide)
  rw [w64 (by omega) (by omega)]
  omega
end Go.Proofs.YtmoedhehjonnhaaGreatDoor.Dn
