/- Data of records: ddiref04, ddiref05, ddiref07 answer always. -/
import Derived.Test.YthhnnlipnpfkcaaDoorXaLw01
import Derived.Test.YthhnnlipnpfkcaaDoorXaLw03
set_option linter.all false
namespace Go.Proofs.YthhnnlipnpfkcaaDoor.Dn
open Go Go.Pev
set_option linter.unusedVariables false
set_option linter.unusedSimpArgs false
def mnem (t : Int) : List UInt8 :=
  if t = 1 then [65] else if t = 2 then [78, 83] else if t = 5 then [67, 78, 65, 77, 69] else if t = 6 then [83, 79, 65] else if t = 12 then [80, 84, 82] else if t = 15 then [77, 88] else if t = 16 then [84, 88, 84] else if t = 28 then [65, 65, 65, 65]
  else if t = 33 then [83, 82, 86] else if t = 39 then [68, 78, 65, 77, 69] else if t = 43 then [68, 83] else if t = 46 then [82, 82, 83, 73, 71] else if t = 47 then [78, 83, 69, 67] else if t = 48 then [68, 78, 83, 75, 69, 89] else []
def knownB (t : Int) : Bool := !(mnem t == [])
theorem p_Mnemonic (t : Int) : ddiref05_Mnemonic t = some (mnem t) := by
  rw [ddiref05_Mnemonic_eq]; unfold ddiref05_Mnemonic_i mnem
  simp only [cond_ite, beq_iff_eq, apply_ite some]
theorem p_Known (t : Int) : ddiref05_Known t = some (knownB t) := by
  rw [ddiref05_Known_eq]; unfold ddiref05_Known_i
  rw [p_Mnemonic]; rfl
def hostOk (x : List UInt8) : Bool := okName x && !(x.head? == some 42)
theorem okName_ne (x : List UInt8) (h : okName x = true) : x ≠ [] := by
  rintro rfl
  simp [okName, splitW, endsOk] at h
theorem p_host (x : List UInt8) (hx : x.length ≤ 9223372036854775807) : ddiref05_host x = some (hostOk x) := by
  rw [ddiref05_host_eq]; unfold ddiref05_host_i hostOk
  rw [p_Valid01 x hx, oB_s]
  cases h : okName x
  · simp
  · cases x with
    | nil => exact absurd rfl (okName_ne _ h)
    | cons a r =>
      have : ∀ n : Fin 256, (((n.val : Nat) : Int) != 42) = !(n.val == 42) := by decide +kernel
      have h2 := this ⟨a.toNat, a.toNat_lt⟩
      simp only at h2
      simp only [cond_t, ixB_zero, List.getElem?_cons_zero, oB_s, h2, Bool.true_and, List.head?_cons]
      by_cases ha : a = 42
      · subst ha; rfl
      · have h3 : a.toNat ≠ 42 := fun h => ha (by rw [← UInt8.toNat_inj]; exact h)
        have e1 : (a.toNat == 42) = false := by simpa using h3
        have e3 : (some a == some 42) = false := by simpa using ha
        rw [e1, e3]
theorem p_Valid04 (n : Int) : ddiref04_Valid n = some (decide (n ≥ 0) && decide (n < 4294967296)) := by rw [ddiref04_Valid_eq]; rfl
def inB (n m : Int) : Bool := decide (n ≥ 0) && decide (n ≤ m)
def u32B (n : Int) : Bool := decide (n ≥ 0) && decide (n < 4294967296)
theorem p_in (n m : Int) : ddiref05_in n m = some (inB n m) := by rw [ddiref05_in_eq]; rfl
def textOk (x : List UInt8) : Bool := decide ((x.length : Int) ≥ 1) && decide ((x.length : Int) ≤ 255)
theorem p_text (x : List UInt8) : ddiref05_text x = some (textOk x) := by rw [ddiref05_text_eq]; rfl
def allF (b : Int) : Nat → Bool
  | 0 => true
  | n + 1 => (!((ibits .and .u64 (b.fdiv (2 ^ (63 - n))) 1) == 1) || knownB (63 - n : Nat)) && allF b n
theorem p_all (b : Int) : ddiref05_all b = some (allF b 64) := by
  rw [ddiref05_all_eq]; unfold ddiref05_all_i
  rw [ddiref05_all_L6_eq]
  have key := loop_is (fun k (s : Int) => ddiref05_all_L6_i b (fun _ => some true) k s) (fun s nx => ddiref05_all_L6_b b s nx (fun _ => some true)) (fun _ _ => rfl)
    (fun s => ∃ i : Nat, s = i ∧ i ≤ 64) (fun s => (64 - s).toNat) (fun s => some (allF b (64 - s.toNat))) ?_ FU 0 ⟨0, rfl, by simp⟩ (FU_big (by simp))
  · exact key
  · rintro _ ⟨i, rfl, hi⟩ nx hn
    have hw : IntKind.i64.wrap ((i : Int) + 1) = ((i + 1 : Nat) : Int) := w64 (by omega) (by omega)
    have hu : IntKind.u64.wrap (i : Int) = (i : Int) := wu64 (by omega) (by omega)
    unfold ddiref05_all_L6_b
    by_cases hc : i < 64
    · have h1 : (i : Int) < 64 := by omega
      have h2 : ¬ (i : Int) < 0 := by omega
      have h3 : min i IntKind.u64.bits = i := by simp [IntKind.bits] <;> omega
      have hnx := hn ((i + 1 : Nat) : Int) ⟨i + 1, rfl, by omega⟩ (by omega)
      have e : 64 - (((i + 1 : Nat) : Int)).toNat = 63 - i := by simp <;> omega
      rw [e] at hnx
      have e2 : 64 - ((i : Int)).toNat = (63 - i) + 1 := by simp <;> omega
      have e3 : 63 - (63 - i) = i := by omega
      simp only [h1, decide_true, cond_t, hu, h2, decide_false, cond_f, Int.toNat_natCast, h3, p_Known, oB_s, hw, hnx]
      rw [show ((i : Int)).toNat = i by simp] at e2
      rw [e2]
      simp only [allF, e3]
      cases (ibits .and .u64 (b.fdiv (2 ^ i)) 1 == 1) <;> cases knownB (i : Int) <;> simp
    · have : i = 64 := by omega
      subst this
      simp [allF]
theorem co {R : Type} (k : Bool → Option R) (p a b : Bool) : (bif p then k a else k b) = k (bif p then a else b) := by cases p <;> rfl
def usedOf (t : Int) (v6 : Bool) (hi lo : Int) (h m x : List UInt8) (a b c d e f bits : Int) : Bool × Int × Int × List UInt8 × List UInt8 × List UInt8 × Int × Int × Int × Int × Int × Int × Int :=
  if t = 1 ∨ t = 28 then (v6, hi, lo, [], [], [], 0, 0, 0, 0, 0, 0, 0)
  else if t = 2 ∨ t = 5 ∨ t = 12 ∨ t = 39 then (false, 0, 0, h, [], [], 0, 0, 0, 0, 0, 0, 0)
  else if t = 6 then (false, 0, 0, h, m, [], a, b, c, d, e, 0, 0)
  else if t = 15 then (false, 0, 0, h, [], [], a, 0, 0, 0, 0, 0, 0)
  else if t = 16 then (false, 0, 0, [], [], x, 0, 0, 0, 0, 0, 0, 0)
  else if t = 33 then (false, 0, 0, h, [], [], a, b, c, 0, 0, 0, 0)
  else if t = 43 ∨ t = 48 then (false, 0, 0, [], [], x, a, b, c, 0, 0, 0, 0)
  else if t = 46 then (false, 0, 0, h, [], x, a, b, c, d, e, f, 0)
  else (false, 0, 0, h, [], [], 0, 0, 0, 0, 0, 0, bits)
def dataAV (p : Bool × Int × Int × List UInt8 × List UInt8 × List UInt8 × Int × Int × Int × Int × Int × Int × Int) : AV :=
  .agg [.bool p.1, .int .u64 p.2.1, .int .u64 p.2.2.1, .str p.2.2.2.1, .str p.2.2.2.2.1, .str p.2.2.2.2.2.1, .int .i64 p.2.2.2.2.2.2.1, .int .i64 p.2.2.2.2.2.2.2.1, .int .i64 p.2.2.2.2.2.2.2.2.1, .int .i64 p.2.2.2.2.2.2.2.2.2.1, .int .i64 p.2.2.2.2.2.2.2.2.2.2.1, .int .i64 p.2.2.2.2.2.2.2.2.2.2.2.1, .int .u64 p.2.2.2.2.2.2.2.2.2.2.2.2]
theorem p_used (t : Int) (v6 : Bool) (hi lo : Int) (h m x : List UInt8) (a b c d e f bits : Int) : ddiref05_used t v6 hi lo h m x a b c d e f bits = some (dataAV (usedOf t v6 hi lo h m x a b c d e f bits)) := by
  rw [ddiref05_used_eq]; unfold ddiref05_used_i
  simp only [ddiref05_used_J7_eq, ddiref05_used_J7_i, ddiref05_used_J17_eq, ddiref05_used_J17_i, ddiref05_used_J59_eq, ddiref05_used_J59_i]
  unfold usedOf
  by_cases h1 : t = 1
  · simp [h1, dataAV]
  by_cases h2 : t = 28
  · simp [h2, dataAV]
  by_cases h3 : t = 2
  · simp [h3, dataAV]
  by_cases h4 : t = 5
  · simp [h4, dataAV]
  by_cases h5 : t = 12
  · simp [h5, dataAV]
  by_cases h6 : t = 39
  · simp [h6, dataAV]
  by_cases h7 : t = 6
  · simp [h7, dataAV]
  by_cases h8 : t = 15
  · simp [h8, dataAV]
  by_cases h9 : t = 16
  · simp [h9, dataAV]
  by_cases h10 : t = 33
  · simp [h10, dataAV]
  by_cases h11 : t = 43
  · simp [h11, dataAV]
  by_cases h12 : t = 48
  · simp [h12, dataAV]
  by_cases h13 : t = 46
  · simp [h13, dataAV]
  have g1 : (t == 1) = false := by simpa using h1
  have g2 : (t == 28) = false := by simpa using h2
  have g3 : (t == 2) = false := by simpa using h3
  have g4 : (t == 5) = false := by simpa using h4
  have g5 : (t == 12) = false := by simpa using h5
  have g6 : (t == 39) = false := by simpa using h6
  have g7 : (t == 6) = false := by simpa using h7
  have g8 : (t == 15) = false := by simpa using h8
  have g9 : (t == 16) = false := by simpa using h9
  have g10 : (t == 33) = false := by simpa using h10
  have g11 : (t == 43) = false := by simpa using h11
  have g12 : (t == 48) = false := by simpa using h12
  have g13 : (t == 46) = false := by simpa using h13
  simp only [g1, g2, g3, g4, g5, g6, g7, g8, g9, g10, g11, g12, g13, cond_f, h1, h2, h3, h4, h5, h6, h7, h8, h9, h10, h11, h12, h13, or_self, if_false, dataAV]
def dataOk (t : Int) (v6 : Bool) (hi lo : Int) (h m x : List UInt8) (a b c d e f bits : Int) : Bool :=
  knownB t && (usedOf t v6 hi lo h m x a b c d e f bits == (v6, hi, lo, h, m, x, a, b, c, d, e, f, bits)) &&
    (if t = 1 then addrOk v6 hi lo && !v6
     else if t = 28 then v6
     else if t = 6 then hostOk h && (hostOk m && (u32B a && (inB b 2147483647 && (inB c 2147483647 && (inB d 2147483647 && inB e 2147483647)))))
     else if t = 15 then hostOk h && inB a 65535
     else if t = 16 then decide ((x.length : Int) ≤ 255)
     else if t = 33 then hostOk h && (inB a 65535 && (inB b 65535 && inB c 65535))
     else if t = 43 then inB a 65535 && (inB b 255 && (inB c 255 && textOk x))
     else if t = 46 then (knownB a && a != 46) && (inB b 127 && (inB c 2147483647 && (inB d 4294967295 && (inB e 4294967295 && (inB f 65535 && (hostOk h && textOk x))))))
     else if t = 47 then (okName h && bits != 0) && allF bits 64
     else if t = 48 then ((a == 256 || a == 257) && b == 3) && (inB c 255 && textOk x)
     else hostOk h)
theorem and_some (p q : Bool) : (bif p then some q else some false) = some (p && q) := by cases p <;> rfl
theorem p_Valid05 (t : Int) (v6 : Bool) (hi lo : Int) (h m x : List UInt8) (a b c d e f bits : Int) (hh : h.length ≤ 9223372036854775807) (hm : m.length ≤ 9223372036854775807) :
    ddiref05_Valid t v6 hi lo h m x a b c d e f bits = some (dataOk t v6 hi lo h m x a b c d e f bits) := by
  rw [ddiref05_Valid_eq]; unfold ddiref05_Valid_i dataOk
  simp only [ddiref05_Valid_J4_eq, ddiref05_Valid_J4_i, p_Known, oB_s, p_used]
  cases hk : knownB t
  · simp
  · have hu : (!(((gB (dataAV (usedOf t v6 hi lo h m x a b c d e f bits)).cells 0) == v6) && (((gI (dataAV (usedOf t v6 hi lo h m x a b c d e f bits)).cells 1) == hi) && (((gI (dataAV (usedOf t v6 hi lo h m x a b c d e f bits)).cells 2) == lo) && (((gS (dataAV (usedOf t v6 hi lo h m x a b c d e f bits)).cells 3) == h) && (((gS (dataAV (usedOf t v6 hi lo h m x a b c d e f bits)).cells 4) == m) && (((gS (dataAV (usedOf t v6 hi lo h m x a b c d e f bits)).cells 5) == x) && (((gI (dataAV (usedOf t v6 hi lo h m x a b c d e f bits)).cells 6) == a) && (((gI (dataAV (usedOf t v6 hi lo h m x a b c d e f bits)).cells 7) == b) && (((gI (dataAV (usedOf t v6 hi lo h m x a b c d e f bits)).cells 8) == c) && (((gI (dataAV (usedOf t v6 hi lo h m x a b c d e f bits)).cells 9) == d) && (((gI (dataAV (usedOf t v6 hi lo h m x a b c d e f bits)).cells 10) == e) && (((gI (dataAV (usedOf t v6 hi lo h m x a b c d e f bits)).cells 11) == f) && (((gI (dataAV (usedOf t v6 hi lo h m x a b c d e f bits)).cells 12) == bits) && true)))))))))))))) = !(usedOf t v6 hi lo h m x a b c d e f bits == (v6, hi, lo, h, m, x, a, b, c, d, e, f, bits)) := by
      generalize usedOf t v6 hi lo h m x a b c d e f bits = p
      obtain ⟨q1, q2, q3, q4, q5, q6, q7, q8, q9, q10, q11, q12, q13⟩ := p
      simp only [dataAV, AV.cells, gB, gI, gS, gC, List.getElem?_cons_zero, List.getElem?_cons_succ, Option.getD_some, aB, aI, aS, Bool.and_true]
      rfl
    simp only [Bool.not_true, cond_f, hu]
    cases hq : (usedOf t v6 hi lo h m x a b c d e f bits == (v6, hi, lo, h, m, x, a, b, c, d, e, f, bits))
    · simp
    · simp only [Bool.not_true, cond_f, Bool.true_and]
      simp only [ddiref05_Valid_J30_eq, ddiref05_Valid_J30_i, ddiref05_Valid_J48_eq, ddiref05_Valid_J48_i, ddiref05_Valid_J54_eq, ddiref05_Valid_J54_i, ddiref05_Valid_J60_eq, ddiref05_Valid_J60_i, ddiref05_Valid_J72_eq, ddiref05_Valid_J72_i, p_Valid02, p_host h hh, p_host m hm, p_Valid01 h hh, p_Valid04, p_in, p_text, p_all, p_Known, oB_s, and_some]
      by_cases h1 : t = 1
      · subst h1; simp
      by_cases h2 : t = 28
      · subst h2; simp
      by_cases h3 : t = 6
      · subst h3; simp [u32B]
      by_cases h4 : t = 15
      · subst h4; simp
      by_cases h5 : t = 16
      · subst h5; simp
      by_cases h6 : t = 33
      · subst h6; simp
      by_cases h7 : t = 43
      · subst h7; simp
      by_cases h8 : t = 46
      · subst h8; simp
      by_cases h9 : t = 47
      · subst h9; simp
      by_cases h10 : t = 48
      · subst h10; simp
      have g1 : (t == 1) = false := by simpa using h1
      have g2 : (t == 28) = false := by simpa using h2
      have g3 : (t == 6) = false := by simpa using h3
      have g4 : (t == 15) = false := by simpa using h4
      have g5 : (t == 16) = false := by simpa using h5
      have g6 : (t == 33) = false := by simpa using h6
      have g7 : (t == 43) = false := by simpa using h7
      have g8 : (t == 46) = false := by simpa using h8
      have g9 : (t == 47) = false := by simpa using h9
      have g10 : (t == 48) = false := by simpa using h10
      simp [h1, h2, h3, h4, h5, h6, h7, h8, h9, h10, g1, g2, g3, g4, g5, g6, g7, g8, g9, g10]
def recOk (n : List UInt8) (t ttl : Int) (v6 : Bool) (hi lo : Int) (h m x : List UInt8) (a b c d e f bits : Int) : Bool :=
  okName n && (((knownB t && decide (ttl ≥ 0)) && decide (ttl ≤ 2147483647)) && dataOk t v6 hi lo h m x a b c d e f bits)
theorem p_Valid07 (n : List UInt8) (t ttl : Int) (v6 : Bool) (hi lo : Int) (h m x : List UInt8) (a b c d e f bits : Int) (hn : n.length ≤ 9223372036854775807) (hh : h.length ≤ 9223372036854775807) (hm : m.length ≤ 9223372036854775807) :
    ddiref07_Valid n t ttl v6 hi lo h m x a b c d e f bits = some (recOk n t ttl v6 hi lo h m x a b c d e f bits) := by
  rw [ddiref07_Valid_eq]; unfold ddiref07_Valid_i recOk
  simp only [p_Valid01 n hn, p_Known, p_Valid05 _ _ _ _ _ _ _ _ _ _ _ _ _ _ hh hm, oB_s, and_some]
end Go.Proofs.YthhnnlipnpfkcaaDoor.Dn
