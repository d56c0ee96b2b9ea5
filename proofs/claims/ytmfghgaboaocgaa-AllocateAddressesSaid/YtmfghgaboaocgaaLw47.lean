/- Addresses of subnets: what the program's Address and ddiref47's answer. -/
import Derived.Test.YtmfghgaboaocgaaLw46
set_option linter.all false
namespace Go.Proofs.Ytmfghgaboaocgaa.Dn
open Go Go.Pev
set_option linter.unusedVariables false
set_option linter.unusedSimpArgs false
set_option maxRecDepth 4000

/-! ### Blocks of a subnet are single addresses -/
theorem andNot_le {x : Int} (m : Int) (h : uok x) : ibits .andNot .u64 x m ≤ x := by
  rw [ib_andNot]
  have := split_bits (BitVec.ofInt 64 x) (BitVec.ofInt 64 m)
  have h2 := bv_of h
  omega
theorem andNot_self {x m : Int} (h : uok x) (h0 : ibits .and .u64 x m = 0) : ibits .andNot .u64 x m = x := by
  rw [ib_and] at h0
  rw [ib_andNot]
  have := split_bits (BitVec.ofInt 64 x) (BitVec.ofInt 64 m)
  have h2 := bv_of h
  omega
theorem Table.sorted {l : List AV} (h : Table l) (i : Nat) (y : AV) (hy : l[i]? = some y) : ∀ j z, i < j → l[j]? = some z → ltY y z := by
  intro j
  induction j with
  | zero => intro z hj; omega
  | succ j ih =>
    intro z hj hz
    obtain ⟨x, hx⟩ : ∃ x, l[j]? = some x := by
      have := (List.getElem?_eq_some_iff.1 hz).1
      exact ⟨l[j], by simp⟩
    have h1 := (h (j + 1) z hz).lt j x rfl hx
    by_cases hij : i = j
    · subst hij
      rw [hy] at hx; cases hx
      exact h1
    · exact ltP_trans (ih x (by omega) hx) h1
theorem within_strict {y z : AV} (hy : blkFit y) (hw : withinY y z = true) (hne : atP (gB z.cells 0) (gI z.cells 1) (gI z.cells 2) (gI z.cells 3) y = false) : ltY z y ∧ gI y.cells 3 > gI z.cells 3 := by
  unfold withinY withinF contF at hw
  simp only [Bool.and_eq_true, beq_iff_eq, decide_eq_true_eq] at hw
  obtain ⟨h1, h2, h3, h4, h5, h6, h7⟩ := hw
  have hp := h1
  simp only [prefOk, Bool.and_eq_true, beq_iff_eq] at hp
  have hb : gI y.cells 3 ≠ gI z.cells 3 := by
    intro hb
    rw [← h5, hb] at hp
    rw [andNot_self hy.2.1 hp.1.2] at h6
    rw [andNot_self hy.2.2.1 hp.2] at h7
    have : atP (gB z.cells 0) (gI z.cells 1) (gI z.cells 2) (gI z.cells 3) y = true := atP_iff.2 ⟨h5.symm, h6, h7, hb⟩
    rw [this] at hne
    cases hne
  have a1 := andNot_le (onesF (longOf (gB z.cells 0) - gI z.cells 3).toNat).1 hy.2.1
  have a2 := andNot_le (onesF (longOf (gB z.cells 0) - gI z.cells 3).toNat).2 hy.2.2.1
  rw [h6] at a1
  rw [h7] at a2
  refine ⟨.inr ⟨h5, ?_⟩, by omega⟩
  omega
theorem Table.host {l : List AV} (hl : blksFit l) (h : Table l) {y z : AV} (hy : y ∈ l) (hz : z ∈ l) (hk : gI z.cells 4 = 2) (hw : withinY y z = true) (hne : atP (gB z.cells 0) (gI z.cells 1) (gI z.cells 2) (gI z.cells 3) y = false) : gI y.cells 3 = longOf (gB y.cells 0) := by
  obtain ⟨j, hj⟩ := List.getElem?_of_mem hy
  obtain ⟨i, hi⟩ := List.getElem?_of_mem hz
  obtain ⟨h1, h2⟩ := within_strict (hl.2 y hy) hw hne
  have hij : i < j := by
    rcases Nat.lt_trichotomy i j with h3 | h3 | h3
    · exact h3
    · subst h3
      rw [hi] at hj; cases hj
      exact absurd h1 ltP_irrefl
    · exact absurd (ltP_trans h1 (h.sorted j y hj i z h3 hi)) ltP_irrefl
  have h3 := (h j y hj).bar i z hij hi
  unfold barredB at h3
  have h4 : decide (gI y.cells 3 > gI z.cells 3) = true := by simpa using h2
  rw [hw, h4, hk] at h3
  have h5 : gI y.cells 4 = 3 := by
    simp [bne] at h3
    exact h3
  exact mayB_host (h j y hj).may h5

theorem ones_zero : onesF 0 = (0, 0) := rfl
theorem cont_host {v6 : Bool} {hi lo bits : Int} {w6 : Bool} {ahi alo : Int} (hp : prefOk v6 hi lo bits = true) (hb : bits = longOf v6) (u1 : uok ahi) (u2 : uok alo) : contF v6 hi lo bits w6 ahi alo = ((v6 == w6) && ((hi == ahi) && ((lo == alo) && true))) := by
  unfold contF
  have h0 : (longOf v6 - bits).toNat = 0 := by omega
  rw [hp, h0, ones_zero, andNot_zero u1, andNot_zero u2]
  obtain ⟨_, _, h3⟩ := prefOk_range hp
  by_cases h : v6 = w6 ∧ hi = ahi ∧ lo = alo
  · obtain ⟨rfl, rfl, rfl⟩ := h
    simp [h3]
  · have h1 : ((v6 == w6) && ((ahi == hi) && (alo == lo))) = false := by
      rw [Bool.eq_false_iff]
      intro hh
      simp at hh
      exact h ⟨hh.1, hh.2.1.symm, hh.2.2.symm⟩
    have h2 : ((v6 == w6) && ((hi == ahi) && ((lo == alo) && true))) = false := by
      rw [Bool.eq_false_iff]
      intro hh
      simp at hh
      exact h hh
    rw [h1, h2]
    simp

/-! ### The next address -/
abbrev Ad := Int × Int
def nextA (a : Ad) : Ad := if a.2 = 18446744073709551615 then (a.1 + 1, 0) else (a.1, a.2 + 1)
def numA (a : Ad) : Int := a.1 * 18446744073709551616 + a.2
def aok (v6 : Bool) (a : Ad) : Prop := uok a.1 ∧ uok a.2 ∧ (v6 = false → a.1 = 0 ∧ a.2 ≤ 4294967295)
theorem next_num {a : Ad} : numA (nextA a) = numA a + 1 := by
  unfold nextA numA
  split <;> simp <;> omega
theorem num_inj {v6 : Bool} {a b : Ad} (ha : aok v6 a) (hb : aok v6 b) (h : numA a = numA b) : a = b := by
  obtain ⟨⟨h1, h2⟩, ⟨h3, h4⟩, _⟩ := ha
  obtain ⟨⟨k1, k2⟩, ⟨k3, k4⟩, _⟩ := hb
  unfold numA at h
  have e1 : a.1 = b.1 := by omega
  have e2 : a.2 = b.2 := by omega
  exact Prod.ext e1 e2
theorem next_ok {v6 : Bool} {a b : Ad} (ha : aok v6 a) (hb : aok v6 b) (h : numA a < numA b) : aok v6 (nextA a) := by
  obtain ⟨⟨h1, h2⟩, ⟨h3, h4⟩, h5⟩ := ha
  obtain ⟨⟨k1, k2⟩, ⟨k3, k4⟩, k5⟩ := hb
  unfold numA at h
  unfold nextA
  split
  · rename_i he
    refine ⟨⟨by simp; omega, by simp; omega⟩, ⟨by simp, by simp⟩, fun hv => ?_⟩
    have := h5 hv
    omega
  · rename_i he
    refine ⟨⟨h1, h2⟩, ⟨by simp; omega, by simp; omega⟩, fun hv => ?_⟩
    have := h5 hv
    have := k5 hv
    simp
    omega
theorem aok_addr {v6 : Bool} {a : Ad} (h : aok v6 a) : addrOk v6 a.1 a.2 = true := by
  unfold addrOk
  cases v6 with
  | true => rfl
  | false =>
    obtain ⟨h1, h2⟩ := h.2.2 rfl
    have : a.2 < 4294967296 := by omega
    simp [h1, this]
def addrV (v6 : Bool) (a : Ad) : AV := .agg [(.bool v6), (.int .u64 a.1), (.int .u64 a.2)]
theorem p_pAdd {v6 : Bool} {a b : Ad} (ha : aok v6 a) (hb : aok v6 b) (h : numA a < numA b) : addr_Add v6 a.1 a.2 1 = some (addrV v6 (nextA a), true) := by
  have hn := next_ok ha hb h
  obtain ⟨⟨h1, h2⟩, ⟨h3, h4⟩, h5⟩ := ha
  obtain ⟨⟨k1, k2⟩, ⟨k3, k4⟩, k5⟩ := hb
  have e1 : hAdd64 a.2 1 0 = some ((nextA a).2, (a.2 + 1 + 0) / 18446744073709551616) := by
    unfold hAdd64 nextA
    have c : (0 ≤ a.2 ∧ (0 : Int) ≤ 1 ∧ (0 : Int) ≤ 0 ∧ (0 : Int) ≤ 1) := ⟨h3, by omega, by omega, by omega⟩
    simp only [decide_eq_true c, cond_t]
    congr 2
    split <;> simp <;> omega
  have e2 : hAdd64 a.1 0 ((a.2 + 1 + 0) / 18446744073709551616) = some ((nextA a).1, 0) := by
    unfold hAdd64 nextA
    unfold numA at h
    have c : (0 ≤ a.1 ∧ (0 : Int) ≤ 0 ∧ 0 ≤ (a.2 + 1 + 0) / 18446744073709551616 ∧ (a.2 + 1 + 0) / 18446744073709551616 ≤ 1) := ⟨h1, by omega, by omega, by omega⟩
    simp only [decide_eq_true c, cond_t]
    congr 1
    split <;> (apply Prod.ext <;> simp <;> omega)
  rw [addr_Add_eq]; unfold addr_Add_i
  rw [p_aValid, aok_addr (v6 := v6) (a := a) ⟨⟨h1, h2⟩, ⟨h3, h4⟩, h5⟩]
  simp only [oB_s, Bool.not_true, cond_f, e1, e2, bne_self_eq_false, p_aValid, aok_addr hn]
  rfl
theorem p_rAdd {v6 : Bool} {a b : Ad} (ha : aok v6 a) (hb : aok v6 b) (h : numA a < numA b) : ddiref02_Add v6 a.1 a.2 1 = some (addrV v6 (nextA a), true) := by
  have hn := next_ok ha hb h
  have ha' := aok_addr ha
  obtain ⟨⟨h1, h2⟩, ⟨h3, h4⟩, h5⟩ := ha
  obtain ⟨⟨k1, k2⟩, ⟨k3, k4⟩, k5⟩ := hb
  rw [ddiref02_Add_eq]; unfold ddiref02_Add_i
  rw [p_Valid02, ha']
  unfold numA at h
  cases v6 with
  | false =>
    obtain ⟨h6, h7⟩ := h5 rfl
    obtain ⟨k6, k7⟩ := k5 rfl
    have w1 : IntKind.u64.wrap (4294967295 - a.2) = 4294967295 - a.2 := wu64 (by omega) (by omega)
    have w2 : IntKind.u64.wrap (a.2 + 1) = a.2 + 1 := wu64 (by omega) (by omega)
    have c : ¬ (1 > 4294967295 - a.2) := by omega
    have d : a.2 ≠ 18446744073709551615 := by omega
    simp [w1, w2, c, addrV, nextA, d, h6]
  | true =>
    by_cases d : a.2 = 18446744073709551615
    · have w1 : IntKind.u64.wrap (a.2 + 1) = 0 := by rw [d]; rfl
      have w2 : IntKind.u64.wrap (a.1 + 1) = a.1 + 1 := wu64 (by omega) (by omega)
      have c1 : (0 : Int) < a.2 := by omega
      have c2 : (a.1 == 18446744073709551615) = false := by simp; omega
      have hne : nextA a = (a.1 + 1, 0) := if_pos d
      rw [hne]
      simp [w1, w2, c1, c2, addrV]
    · have w1 : IntKind.u64.wrap (a.2 + 1) = a.2 + 1 := wu64 (by omega) (by omega)
      have c1 : ¬ (a.2 + 1 < a.2) := by omega
      simp [w1, c1, addrV, nextA, d]

/-! ### The last address -/
theorem ones4 : ∀ n : Fin 33, (onesF n).1 = 0 ∧ (onesF n).2 < 4294967296 := by decide +kernel
theorem or_ge {x m : Int} (hx : uok x) (hm : uok m) (h : ibits .and .u64 x m = 0) : x ≤ ibits .or .u64 x m := by
  rw [← add_or hx hm h]
  have := hm.1
  omega
theorem last_ok {v6 : Bool} {hi lo bits : Int} (hp : prefOk v6 hi lo bits = true) (u1 : uok hi) (u2 : uok lo) : aok v6 (hi, lo) ∧ aok v6 (lastHi v6 hi bits, lastLo v6 lo bits) ∧ numA (hi, lo) ≤ numA (lastHi v6 hi bits, lastLo v6 lo bits) := by
  obtain ⟨h1, h2, h3⟩ := prefOk_range hp
  obtain ⟨o1, o2⟩ := ones_ok (v6 := v6) h1
  have hb := hp
  simp only [prefOk, Bool.and_eq_true, beq_iff_eq] at hb
  have g1 := or_ge u1 o1 hb.1.2
  have g2 := or_ge u2 o2 hb.2
  have a1 := add_or u1 o1 hb.1.2
  have a2 := add_or u2 o2 hb.2
  have hf : v6 = false → hi = 0 ∧ lo ≤ 4294967295 := fun hv => by
    subst hv
    simp [addrOk] at h3
    exact ⟨h3.1, by omega⟩
  refine ⟨⟨u1, u2, hf⟩, ⟨or_uok _ _, or_uok _ _, fun hv => ?_⟩, ?_⟩
  · obtain ⟨f1, f2⟩ := hf hv
    subst hv
    have hn : (longOf false - bits).toNat < 33 := by simp [longOf]; omega
    obtain ⟨p1, p2⟩ := ones4 ⟨_, hn⟩
    simp only at p1 p2
    refine ⟨?_, ?_⟩
    · show ibits .or .u64 hi (onesF (longOf false - bits).toNat).1 = 0
      rw [← a1, p1, f1]; rfl
    · show ibits .or .u64 lo (onesF (longOf false - bits).toNat).2 ≤ 4294967295
      rw [ib_or]
      have e1 := bv_of u2
      have e2 := bv_of o2
      rw [BitVec.toNat_or]
      have := Nat.or_lt_two_pow (x := (BitVec.ofInt 64 lo).toNat) (y := (BitVec.ofInt 64 (onesF (longOf false - bits).toNat).2).toNat) (n := 32) (by omega) (by omega)
      omega
  · unfold numA
    show hi * 18446744073709551616 + lo ≤ lastHi v6 hi bits * 18446744073709551616 + lastLo v6 lo bits
    have e1 : hi ≤ lastHi v6 hi bits := g1
    have e2 : lo ≤ lastLo v6 lo bits := g2
    omega

end Go.Proofs.Ytmfghgaboaocgaa.Dn
