/- Data: what the program's layer 5 answers. -/
import Derived.Test.YthhnnlipnpfkcaaDoorXuLw05
import Derived.Test.YthhnnlipnpfkcaaDoorXuLw01u
import Derived.Test.YthhnnlipnpfkcaaDoorXuLw03p
set_option linter.all false
namespace Go.Proofs.YthhnnlipnpfkcaaDoor.Dn
open Go Go.Pev
set_option linter.unusedVariables false
set_option linter.unusedSimpArgs false
set_option maxRecDepth 4000

theorem p_host' (x : List UInt8) (hx : x.length ≤ 9223372036854775807) : rdata_host x = some (hostOk x) := by
  rw [rdata_host_eq]; unfold rdata_host_i hostOk
  rw [p_dValid' x hx, oB_s]
  cases h : okName x
  · rfl
  · cases x with
    | nil => exact absurd rfl (okName_ne _ h)
    | cons a r =>
      rw [strings_HasPrefix_eq]; unfold strings_HasPrefix_i
      rw [stringslite_HasPrefix_eq]; unfold stringslite_HasPrefix_i
      have e1 : decide (((a :: r).length : Int) ≥ (([42] : List UInt8).length : Int)) = true := decide_eq_true (by simp; omega)
      have e2 : cutI (a :: r) none (some (([42] : List UInt8).length : Int)) = some [a] := by
        unfold cutI
        simp only [Option.getD_none, Option.getD_some]
        rw [if_pos ⟨by omega, by simp, by simp; omega⟩]
        rfl
      simp only [e1, cond_t, e2, oB_s, Bool.true_and, List.head?_cons]
      congr 2
      rw [Bool.eq_iff_iff]; simp
def kindNs : List Int := [1, 2, 5, 6, 12, 15, 16, 28, 33, 39, 43, 46, 47, 48]
theorem known_any (t : Int) : knownB t = kindNs.any (fun n => n == t) := by
  unfold knownB mnem kindNs
  by_cases h1 : t = 1
  · subst h1; rfl
  by_cases h2 : t = 2
  · subst h2; rfl
  by_cases h3 : t = 5
  · subst h3; rfl
  by_cases h4 : t = 6
  · subst h4; rfl
  by_cases h5 : t = 12
  · subst h5; rfl
  by_cases h6 : t = 15
  · subst h6; rfl
  by_cases h7 : t = 16
  · subst h7; rfl
  by_cases h8 : t = 28
  · subst h8; rfl
  by_cases h9 : t = 33
  · subst h9; rfl
  by_cases h10 : t = 39
  · subst h10; rfl
  by_cases h11 : t = 43
  · subst h11; rfl
  by_cases h12 : t = 46
  · subst h12; rfl
  by_cases h13 : t = 47
  · subst h13; rfl
  by_cases h14 : t = 48
  · subst h14; rfl
  simp [h1, h2, h3, h4, h5, h6, h7, h8, h9, h10, h11, h12, h13, h14, Ne.symm h1, Ne.symm h2, Ne.symm h3, Ne.symm h4, Ne.symm h5, Ne.symm h6, Ne.symm h7, Ne.symm h8, Ne.symm h9, Ne.symm h10, Ne.symm h11, Ne.symm h12, Ne.symm h13, Ne.symm h14]
theorem p_kinds : ∃ L, rdata_kinds = some L ∧ L.map (fun y => gI y.cells 0) = kindNs ∧ (∀ y, y ∈ L → fitC T_rdata_kind y.cells = true) ∧ L.length = 14 := by
  rw [rdata_kinds_eq]; unfold rdata_kinds_i
  simp only [hd_self, cond_t]
  refine ⟨_, rfl, rfl, ?_, rfl⟩
  intro y hy
  simp only [List.mem_cons, List.not_mem_nil, or_false] at hy
  rcases hy with rfl | rfl | rfl | rfl | rfl | rfl | rfl | rfl | rfl | rfl | rfl | rfl | rfl | rfl <;> rfl
def findK (t : Int) : List AV → AV × Bool
  | [] => ((.agg [(.int .i64 0), (.str ([] : List UInt8)), (.str ([] : List UInt8))]), false)
  | y :: r => bif gI y.cells 0 == t then ((.agg [(.int .i64 (gI y.cells 0)), (.str (gS y.cells 1)), (.str (gS y.cells 2))]), true) else findK t r
theorem findK_any (t : Int) : ∀ l : List AV, (findK t l).2 = (l.map (fun y => gI y.cells 0)).any (fun n => n == t)
  | [] => rfl
  | y :: r => by
    simp only [findK, List.map_cons, List.any_cons]
    cases (gI y.cells 0 == t)
    · exact findK_any t r
    · rfl
theorem p_Known' (t : Int) : rdata_Known t = some (knownB t) := by
  obtain ⟨L, h1, h2, h3, h4⟩ := p_kinds
  rw [rdata_Known_eq]; unfold rdata_Known_i
  rw [rdata_find_eq]; unfold rdata_find_i
  rw [h1, oB_s, rdata_find_L6_eq, for_list0 L (by omega) (rdata_find_L6_i t L (L.length : Int) 0 [] [] fun _ => some ((.agg [(.int .i64 0), (.str ([] : List UInt8)), (.str ([] : List UInt8))]), false)) (fun i nx => rdata_find_L6_b t L (L.length : Int) i 0 [] [] nx fun _ => some ((.agg [(.int .i64 0), (.str ([] : List UInt8)), (.str ([] : List UInt8))]), false)) (fun _ _ => rfl) (fun r => some (findK t r))]
  · simp only [oB_s, findK_any, h2, known_any]
  · intro nx; simp [rdata_find_L6_b, findK]
  · intro i y r nx g1 g2 g3 g4 g5
    have hy := h3 y (List.mem_of_getElem? g2)
    have g6 : (i : Int) < (L.length : Int) := by omega
    unfold rdata_find_L6_b
    simp only [g6, decide_true, cond_t, ixB_nat, g2, oB_s, hy, g4, g5, findK]
    cases (gI y.cells 0 == t) <;> rfl
def orK (s n : Int) : Int := ibits .or .u64 s (IntKind.u64.wrap (1 * 2 ^ min n.toNat IntKind.u64.bits))
theorem p_all' : rdata_all = some 501935916552294 := by
  obtain ⟨L, h1, h2, h3, h4⟩ := p_kinds
  rw [rdata_all_eq]; unfold rdata_all_i
  rw [h1, oB_s, rdata_all_L8_eq]
  have hpos : ∀ y, y ∈ L → ¬ gI y.cells 0 < 0 := by
    intro y hy
    have : gI y.cells 0 ∈ kindNs := by rw [← h2]; exact List.mem_map.2 ⟨y, hy, rfl⟩
    simp only [kindNs, List.mem_cons, List.not_mem_nil, or_false] at this
    omega
  have key := for_list L (by omega) (fun n i s => rdata_all_L8_i L (L.length : Int) (fun v => some v) n s i) (fun i s nx => rdata_all_L8_b s L (L.length : Int) i (fun a b => nx b a) (fun v => some v)) (fun _ _ _ => rfl)
    (fun _ _ => True) (fun r s => some ((r.map (fun y => gI y.cells 0)).foldl orK s)) ?_ ?_ 0 FU trivial (FU_big (by omega))
  · refine key.trans ?_
    rw [h2]
    decide +kernel
  · intro s nx _; simp [rdata_all_L8_b]
  · intro i y r s nx g1 g2 g3 g4 _ g5
    have hm := List.mem_of_getElem? g2
    have g6 : (i : Int) < (L.length : Int) := by omega
    have g7 : decide (gI y.cells 0 < 0) = false := decide_eq_false (hpos y hm)
    unfold rdata_all_L8_b
    simp only [g6, decide_true, cond_t, ixB_nat, g2, oB_s, h3 y hm, g7, cond_f, g4, g5 _ trivial, List.map_cons, List.foldl_cons]
    rfl
theorem allF_iff (b : Int) : ∀ n, n ≤ 64 → (allF b n = true ↔ ∀ i, 64 - n ≤ i → i < 64 → ((ibits .and .u64 (b.fdiv (2 ^ i)) 1) == 1) = true → knownB (i : Nat) = true)
  | 0, _ => by simp [allF]; intro i h1 h2; omega
  | n + 1, hn => by
    simp only [allF, Bool.and_eq_true, Bool.or_eq_true, Bool.not_eq_true', allF_iff b n (by omega)]
    constructor
    · rintro ⟨h1, h2⟩ i hi hi2 hb
      by_cases e : i = 63 - n
      · subst e
        rcases h1 with h1 | h1
        · rw [hb] at h1; cases h1
        · exact h1
      · exact h2 i (by omega) hi2 hb
    · intro h
      refine ⟨?_, fun i hi hi2 hb => h i (by omega) hi2 hb⟩
      cases hb : ((ibits .and .u64 (b.fdiv (2 ^ (63 - n))) 1) == 1)
      · exact .inl rfl
      · exact .inr (h (63 - n) (by omega) (by omega) hb)
theorem bit_of {b : Int} (h : uok b) (i : Nat) (hi : i < 64) : ((ibits .and .u64 (b.fdiv (2 ^ i)) 1) == 1) = (BitVec.ofInt 64 b).getLsbD i := by
  obtain ⟨n, rfl⟩ := Int.eq_ofNat_of_zero_le h.1
  have hn : n < 18446744073709551616 := by have := h.2; omega
  have e1 : (n : Int).fdiv (2 ^ i) = ((n / 2 ^ i : Nat) : Int) := by
    rw [Int.fdiv_eq_ediv_of_nonneg _ (by exact Int.pow_nonneg (by omega))]
    norm_cast
  rw [e1, ib_and]
  have e2 : (BitVec.ofInt 64 ((n / 2 ^ i : Nat) : Int) &&& BitVec.ofInt 64 1).toNat = (n / 2 ^ i) % 2 := by
    have hq : n / 2 ^ i ≤ n := Nat.div_le_self _ _
    generalize n / 2 ^ i = q at hq
    rw [BitVec.toNat_and, BitVec.toNat_ofInt]
    have e3 : (((q : Nat) : Int) % ((2 ^ 64 : Nat) : Int)).toNat = q := by omega
    rw [e3]
    exact Nat.and_one_is_mod _
  rw [e2]
  have e4 : (BitVec.ofInt 64 (n : Int)).getLsbD i = n.testBit i := by
    rw [BitVec.getLsbD, BitVec.toNat_ofInt]
    have : (((n : Nat) : Int) % ((2 ^ 64 : Nat) : Int)).toNat = n := by omega
    rw [this]
  rw [e4, Nat.testBit_eq_decide_div_mod_eq]
  rw [Bool.eq_iff_iff, beq_iff_eq, decide_eq_true_eq]
  omega
theorem bitsC : ∀ i : Fin 64, (BitVec.ofInt 64 501935916552294).getLsbD i.val = knownB (i.val : Nat) := by decide +kernel
theorem allF_eq {b : Int} (h : uok b) : allF b 64 = (ibits .andNot .u64 b 501935916552294 == 0) := by
  rw [Bool.eq_iff_iff, allF_iff b 64 (by omega), beq_iff_eq, ib_andNot]
  have hz : (((BitVec.ofInt 64 b &&& ~~~BitVec.ofInt 64 501935916552294).toNat : Nat) : Int) = 0 ↔ (BitVec.ofInt 64 b &&& ~~~BitVec.ofInt 64 501935916552294) = 0#64 := by
    constructor
    · intro h; exact BitVec.eq_of_toNat_eq (by simp only [BitVec.toNat_zero]; omega)
    · intro h; rw [h]; rfl
  rw [hz]
  constructor
  · intro hk
    apply BitVec.eq_of_getLsbD_eq
    intro i hi
    rw [BitVec.getLsbD_and, BitVec.getLsbD_not, bitsC ⟨i, hi⟩]
    simp only [hi, decide_true, Bool.true_and, BitVec.getLsbD_zero]
    have := hk i (by omega) hi
    rw [bit_of h i hi] at this
    cases hb : (BitVec.ofInt 64 b).getLsbD i
    · rfl
    · rw [this hb]; rfl
  · intro hk i _ hi hb
    rw [bit_of h i hi] at hb
    have := congrArg (fun v => v.getLsbD i) hk
    simp only [BitVec.getLsbD_and, BitVec.getLsbD_not, bitsC ⟨i, hi⟩, hi, decide_true, Bool.true_and, BitVec.getLsbD_zero, hb] at this
    simpa using this
end Go.Proofs.YthhnnlipnpfkcaaDoor.Dn

