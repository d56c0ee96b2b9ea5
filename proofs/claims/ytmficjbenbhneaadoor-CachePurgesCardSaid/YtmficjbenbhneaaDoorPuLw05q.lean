/- Data: what the program's layer 5 answers. -/
import Derived.Test.YtmficjbenbhneaaDoorPuLw05
import Derived.Test.YtmficjbenbhneaaDoorPuLw01u
import Derived.Test.YtmficjbenbhneaaDoorPuLw03p
set_option linter.all false
namespace Go.Proofs.YtmficjbenbhneaaDoor.Dn
open Go Go.Pev
set_option linter.unusedVariables false
set_option linter.unusedSimpArgs false
set_option maxRecDepth 4000
theorem q9y (x : List UInt8) (hx : x.length ≤ 9223372036854775807) : qfa x = some (qnr x) := by
  rw [q5p]; unfold qkt qnr
  rw [qfq x hx, oB_s]
  cases h : qu x
  · rfl
  · cases x with
    | nil => exact absurd rfl (qbcz _ h)
    | cons a r =>
      rw [qs2]; unfold qez
      rw [qo3]; unfold qdv
      have e1 : decide (((a :: r).length : Int) ≥ (([42] : List UInt8).length : Int)) = true := decide_eq_true (by simp; omega)
      have e2 : cutI (a :: r) none (some (([42] : List UInt8).length : Int)) = some [a] := by
        unfold cutI
        simp only [Option.getD_none, Option.getD_some]
        rw [if_pos ⟨by omega, by simp, by simp; omega⟩]
        rfl
      simp only [e1, cond_t, e2, oB_s, Bool.true_and, List.head?_cons]
      congr 2
      rw [Bool.eq_iff_iff]; simp
def qns : List Int := [1, 2, 5, 6, 12, 15, 16, 28, 33, 39, 43, 46, 47, 48]
theorem q5d (t : Int) : qii t = qns.any (fun n => n == t) := by
  unfold qii mnem qns
  by_cases h1 : t = 1
  · subst h1; rfl
  by_cases h2 : t = 2
  · subst h2; rfl
  by_cases h3 : t = 5
  · subst h3; rfl
  by_cases h4 : t = 6
  · subst h4; rfl
  by_cases h5 : t = 12
  · subst h5; rfl
  by_cases h6 : t = 15
  · subst h6; rfl
  by_cases h7 : t = 16
  · subst h7; rfl
  by_cases h8 : t = 28
  · subst h8; rfl
  by_cases h9 : t = 33
  · subst h9; rfl
  by_cases h10 : t = 39
  · subst h10; rfl
  by_cases h11 : t = 43
  · subst h11; rfl
  by_cases h12 : t = 46
  · subst h12; rfl
  by_cases h13 : t = 47
  · subst h13; rfl
  by_cases h14 : t = 48
  · subst h14; rfl
  simp [h1, h2, h3, h4, h5, h6, h7, h8, h9, h10, h11, h12, h13, h14, Ne.symm h1, Ne.symm h2, Ne.symm h3, Ne.symm h4, Ne.symm h5, Ne.symm h6, Ne.symm h7, Ne.symm h8, Ne.symm h9, Ne.symm h10, Ne.symm h11, Ne.symm h12, Ne.symm h13, Ne.symm h14]
theorem q9z : ∃ L, qmn = some L ∧ L.map (fun y => gI y.cells 0) = qns ∧ (∀ y, y ∈ L → fitC qgf y.cells = true) ∧ L.length = 14 := by
  rw [q2y]; unfold qi8
  simp only [hd_self, cond_t]
  refine ⟨_, rfl, rfl, ?_, rfl⟩
  intro y hy
  simp only [List.mem_cons, List.not_mem_nil, or_false] at hy
  rcases hy with rfl | rfl | rfl | rfl | rfl | rfl | rfl | rfl | rfl | rfl | rfl | rfl | rfl | rfl <;> rfl
def qxv (t : Int) : List AV → AV × Bool
  | [] => ((.agg [(.int .i64 0), (.str ([] : List UInt8)), (.str ([] : List UInt8))]), false)
  | y :: r => bif gI y.cells 0 == t then ((.agg [(.int .i64 (gI y.cells 0)), (.str (gS y.cells 1)), (.str (gS y.cells 2))]), true) else qxv t r
theorem q5e (t : Int) : ∀ l : List AV, (qxv t l).2 = (l.map (fun y => gI y.cells 0)).any (fun n => n == t)
  | [] => rfl
  | y :: r => by
    simp only [qxv, List.map_cons, List.any_cons]
    cases (gI y.cells 0 == t)
    · exact q5e t r
    · rfl
theorem q8e (t : Int) : qmo t = some (qii t) := by
  obtain ⟨L, h1, h2, h3, h4⟩ := q9z
  rw [q2z]; unfold qi9
  rw [q5n]; unfold qkr
  rw [h1, oB_s, qzj, qq5 L (by omega) (qe9 t L (L.length : Int) 0 [] [] fun _ => some ((.agg [(.int .i64 0), (.str ([] : List UInt8)), (.str ([] : List UInt8))]), false)) (fun i nx => qe8 t L (L.length : Int) i 0 [] [] nx fun _ => some ((.agg [(.int .i64 0), (.str ([] : List UInt8)), (.str ([] : List UInt8))]), false)) (fun _ _ => rfl) (fun r => some (qxv t r))]
  · simp only [oB_s, q5e, h2, q5d]
  · intro nx; simp [qe8, qxv]
  · intro i y r nx g1 g2 g3 g4 g5
    have hy := h3 y (List.mem_of_getElem? g2)
    have g6 : (i : Int) < (L.length : Int) := by omega
    unfold qe8
    simp only [g6, decide_true, cond_t, ixB_nat, g2, oB_s, hy, g4, g5, qxv]
    cases (gI y.cells 0 == t) <;> rfl
def orK (s n : Int) : Int := qfj .or .u64 s (IntKind.u64.wrap (1 * 2 ^ min n.toNat IntKind.u64.bits))
theorem qbhr : qvl = some 501935916552294 := by
  obtain ⟨L, h1, h2, h3, h4⟩ := q9z
  rw [q6n]; unfold qmp
  rw [h1, oB_s, q0s]
  have hpos : ∀ y, y ∈ L → ¬ gI y.cells 0 < 0 := by
    intro y hy
    have : gI y.cells 0 ∈ qns := by rw [← h2]; exact List.mem_map.2 ⟨y, hy, rfl⟩
    simp only [qns, List.mem_cons, List.not_mem_nil, or_false] at this
    omega
  have key := qfv L (by omega) (fun n i s => qgi L (L.length : Int) (fun v => some v) n s i) (fun i s nx => qgh s L (L.length : Int) i (fun a b => nx b a) (fun v => some v)) (fun _ _ _ => rfl)
    (fun _ _ => True) (fun r s => some ((r.map (fun y => gI y.cells 0)).foldl orK s)) ?_ ?_ 0 FU trivial (qfo (by omega))
  · refine key.trans ?_
    rw [h2]
    decide +kernel
  · intro s nx _; simp [qgh]
  · intro i y r s nx g1 g2 g3 g4 _ g5
    have hm := List.mem_of_getElem? g2
    have g6 : (i : Int) < (L.length : Int) := by omega
    have g7 : decide (gI y.cells 0 < 0) = false := decide_eq_false (hpos y hm)
    unfold qgh
    simp only [g6, decide_true, cond_t, ixB_nat, g2, oB_s, h3 y hm, g7, cond_f, g4, g5 _ trivial, List.map_cons, List.foldl_cons]
    rfl
theorem q8f (b : Int) : ∀ n, n ≤ 64 → (allF b n = true ↔ ∀ i, 64 - n ≤ i → i < 64 → ((qfj .and .u64 (b.fdiv (2 ^ i)) 1) == 1) = true → qii (i : Nat) = true)
  | 0, _ => by simp [allF]; intro i h1 h2; omega
  | n + 1, hn => by
    simp only [allF, Bool.and_eq_true, Bool.or_eq_true, Bool.not_eq_true', q8f b n (by omega)]
    constructor
    · rintro ⟨h1, h2⟩ i hi hi2 hb
      by_cases e : i = 63 - n
      · subst e
        rcases h1 with h1 | h1
        · rw [hb] at h1; cases h1
        · exact h1
      · exact h2 i (by omega) hi2 hb
    · intro h
      refine ⟨?_, fun i hi hi2 hb => h i (by omega) hi2 hb⟩
      cases hb : ((qfj .and .u64 (b.fdiv (2 ^ (63 - n))) 1) == 1)
      · exact .inl rfl
      · exact .inr (h (63 - n) (by omega) (by omega) hb)
theorem qbc0 {b : Int} (h : uok b) (i : Nat) (hi : i < 64) : ((qfj .and .u64 (b.fdiv (2 ^ i)) 1) == 1) = (BitVec.ofInt 64 b).getLsbD i := by
  obtain ⟨n, rfl⟩ := Int.eq_ofNat_of_zero_le h.1
  have hn : n < 18446744073709551616 := by have := h.2; omega
  have e1 : (n : Int).fdiv (2 ^ i) = ((n / 2 ^ i : Nat) : Int) := by
    rw [Int.fdiv_eq_ediv_of_nonneg _ (by exact Int.pow_nonneg (by omega))]
    norm_cast
  rw [e1, qbhq]
  have e2 : (BitVec.ofInt 64 ((n / 2 ^ i : Nat) : Int) &&& BitVec.ofInt 64 1).toNat = (n / 2 ^ i) % 2 := by
    have hq : n / 2 ^ i ≤ n := Nat.div_le_self _ _
    generalize n / 2 ^ i = q at hq
    rw [BitVec.toNat_and, BitVec.toNat_ofInt]
    have e3 : (((q : Nat) : Int) % ((2 ^ 64 : Nat) : Int)).toNat = q := by omega
    rw [e3]
    exact Nat.and_one_is_mod _
  rw [e2]
  have e4 : (BitVec.ofInt 64 (n : Int)).getLsbD i = n.testBit i := by
    rw [BitVec.getLsbD, BitVec.toNat_ofInt]
    have : (((n : Nat) : Int) % ((2 ^ 64 : Nat) : Int)).toNat = n := by omega
    rw [this]
  rw [e4, Nat.testBit_eq_decide_div_mod_eq]
  rw [Bool.eq_iff_iff, beq_iff_eq, decide_eq_true_eq]
  omega
theorem qbe6 : ∀ i : Fin 64, (BitVec.ofInt 64 501935916552294).getLsbD i.val = qii (i.val : Nat) := by decide +kernel
theorem qbgf {b : Int} (h : uok b) : allF b 64 = (qfj .andNot .u64 b 501935916552294 == 0) := by
  rw [Bool.eq_iff_iff, q8f b 64 (by omega), beq_iff_eq, qbcy]
  have hz : (((BitVec.ofInt 64 b &&& ~~~BitVec.ofInt 64 501935916552294).toNat : Nat) : Int) = 0 ↔ (BitVec.ofInt 64 b &&& ~~~BitVec.ofInt 64 501935916552294) = 0#64 := by
    constructor
    · intro h; exact BitVec.eq_of_toNat_eq (by simp only [BitVec.toNat_zero]; omega)
    · intro h; rw [h]; rfl
  rw [hz]
  constructor
  · intro hk
    apply BitVec.eq_of_getLsbD_eq
    intro i hi
    rw [BitVec.getLsbD_and, BitVec.getLsbD_not, qbe6 ⟨i, hi⟩]
    simp only [hi, decide_true, Bool.true_and, BitVec.getLsbD_zero]
    have := hk i (by omega) hi
    rw [qbc0 h i hi] at this
    cases hb : (BitVec.ofInt 64 b).getLsbD i
    · rfl
    · rw [this hb]; rfl
  · intro hk i _ hi hb
    rw [qbc0 h i hi] at hb
    have := congrArg (fun v => v.getLsbD i) hk
    simp only [BitVec.getLsbD_and, BitVec.getLsbD_not, qbe6 ⟨i, hi⟩, hi, decide_true, Bool.true_and, BitVec.getLsbD_zero, hb] at this
    simpa using this
end Go.Proofs.YtmficjbenbhneaaDoor.Dn
