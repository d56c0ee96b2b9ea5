/- Views: what the program's and ddiref25's Check answer. -/
import Derived.Test.YtdedipnhkcaghaaDoorXzLw25
set_option linter.all false
namespace Go.Proofs.YtdedipnhkcaghaaDoor.Dn
open Go Go.Pev
set_option linter.unusedVariables false
set_option linter.unusedSimpArgs false
set_option maxRecDepth 4000

def entryB (y : AV) : Bool := bif gB y.cells 4 then ((gB y.cells 0 == false) && ((gI y.cells 1 == 0) && ((gI y.cells 2 == 0) && ((gI y.cells 3 == 0) && true)))) else prefOk (gB y.cells 0) (gI y.cells 1) (gI y.cells 2) (gI y.cells 3)
theorem p_right (l : List AV) (hl : matchesFit l) : view_right l = some (l.all entryB) := by
  rw [view_right_eq]; unfold view_right_i
  rw [view_right_L6_eq, for_list0 l hl.1 (view_right_L6_i l (l.length : Int) fun _ => some true) (fun i nx => view_right_L6_b l (l.length : Int) i nx fun _ => some true) (fun _ _ => rfl) (fun r => some (r.all entryB))]
  · intro nx; simp [view_right_L6_b]
  · intro i y r nx h1 h2 h3 h4 h5
    have hy := hl.2 y (List.mem_of_getElem? h2)
    have h6 : (i : Int) < (l.length : Int) := by omega
    unfold view_right_L6_b
    simp only [h6, decide_true, cond_t, ixB_nat, h2, oB_s, hy, view_right_J18_eq, view_right_J18_i, p_pValid, h4, h5, List.all_cons]
    unfold entryB
    cases gB y.cells 4
    · cases prefOk (gB y.cells 0) (gI y.cells 1) (gI y.cells 2) (gI y.cells 3) <;> rfl
    · cases ((gB y.cells 0 == false) && ((gI y.cells 1 == 0) && ((gI y.cells 2 == 0) && ((gI y.cells 3 == 0) && true)))) <;> rfl
/-! ### The program's parts -/
def ixF (q : AV → Bool) : Nat → List AV → Int
  | _, [] => -1
  | i, y :: r => bif q y then (i : Int) else ixF q (i + 1) r
theorem ixF_any (q : AV → Bool) : ∀ (r : List AV) (i : Nat), decide (ixF q i r ≥ 0) = r.any q
  | [], i => rfl
  | y :: r, i => by
    unfold ixF
    rw [List.any_cons]
    cases q y
    · exact ixF_any q r (i + 1)
    · simp <;> omega
def namedY (nm : List UInt8) (y : AV) : Bool := gS y.cells 0 == nm
theorem p_contF {R : Type} (l : List AV) (hl : l.length ≤ 9223372036854775807) (hf : ∀ y, y ∈ l → fitC T_api_View y.cells = true) (nm : List UInt8) (a b c d e : List AV) (kr : Bool → List UInt8 → List AV → List AV → List AV → List AV → List AV → Option R) :
    slices_ContainsFunc_api_View_api_View__view_check_1 l nm a b c d e kr = kr (l.any (namedY nm)) nm a b c d e := by
  rw [slices_ContainsFunc_api_View_api_View__view_check_1_eq]; unfold slices_ContainsFunc_api_View_api_View__view_check_1_i
  rw [slices_IndexFunc_api_View_api_View__view_check_1_eq]; unfold slices_IndexFunc_api_View_api_View__view_check_1_i
  rw [slices_IndexFunc_api_View_api_View__view_check_1_L6_eq]
  generalize hk : (fun (v4q1 : Int) (b0_0q2 : List UInt8) (b0_1q3 b0_2q4 b0_3q5 b0_4q6 b0_5q7 : List AV) => kr (decide (v4q1 ≥ 0)) b0_0q2 b0_1q3 b0_2q4 b0_3q5 b0_4q6 b0_5q7) = kk
  have key := for_list l hl (fun k i (s : List UInt8 × List AV × List AV × List AV × List AV × List AV) => slices_IndexFunc_api_View_api_View__view_check_1_L6_i l (l.length : Int) (fun b0 b1 b2 b3 b4 b5 => kk (-1) b0 b1 b2 b3 b4 b5) kk k i s.1 s.2.1 s.2.2.1 s.2.2.2.1 s.2.2.2.2.1 s.2.2.2.2.2)
    (fun i s nx => slices_IndexFunc_api_View_api_View__view_check_1_L6_b l (l.length : Int) i s.1 s.2.1 s.2.2.1 s.2.2.2.1 s.2.2.2.2.1 s.2.2.2.2.2 (fun j p q r t u v => nx j (p, q, r, t, u, v)) (fun b0 b1 b2 b3 b4 b5 => kk (-1) b0 b1 b2 b3 b4 b5) kk) (fun _ _ _ => rfl)
    (fun _ s => s = (nm, a, b, c, d, e)) (fun r s => kk (ixF (namedY nm) (l.length - r.length) r) nm a b c d e) ?_ ?_ (nm, a, b, c, d, e) FU rfl (FU_big (by omega))
  · refine key.trans ?_
    rw [← hk]
    simp only [ixF_any]
  · rintro s nx rfl
    simp [slices_IndexFunc_api_View_api_View__view_check_1_L6_b, ixF]
  · rintro i y r s nx h1 h2 h3 h4 rfl h5
    have hy := hf y (List.mem_of_getElem? h2)
    have h6 : (i : Int) < (l.length : Int) := by omega
    have hr : r.length = l.length - (i + 1) := by
      have := congrArg List.length h1
      simp at this; omega
    have e1 : l.length - r.length = i + 1 := by omega
    have e2 : l.length - (y :: r).length = i := by simp; omega
    unfold slices_IndexFunc_api_View_api_View__view_check_1_L6_b
    simp only [h6, decide_true, cond_t, ixB_nat, h2, oB_s, hy, view_check_1_eq, view_check_1_i, h4, h5 _ rfl, e1, e2, ixF]
    unfold namedY
    cases (gS y.cells 0 == nm) <;> rfl
theorem p_contS (l : List AV) (hl : zonesFit l) (x : List UInt8) : slices_Contains_string_string l x = some (l.any (fun y => x == gS y.cells 0)) := by
  rw [slices_Contains_string_string_eq]; unfold slices_Contains_string_string_i
  rw [slices_Index_string_string_eq]; unfold slices_Index_string_string_i
  rw [slices_Index_string_string_L6_eq, for_idx l hl.1 (slices_Index_string_string_L6_i l x (l.length : Int) fun _ => some (-1)) (fun i nx => slices_Index_string_string_L6_b l x (l.length : Int) i nx fun _ => some (-1)) (fun _ _ => rfl) (fun i r => some (ixF (fun y => x == gS y.cells 0) i r))]
  · simp only [oB_s, ixF_any]
  · intro nx; simp [slices_Index_string_string_L6_b, ixF]
  · intro i y r nx h1 h2 h3 h4 h5
    have hy := hl.2 y (List.mem_of_getElem? h2)
    have h6 : (i : Int) < (l.length : Int) := by omega
    unfold slices_Index_string_string_L6_b
    simp only [h6, decide_true, cond_t, ixB_nat, h2, oB_s, hy, h4, h5, ixF]
    cases (x == gS y.cells 0) <;> rfl

def zoneOk (y : AV) : Bool := okName (gS y.cells 0) && !((gS y.cells 0).head? == some 42)
theorem star_ix (x : List UInt8) (h : x ≠ []) : ∃ c, ixB x 0 = some c ∧ ((c.toNat : Int) == 42) = (x.head? == some 42) := by
  cases x with
  | nil => exact absurd rfl h
  | cons a r =>
    refine ⟨a, by simp, ?_⟩
    simp only [List.head?_cons]
    by_cases ha : a = 42
    · subst ha; rfl
    · have h3 : a.toNat ≠ 42 := fun h => ha (by rw [← UInt8.toNat_inj]; exact h)
      have e1 : ((a.toNat : Int) == 42) = false := by simp; omega
      have e3 : (some a == some 42) = false := by simpa using ha
      rw [e1, e3]
theorem p_L22 (l : List AV) (hl : zonesFit l) (v1 : List AV) (nm : List UInt8) (a b c d e : List AV) (kx : Unit → Option Int) : view_check_L22 v1 l (l.length : Int) nm a b c d e kx FU 0 = bif l.all zoneOk then kx () else some 2 := by
  rw [view_check_L22_eq, for_list0 l hl.1 (view_check_L22_i v1 l (l.length : Int) nm a b c d e kx) (fun i nx => view_check_L22_b v1 l (l.length : Int) i nm a b c d e nx kx) (fun _ _ => rfl) (fun r => bif r.all zoneOk then kx () else some 2)]
  · intro nx; simp [view_check_L22_b]
  · intro i y r nx h1 h2 h3 h4 h5
    have hy := hl.2 y (List.mem_of_getElem? h2)
    have h6 : (i : Int) < (l.length : Int) := by omega
    unfold view_check_L22_b
    simp only [h6, decide_true, cond_t, ixB_nat, h2, oB_s, hy.1, p_dValid' _ hy.2, h4, h5, List.all_cons]
    unfold zoneOk
    cases ho : okName (gS y.cells 0)
    · simp
    · obtain ⟨c, hc1, hc2⟩ := star_ix _ (okName_nn ho)
      simp only [Bool.not_true, cond_f, hc1, oB_s, hc2, Bool.true_and]
      cases ((gS y.cells 0).head? == some 42) <;> simp
/-- Is one of some strings there before? -/
def dupR : List AV → List AV → Bool
  | _, [] => false
  | bf, z :: r => (bf.any fun y => gS z.cells 0 == gS y.cells 0) || dupR (bf ++ [z]) r
theorem zonesFit_take {l : List AV} (hl : zonesFit l) (i : Nat) : zonesFit (l.take i) := ⟨by have := hl.1; simp; omega, fun y hy => hl.2 y (List.mem_of_mem_take hy)⟩
theorem cut_take {α : Type} (l : List α) (i : Nat) (h : i ≤ l.length) : cutI l none (some (i : Int)) = some (l.take i) := by
  unfold cutI
  simp only [Option.getD_none, Option.getD_some]
  rw [if_pos ⟨by omega, by omega, by omega⟩]
  simp
theorem take_one {α : Type} {l : List α} {i : Nat} {a : α} (h : l[i]? = some a) : l.take (i + 1) = l.take i ++ [a] := by
  rw [List.take_add_one, h]; rfl
theorem p_L53 (l : List AV) (hl : zonesFit l) (nm : List UInt8) (a b c e : List AV) (kx : Unit → Option Int) : view_check_L53 l (l.length : Int) nm a b c l e kx FU 0 = bif dupR [] l then some 12 else kx () := by
  rw [view_check_L53_eq, for_idx l hl.1 (view_check_L53_i l (l.length : Int) nm a b c l e kx) (fun i nx => view_check_L53_b l (l.length : Int) i nm a b c l e nx kx) (fun _ _ => rfl) (fun i r => bif dupR (l.take i) r then some 12 else kx ())]
  · simp
  · intro nx; simp [view_check_L53_b, dupR]
  · intro i y r nx h1 h2 h3 h4 h5
    have hy := hl.2 y (List.mem_of_getElem? h2)
    have h6 : (i : Int) < (l.length : Int) := by omega
    unfold view_check_L53_b
    simp only [h6, decide_true, cond_t, ixB_nat, h2, oB_s, hy.1, cut_take l i (by omega), p_contS _ (zonesFit_take hl i), h4, h5, take_one h2, dupR]
    cases ((l.take i).any fun z => gS y.cells 0 == gS z.cells 0) <;> simp
theorem max3 (a b c : Nat) : decide ((if (c : Int) > (if (b : Int) > (a : Int) then (b : Int) else (a : Int)) then (c : Int) else (if (b : Int) > (a : Int) then (b : Int) else (a : Int))) > (64 : Int)) = decide (64 < a ∨ 64 < b ∨ 64 < c) := by
  apply decide_eq_decide.2
  by_cases h1 : (b : Int) > (a : Int)
  · simp only [h1, if_true]
    by_cases h2 : (c : Int) > (b : Int)
    · simp only [h2, if_true]; omega
    · simp only [h2, if_false]; omega
  · simp only [h1, if_false]
    by_cases h2 : (c : Int) > (a : Int)
    · simp only [h2, if_true]; omega
    · simp only [h2, if_false]; omega
def viewE (y : AV) (bf : List AV) : Int :=
  if 32 < (gL y.cells 4).length ∨ 64 < (gL y.cells 1).length ∨ 64 < (gL y.cells 2).length ∨ 64 < (gL y.cells 3).length then 9
  else if nameB (gS y.cells 0) = false then 2
  else if (gL y.cells 4).all zoneOk = false then 2
  else if bf.any (namedY (gS y.cells 0)) = true then 12
  else if dupR [] (gL y.cells 4) = true then 12
  else if (gL y.cells 1).all entryB = false ∨ (gL y.cells 2).all entryB = false ∨ (gL y.cells 3).all entryB = false then 3 else 0
theorem p_vcheck (y : AV) (hy : viewFit y) (bf : List AV) (hb : viewsFit bf) : view_check (gS y.cells 0) (gL y.cells 1) (gL y.cells 2) (gL y.cells 3) (gL y.cells 4) (gL y.cells 5) bf = some (viewE y bf) := by
  obtain ⟨_, h0, h1, h2, h3, h4⟩ := hy
  rw [view_check_eq]; unfold view_check_i viewE
  simp only [p_called _ h0, oB_s, p_L22 _ h4, p_contF _ hb.1 (fun y h => (hb.2 y h).1), p_L53 _ h4, p_right _ h1, p_right _ h2, p_right _ h3]
  have hlim : ((decide (((gL y.cells 4).length : Int) > (32 : Int))) || (decide ((if ((gL y.cells 3).length : Int) > (if ((gL y.cells 2).length : Int) > ((gL y.cells 1).length : Int) then ((gL y.cells 2).length : Int) else ((gL y.cells 1).length : Int)) then ((gL y.cells 3).length : Int) else (if ((gL y.cells 2).length : Int) > ((gL y.cells 1).length : Int) then ((gL y.cells 2).length : Int) else ((gL y.cells 1).length : Int))) > (64 : Int)))) = decide (32 < (gL y.cells 4).length ∨ 64 < (gL y.cells 1).length ∨ 64 < (gL y.cells 2).length ∨ 64 < (gL y.cells 3).length) := by
    rw [max3, ← Bool.decide_or]
    apply decide_eq_decide.2
    omega
  rw [hlim]
  by_cases c1 : 32 < (gL y.cells 4).length ∨ 64 < (gL y.cells 1).length ∨ 64 < (gL y.cells 2).length ∨ 64 < (gL y.cells 3).length
  · rw [decide_eq_true c1, if_pos c1]; rfl
  · rw [decide_eq_false c1, if_neg c1, cond_f]
    cases nameB (gS y.cells 0)
    · rfl
    · cases (gL y.cells 4).all zoneOk
      · rfl
      · cases bf.any (namedY (gS y.cells 0))
        · cases dupR [] (gL y.cells 4)
          · cases (gL y.cells 1).all entryB
            · rfl
            · cases (gL y.cells 2).all entryB
              · rfl
              · cases (gL y.cells 3).all entryB <;> rfl
          · rfl
        · rfl
theorem viewsFit_take {l : List AV} (hl : viewsFit l) (i : Nat) : viewsFit (l.take i) := ⟨by have := hl.1; simp; omega, fun y hy => hl.2 y (List.mem_of_mem_take hy)⟩
def viewsE : List AV → List AV → Int
  | _, [] => 0
  | bf, y :: r => if viewE y bf = 0 then viewsE (bf ++ [y]) r else viewE y bf
def checkV (l : List AV) : Int := if 8 < l.length then 9 else viewsE [] l
theorem p_vCheck (l : List AV) (hl : viewsFit l) : view_Check l = some (checkV l) := by
  rw [view_Check_eq]; unfold view_Check_i checkV
  rw [view_Check_L14_eq, for_idx l hl.1 (view_Check_L14_i l l (l.length : Int) fun _ => some 0) (fun i nx => view_Check_L14_b l l (l.length : Int) i nx fun _ => some 0) (fun _ _ => rfl) (fun i r => some (viewsE (l.take i) r))]
  · by_cases c : 8 < l.length
    · have : (l.length : Int) > 8 := by omega
      simp [c, this]
    · have : ¬ (l.length : Int) > 8 := by omega
      simp [c, this]
  · intro nx; simp [view_Check_L14_b, viewsE]
  · intro i y r nx h1 h2 h3 h4 h5
    have hy := hl.2 y (List.mem_of_getElem? h2)
    have h6 : (i : Int) < (l.length : Int) := by omega
    unfold view_Check_L14_b
    simp only [h6, decide_true, cond_t, ixB_nat, h2, oB_s, hy.1, cut_take l i (by omega), p_vcheck y hy _ (viewsFit_take hl i), h4, h5, take_one h2, viewsE]
    by_cases c : viewE y (l.take i) = 0
    · simp [c]
    · have c' : (viewE y (l.take i) != 0) = true := by simpa using c
      simp only [c', cond_t, c, if_false]

/-! ### The document's -/
end Go.Proofs.YtdedipnhkcaghaaDoor.Dn

