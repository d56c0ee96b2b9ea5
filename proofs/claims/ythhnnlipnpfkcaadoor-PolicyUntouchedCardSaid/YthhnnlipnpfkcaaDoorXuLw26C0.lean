/- Policies: the program's Check; what refuse is. -/
import Derived.Test.YthhnnlipnpfkcaaDoorXuLw26T0
import Derived.Test.YthhnnlipnpfkcaaDoorXuLw05r
set_option linter.all false
namespace Go.Proofs.YthhnnlipnpfkcaaDoor.Dn
open Go Go.Pev
set_option linter.unusedVariables false
set_option linter.unusedSimpArgs false
set_option maxRecDepth 4000

def recFit3 (y : AV) : Prop := recFit y ∧ uok (gI y.cells 15)
def recsFit3 (l : List AV) : Prop := l.length ≤ 9223372036854775807 ∧ ∀ y, y ∈ l → recFit3 y
def ruleFit3 (y : AV) : Prop := fitC T_api_Rule y.cells = true ∧ strOk (gS y.cells 1) ∧ recsFit3 (gL y.cells 7)
def rulesFit3 (l : List AV) : Prop := l.length ≤ 9223372036854775807 ∧ ∀ y, y ∈ l → ruleFit3 y
theorem recsFit3_1 {l : List AV} (h : recsFit3 l) : recsFit l := ⟨h.1, fun y hy => (h.2 y hy).1⟩
theorem rulesFit3_1 {l : List AV} (h : rulesFit3 l) : rulesFit l := ⟨h.1, fun y hy => ⟨(h.2 y hy).1, (h.2 y hy).2.1, recsFit3_1 (h.2 y hy).2.2⟩⟩
theorem recsFit3_of {l : List AV} (h : l.length ≤ 9223372036854775807 ∧ ∀ y, y ∈ l → fitC tyRec.lts y.cells = true ∧ tyRec.good y.cells 0) : recsFit3 l :=
  ⟨h.1, fun y hy => ⟨recFit_of (h.2 y hy).1 (h.2 y hy).2, (h.2 y hy).2.2.2.2.1.2.2.2.2.2.2.2.2.2.2.1⟩⟩
theorem rulesFit3_of {l : List AV} (h : l.length ≤ 9223372036854775807 ∧ ∀ y, y ∈ l → fitC tyRule.lts y.cells = true ∧ tyRule.good y.cells 0) : rulesFit3 l :=
  ⟨h.1, fun y hy => ⟨(h.2 y hy).1, (h.2 y hy).2.2.1, recsFit3_of (h.2 y hy).2.2.2.2.2.1⟩⟩

theorem p_rrValid (n : List UInt8) (t ttl : Int) (v6 : Bool) (hi lo : Int) (h m x : List UInt8) (a b c d e f bits : Int) (hn : n.length ≤ 9223372036854775807) (hh : h.length ≤ 9223372036854775807) (hm : m.length ≤ 9223372036854775807) (ub : uok bits) :
    rrset_Valid n t ttl v6 hi lo h m x a b c d e f bits = some (recOk n t ttl v6 hi lo h m x a b c d e f bits) := by
  rw [rrset_Valid_eq]; unfold rrset_Valid_i recOk
  simp only [p_dValid' n hn, p_Known', p_rdValid _ _ _ _ _ _ _ _ _ _ _ _ _ _ hh hm ub, oB_s, and_some]
theorem p_right1 (y : AV) (hy : recFit3 y) : policy_right_1 (gS y.cells 0) (gI y.cells 1) (gI y.cells 2) (gB y.cells 3) (gI y.cells 4) (gI y.cells 5) (gS y.cells 6) (gS y.cells 7) (gS y.cells 8) (gI y.cells 9) (gI y.cells 10) (gI y.cells 11) (gI y.cells 12) (gI y.cells 13) (gI y.cells 14) (gI y.cells 15) = some (!(recOkY y && gS y.cells 0 == [46])) := by
  rw [policy_right_1_eq]; unfold policy_right_1_i
  rw [p_rrValid _ _ _ _ _ _ _ _ _ _ _ _ _ _ _ _ hy.1.2.1 hy.1.2.2.1 hy.1.2.2.2.1 hy.2]
  show _ = some (!(recOkY y && gS y.cells 0 == [46]))
  cases (gS y.cells 0 == [46])
  · cases recOkY y <;> rfl
  · show (oB (some (recOkY y)) fun r1 => some (!r1)) = _
    cases recOkY y <;> rfl
def ixG (q : AV → Bool) : Nat → List AV → Int
  | _, [] => -1
  | i, y :: r => bif q y then (i : Int) else ixG q (i + 1) r
theorem ixG_any (q : AV → Bool) : ∀ (r : List AV) (i : Nat), decide (ixG q i r ≥ 0) = r.any q
  | [], i => rfl
  | y :: r, i => by
    unfold ixG
    rw [List.any_cons]
    cases q y
    · exact ixG_any q r (i + 1)
    · simp <;> omega
theorem p_contR (l : List AV) (hl : recsFit3 l) : slices_ContainsFunc_api_Record_api_Record__policy_right_1 l = some (l.any fun y => !(recOkY y && gS y.cells 0 == [46])) := by
  rw [slices_ContainsFunc_api_Record_api_Record__policy_right_1_eq]; unfold slices_ContainsFunc_api_Record_api_Record__policy_right_1_i
  rw [slices_IndexFunc_api_Record_api_Record__policy_right_1_eq]; unfold slices_IndexFunc_api_Record_api_Record__policy_right_1_i
  rw [slices_IndexFunc_api_Record_api_Record__policy_right_1_L6_eq, for_idx l hl.1 (slices_IndexFunc_api_Record_api_Record__policy_right_1_L6_i l (l.length : Int) fun _ => some (-1)) (fun i nx => slices_IndexFunc_api_Record_api_Record__policy_right_1_L6_b l (l.length : Int) i nx fun _ => some (-1)) (fun _ _ => rfl) (fun i r => some (ixG (fun y => !(recOkY y && gS y.cells 0 == [46])) i r))]
  · simp only [oB_s, ixG_any]
  · intro nx; simp [slices_IndexFunc_api_Record_api_Record__policy_right_1_L6_b, ixG]
  · intro i y r nx h1 h2 h3 h4 h5
    have hy := hl.2 y (List.mem_of_getElem? h2)
    have h6 : (i : Int) < (l.length : Int) := by omega
    unfold slices_IndexFunc_api_Record_api_Record__policy_right_1_L6_b
    simp only [h6, decide_true, cond_t, ixB_nat, h2, oB_s, hy.1.1, p_right1 y hy, h4, h5, ixG]
    cases (recOkY y && gS y.cells 0 == [46]) <;> rfl
theorem p_right26 (y : AV) (hy : ruleFit3 y) : policy_right (gI y.cells 0) (gS y.cells 1) (gB y.cells 2) (gI y.cells 3) (gI y.cells 4) (gI y.cells 5) (gI y.cells 6) (gL y.cells 7) = some (ruleEY y) := by
  obtain ⟨_, h1, h7⟩ := hy
  rw [policy_right_eq]; unfold policy_right_i ruleEY ruleE
  simp only [policy_right_J13_eq, policy_right_J13_i, policy_right_J19_eq, policy_right_J19_i, policy_right_J25_eq, policy_right_J25_i, p_dValid' _ h1, p_pValid, p_contR _ h7, oB_s]
  have hloc : localOk (gL y.cells 7) = (!(decide (((gL y.cells 7).length : Int) < 1) || decide (((gL y.cells 7).length : Int) > 64)) && !((gL y.cells 7).any fun y => !(recOkY y && gS y.cells 0 == [46]))) := by
    unfold localOk
    rw [List.not_any_eq_all_not]
    simp only [Bool.not_not, Bool.not_or]
    congr 1
    congr 1
    · rw [← decide_not]; apply decide_eq_decide.2; omega
    · rw [← decide_not]; apply decide_eq_decide.2; omega
  rw [hloc]
  generalize okName (gS y.cells 1) = o
  generalize prefOk (gB y.cells 2) (gI y.cells 3) (gI y.cells 4) (gI y.cells 5) = p
  generalize ((gL y.cells 7).any fun y => !(recOkY y && gS y.cells 0 == [46])) = q
  generalize (decide (((gL y.cells 7).length : Int) < 1) || decide (((gL y.cells 7).length : Int) > 64)) = q2
  generalize decide (((gL y.cells 7).length : Int) > 0) = q3
  generalize ((gB y.cells 2 == false) && ((gI y.cells 3 == 0) && ((gI y.cells 4 == 0) && ((gI y.cells 5 == 0) && true)))) = q4
  generalize (gS y.cells 1 == []) = q5
  have ha : (gI y.cells 6 != 4) = !(gI y.cells 6 == 4) := rfl
  rw [ha]
  generalize (gI y.cells 6 == 4) = q6
  cases hg : (((decide (gI y.cells 0 < 1) || decide (gI y.cells 0 > 3)) || decide (gI y.cells 6 < 1)) || decide (gI y.cells 6 > 5))
  · have hn : ((gI y.cells 0 == 1) || (gI y.cells 0 == 2)) = (gI y.cells 0 != 3) := by
      simp only [Bool.or_eq_false_iff, decide_eq_false_iff_not] at hg
      rw [Bool.eq_iff_iff]; simp; omega
    rw [hn]
    cases (gI y.cells 0 != 3) <;> cases q5 <;> cases q4 <;> cases q6 <;> cases q3 <;> cases o <;> cases p <;> cases q2 <;> cases q <;> rfl
  · rfl
theorem p_pCheck26 (l : List AV) (hl : rulesFit3 l) : policy_Check l = some (checkE l) := by
  rw [policy_Check_eq]; unfold policy_Check_i
  rw [policy_Check_L14_eq, for_list0 l hl.1 (policy_Check_L14_i l (l.length : Int) fun _ => some 0) (fun i nx => policy_Check_L14_b l (l.length : Int) i nx fun _ => some 0) (fun _ _ => rfl) (fun r => some (checkF r))]
  · unfold checkE
    by_cases h : 64 < l.length
    · have : (l.length : Int) > 64 := by omega
      simp [this, h]
    · have : ¬ (l.length : Int) > 64 := by omega
      simp only [this, decide_false, cond_f, if_neg h]
  · intro nx; simp [policy_Check_L14_b, checkF]
  · intro i y r nx h1 h2 h3 h4 h5
    have hy := hl.2 y (List.mem_of_getElem? h2)
    have h6 : (i : Int) < (l.length : Int) := by omega
    unfold policy_Check_L14_b
    simp only [h6, decide_true, cond_t, ixB_nat, h2, oB_s, hy.1, p_right26 y hy, h4, h5, checkF]
    by_cases h : ruleEY y = 0
    · simp [h]
    · have hb : (ruleEY y != 0) = true := by simpa using h
      simp only [hb, cond_t, h, if_false]
def rRefuse : AV := (.agg [(.int .i64 1), (.str ([97, 46] : List UInt8)), (.bool false), (.int .u64 0), (.int .u64 0), (.int .i64 0), (.int .i64 (5 : Int)), .nils])
theorem recsFit3_nil : recsFit3 [] := ⟨by simp, fun y hy => by simp at hy⟩
theorem fit_rf : rulesFit3 [rRefuse] := ⟨by decide, fun y hy => by simp at hy; subst hy; exact ⟨rfl, by unfold strOk; decide, recsFit3_nil⟩⟩
theorem p_refuse : ddilaw26_refuse = some [rRefuse] := by
  rw [ddilaw26_refuse_eq]; unfold ddilaw26_refuse_i
  simp only [hd_self, cond_t]
  rfl
end Go.Proofs.YthhnnlipnpfkcaaDoor.Dn

