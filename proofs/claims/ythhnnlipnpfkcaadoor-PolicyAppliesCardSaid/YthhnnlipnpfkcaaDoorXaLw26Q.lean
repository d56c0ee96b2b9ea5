/- Policies: the law PolicyApplies. -/
import Derived.Test.YthhnnlipnpfkcaaDoorXaLw26P0
set_option linter.all false
namespace Go.Proofs.YthhnnlipnpfkcaaDoor.Dn
open Go Go.Pev
set_option linter.unusedVariables false
set_option linter.unusedSimpArgs false
set_option maxRecDepth 4000
def rRefuse : AV := (.agg [(.int .i64 1), (.str ([97, 46] : List UInt8)), (.bool false), (.int .u64 0), (.int .u64 0), (.int .i64 0), (.int .i64 (5 : Int)), .nils])
theorem fit_rfQ : rulesFit [rRefuse] := ⟨by decide, fun y hy => by simp at hy; subst hy; exact ⟨rfl, by unfold strOk; decide, recsFit_nil⟩⟩
theorem p_refuseQ : ddilaw26_refuse = some [rRefuse] := by
  rw [ddilaw26_refuse_eq]; unfold ddilaw26_refuse_i
  simp only [hd_self, cond_t]
  rfl
theorem check_rf : policy_Check [rRefuse] = some 0 := by
  have hv : dname_Valid [97, 46] = some true := by rw [p_dValid' _ (by decide)]; decide +kernel
  have hr : policy_right (gI rRefuse.cells 0) (gS rRefuse.cells 1) (gB rRefuse.cells 2) (gI rRefuse.cells 3) (gI rRefuse.cells 4) (gI rRefuse.cells 5) (gI rRefuse.cells 6) (gL rRefuse.cells 7) = some 0 := by
    rw [policy_right_eq]; unfold policy_right_i
    simp [policy_right_J13_eq, policy_right_J13_i, policy_right_J19_eq, policy_right_J19_i, policy_right_J25_eq, policy_right_J25_i, rRefuse, gI, gB, gS, gL, gC, aI, aB, aS, aL, AV.cells, hv]
  rw [policy_Check_eq]; unfold policy_Check_i
  have e : decide ((([rRefuse] : List AV).length : Int) > 64) = false := by decide
  rw [e, cond_f, policy_Check_L14_eq]
  refine for_list0 [rRefuse] (by decide) (policy_Check_L14_i [rRefuse] (([rRefuse] : List AV).length : Int) fun _ => some 0) (fun i nx => policy_Check_L14_b [rRefuse] (([rRefuse] : List AV).length : Int) i nx fun _ => some 0) (fun _ _ => rfl) (fun r => some 0) ?_ ?_
  · intro nx; simp [policy_Check_L14_b]
  · intro i y r nx h1 h2 h3 h4 h5
    have h6 : (i : Int) < (([rRefuse] : List AV).length : Int) := by omega
    have hy : y = rRefuse := by have := List.mem_of_getElem? h2; simpa using this
    subst hy
    have hf : fitC T_api_Rule rRefuse.cells = true := rfl
    unfold policy_Check_L14_b
    simp only [h6, decide_true, cond_t, ixB_nat, h2, oB_s, hf, hr, h4, h5]
    rfl
section
variable (q0 q1 q2 : Int) (q3 q4 q5 q6 q7 q8 q9 q10 : Bool) (q11 : Int) (q12 : List UInt8) (q13 : Int) (q14 q15 q16 : List AV)
variable (p0 p1 p2 : Int) (p3 p4 p5 p6 p7 p8 p9 p10 : Bool) (p11 : Int) (p12 : List UInt8) (p13 : Int) (p14 p15 p16 : List AV)
theorem awake26 : ddilaw26_awake = some true := by
  have hr1 : rulesFit [rRefuse] := fit_rfQ
  have nil : recsFit [] := recsFit_nil
  have hap : policy_Apply [rRefuse] (5 : Int) 0 0 false false false false false false false false 0 ([97, 46] : List UInt8) 1 [] [] [] (9 : Int) 0 0 false false false false false false false false 0 ([] : List UInt8) 0 [] [] [] = some (.agg [.int .i64 5, .int .i64 0, .int .i64 5, .bool true, .bool false, .bool false, .bool false, .bool false, .bool false, .bool false, .bool false, .int .i64 0, .str [97, 46], .int .i64 1, .sl 16 [], .sl 16 [], .sl 16 []]) := by
    rw [p_Apply _ _ _ _ _ _ _ _ _ _ _ _ _ _ _ _ _ _ _ _ _ _ _ _ _ _ _ _ _ _ _ _ _ _ _ hr1 (by unfold strOk; decide) nil]
    have e1 : trigI [rRefuse] [97, 46] [] = (0, true) := by decide +kernel
    rw [e1]
    show (actP _ _ _ _ _ _ _ _ _ _ _ _ _ _ _ _ _ _ _ _ _ _ _ _ _ _ _ _ _ _ _ _ _ _ rRefuse).map rb = _
    rw [act_eq _ _ _ _ _ _ _ _ _ _ _ _ _ _ _ _ _ _ _ _ _ _ _ _ _ _ _ _ _ _ _ _ _ _ rRefuse ⟨hr1.2 _ (by simp), ⟨by decide, by decide⟩, by decide⟩]
    unfold actR
    rw [ddiref26_Act_eq]
    unfold ddiref26_Act_i
    simp [rRefuse, ddiref26_Act_J13_eq, ddiref26_Act_J13_i, ddiref26_Act_J19_eq, ddiref26_Act_J19_i, ddiref08_Reply_eq, ddiref08_Reply_i, gI, gB, gS, gL, gC, aI, aB, aS, aL, AV.cells, rb]
  rw [ddilaw26_awake_eq]; unfold ddilaw26_awake_i
  simp only [p_refuseQ, oB_s, hap]
  have e2 := check_rf
  rw [e2]
  rfl
theorem law_PolicyApplies (l : List AV) (hl : rulesFit l) (hq : strOk q12) (h14 : recsFit2 p14) (h15 : recsFit p15) (h16 : recsFit p16) :
    ddilaw26_PolicyApplies l q0 q1 q2 q3 q4 q5 q6 q7 q8 q9 q10 q11 q12 q13 q14 q15 q16 p0 p1 p2 p3 p4 p5 p6 p7 p8 p9 p10 p11 p12 p13 p14 p15 p16 = some true := by
  rw [ddilaw26_PolicyApplies_eq]; unfold ddilaw26_PolicyApplies_i
  simp only [awake26, oB_s, Bool.not_true, cond_f, ddilaw26_PolicyApplies_J12_eq, ddilaw26_PolicyApplies_J12_i, p_small l hl, p_Check l hl]
  cases hs : smallB l
  · rfl
  · simp only [Bool.not_true, Bool.false_or]
    cases (decide ((q12.length : Int) > 300) || decide ((p14.length : Int) > 60))
    · by_cases hc : checkE l = 0
      · have e1 : (checkE l != 0) = false := by simpa using hc
        have hok := rules_ok hl hs hc
        simp only [cond_f, e1, p_Apply q0 q1 q2 q3 q4 q5 q6 q7 q8 q9 q10 q11 q12 q13 q14 q15 q16 p0 p1 p2 p3 p4 p5 p6 p7 p8 p9 p10 p11 p12 p13 p14 p15 p16 l hl hq (recsFit_2 h14), p_rApply q0 q1 q2 q3 q4 q5 q6 q7 q8 q9 q10 q11 q12 q13 q14 q15 q16 p0 p1 p2 p3 p4 p5 p6 p7 p8 p9 p10 p11 p12 p13 p14 p15 p16 l hl hq h14]
        have key : ∃ m, (bif (trigI l q12 p14).2 then (oB (l[(trigI l q12 p14).1.toNat]?) fun y => (actR q0 q1 q2 q3 q4 q5 q6 q7 q8 q9 q10 q11 q12 q13 q14 q15 q16 p0 p1 p2 p3 p4 p5 p6 p7 p8 p9 p10 p11 p12 p13 p14 p15 p16 y).map rb) else some (respM p0 p1 p2 p3 p4 p5 p6 p7 p8 p9 p10 p11 p12 p13 p14 p15 p16)) = some m ∧ (bif (trigI l q12 p14).2 then (oB (l[(trigI l q12 p14).1.toNat]?) fun y => (actP q0 q1 q2 q3 q4 q5 q6 q7 q8 q9 q10 q11 q12 q13 q14 q15 q16 p0 p1 p2 p3 p4 p5 p6 p7 p8 p9 p10 p11 p12 p13 p14 p15 p16 y).map rb) else some (respM p0 p1 p2 p3 p4 p5 p6 p7 p8 p9 p10 p11 p12 p13 p14 p15 p16)) = some m ∧ (∀ k, k = 14 ∨ k = 15 ∨ k = 16 → (gL m.cells k).length ≤ 9223372036854775807 ∧ ∀ y, y ∈ gL m.cells k → fitC T_api_Record y.cells = true) := by
          cases ht : (trigI l q12 p14).2
          · refine ⟨_, rfl, rfl, ?_⟩
            rintro k (rfl | rfl | rfl)
            · exact recsFit_plain (recsFit_2 h14)
            · exact recsFit_plain h15
            · exact recsFit_plain h16
          · obtain ⟨j, y, h1, h2⟩ := trigI_ix ht
            have hy := hok y (List.mem_of_getElem? h2)
            simp only [cond_t, h1, Int.toNat_natCast, h2, oB_s, act_eq q0 q1 q2 q3 q4 q5 q6 q7 q8 q9 q10 q11 q12 q13 q14 q15 q16 p0 p1 p2 p3 p4 p5 p6 p7 p8 p9 p10 p11 p12 p13 p14 p15 p16 y hy]
            obtain ⟨m, g1, g2⟩ := act_fit (gI y.cells 0) (gS y.cells 1) (gB y.cells 2) (gI y.cells 3) (gI y.cells 4) (gI y.cells 5) (gI y.cells 6) (gL y.cells 7) q0 q1 q2 q3 q4 q5 q6 q7 q8 q9 q10 q11 q12 q13 q14 q15 q16 p0 p1 p2 p3 p4 p5 p6 p7 p8 p9 p10 p11 p12 p13 p14 p15 p16 hy.1.2.2 hy.2.2 (recsFit_2 h14) h15 h16
            have g1' : actR q0 q1 q2 q3 q4 q5 q6 q7 q8 q9 q10 q11 q12 q13 q14 q15 q16 p0 p1 p2 p3 p4 p5 p6 p7 p8 p9 p10 p11 p12 p13 p14 p15 p16 y = some m := g1
            rw [g1']
            refine ⟨_, rfl, rfl, ?_⟩
            rintro k (rfl | rfl | rfl)
            · exact g2 14 (by simp)
            · exact g2 15 (by simp)
            · exact g2 16 (by simp)
        obtain ⟨m, k1, k2, k3⟩ := key
        rw [k1, k2]
        simp only [oB_s]
        rw [same_self m k3]
        rfl
      · have e1 : (checkE l != 0) = true := by simpa using hc
        simp only [cond_f, e1, cond_t]
    · rfl
end
end Go.Proofs.YthhnnlipnpfkcaaDoor.Dn
