/- Policies: Apply; the laws PolicyApplies, PolicyUntouched, PolicyReplaced. -/
import Derived.Test.YthhnnlipnpfkcaaDoorXuLw26Ap
import Derived.Test.YthhnnlipnpfkcaaDoorXuLw26C0
set_option linter.all false
namespace Go.Proofs.YthhnnlipnpfkcaaDoor.Dn
open Go Go.Pev
set_option linter.unusedVariables false
set_option linter.unusedSimpArgs false
set_option maxRecDepth 4000

def ruleOk (y : AV) : Prop := ruleFit y ∧ (1 ≤ gI y.cells 6 ∧ gI y.cells 6 ≤ 5) ∧ (gL y.cells 7).length ≤ 70
theorem check0 : ∀ l : List AV, checkF l = 0 → ∀ y, y ∈ l → ruleEY y = 0
  | [], _, y, hy => by simp at hy
  | x :: r, h, y, hy => by
    unfold checkF at h
    by_cases hx : ruleEY x = 0
    · rw [if_pos hx] at h
      rcases List.mem_cons.1 hy with rfl | hy
      · exact hx
      · exact check0 r h y hy
    · rw [if_neg hx] at h; exact absurd h hx
theorem rules_ok {l : List AV} (hl : rulesFit l) (hs : smallB l = true) (hc : checkE l = 0) : ∀ y, y ∈ l → ruleOk y := by
  intro y hy
  refine ⟨hl.2 y hy, ?_, ?_⟩
  · unfold checkE at hc
    split at hc
    · omega
    · have h3 : ruleEY y = 0 := check0 l hc y hy
      unfold ruleEY ruleE at h3
      cases he : (((decide (gI y.cells 0 < 1) || decide (gI y.cells 0 > 3)) || decide (gI y.cells 6 < 1)) || decide (gI y.cells 6 > 5)) with
      | true => rw [he] at h3; simp at h3
      | false => simp at he; omega
  · unfold smallB at hs
    simp only [Bool.and_eq_true, List.all_eq_true] at hs
    have := hs.2 y hy
    simp only [ruleSmall, Bool.and_eq_true, decide_eq_true_eq] at this
    exact this.1.2
theorem exF_ix (q : List UInt8) : ∀ (l : List AV) (i k : Nat), exF q i l = some k → i ≤ k ∧ k < i + l.length
  | [], i, k, h => by simp [exF] at h
  | y :: r, i, k, h => by
    simp only [exF] at h
    cases he : exB q y
    · rw [he] at h
      have := exF_ix q r (i + 1) k h
      simp; omega
    · rw [he] at h
      have : i = k := by simpa using h
      subst this
      simp
theorem bestF_ix (q : List UInt8) : ∀ (l : List AV) (i : Nat) (b m : Int), bestF q i b m l = (b, m) ∨ ((i : Int) ≤ (bestF q i b m l).1 ∧ (bestF q i b m l).1 < i + l.length)
  | [], i, b, m => .inl rfl
  | y :: r, i, b, m => by
    simp only [bestF, List.length_cons]
    cases (cand q y && decide (m < ((labelsF (gS y.cells 1)).length : Int)))
    · simp only [cond_f]
      rcases bestF_ix q r (i + 1) b m with h | h
      · exact .inl h
      · right; omega
    · simp only [cond_t]
      right
      rcases bestF_ix q r (i + 1) (i : Int) ((labelsF (gS y.cells 1)).length : Int) with h | h
      · rw [h]; simp only; omega
      · omega
theorem queryF_ix {l : List AV} {q : List UInt8} (h : (queryF l q).2 = true) : ∃ j y, (queryF l q).1 = (j : Nat) ∧ l[j]? = some y := by
  unfold queryF at h ⊢
  cases hx : exF q 0 l with
  | some k =>
    rw [hx] at h
    have := exF_ix q l 0 k hx
    exact ⟨k, l[k]'(by omega), rfl, by simp⟩
  | none =>
    rw [hx] at h
    simp only [packF, decide_eq_true_eq] at h ⊢
    rcases bestF_ix q l 0 0 (-1) with h1 | h1
    · rw [h1] at h; simp at h
    · have h2 : (bestF q 0 0 (-1) l).1.toNat < l.length := by omega
      exact ⟨(bestF q 0 0 (-1) l).1.toNat, l[(bestF q 0 0 (-1) l).1.toNat]'h2, by omega, by simp [h2]⟩
theorem respF_ix (rs : List AV) : ∀ (l : List AV) (i : Nat), (respF rs i l).2 = true → ∃ j y, (respF rs i l).1 = ((i + j : Nat) : Int) ∧ l[j]? = some y
  | [], i, h => by simp [respF] at h
  | y :: r, i, h => by
    simp only [respF] at h ⊢
    cases hc : ((gI y.cells 0 == 3) && rs.any (ansB y))
    · rw [hc] at h
      obtain ⟨j, z, h1, h2⟩ := respF_ix rs r (i + 1) h
      exact ⟨j + 1, z, by simp only [cond_f]; rw [h1]; congr 1; omega, by simpa using h2⟩
    · exact ⟨0, y, rfl, rfl⟩
theorem rule_st {y : AV} (h : fitC T_api_Rule y.cells = true) : fitV (.st T_api_Rule) (.agg [(.int .i64 (gI y.cells 0)), (.str (gS y.cells 1)), (.bool (gB y.cells 2)), (.int .u64 (gI y.cells 3)), (.int .u64 (gI y.cells 4)), (.int .i64 (gI y.cells 5)), (.int .i64 (gI y.cells 6)), (gC y.cells 7)]) = true := by
  unfold T_api_Rule at h
  obtain ⟨a, r1, e1, h1, h⟩ := fitC_cons h
  obtain ⟨b, r2, rfl, h2, h⟩ := fitC_cons h
  obtain ⟨c, r3, rfl, h3, h⟩ := fitC_cons h
  obtain ⟨d, r4, rfl, h4, h⟩ := fitC_cons h
  obtain ⟨e, r5, rfl, h5, h⟩ := fitC_cons h
  obtain ⟨f, r6, rfl, h6, h⟩ := fitC_cons h
  obtain ⟨g, r7, rfl, h7, h⟩ := fitC_cons h
  obtain ⟨k, r8, rfl, h8, h⟩ := fitC_cons h
  obtain rfl := fitC_nil h
  rw [e1]
  refine fitV_st ?_
  unfold T_api_Rule
  exact fitC_mk rfl (fitC_mk rfl (fitC_mk rfl (fitC_mk rfl (fitC_mk rfl (fitC_mk rfl (fitC_mk rfl (fitC_mk h8 rfl)))))))
def rb (r : AV) : AV := (.agg [(.int .i64 (gI r.cells 0)), (.int .i64 (gI r.cells 1)), (.int .i64 (gI r.cells 2)), (.bool (gB r.cells 3)), (.bool (gB r.cells 4)), (.bool (gB r.cells 5)), (.bool (gB r.cells 6)), (.bool (gB r.cells 7)), (.bool (gB r.cells 8)), (.bool (gB r.cells 9)), (.bool (gB r.cells 10)), (.int .i64 (gI r.cells 11)), (.str (gS r.cells 12)), (.int .i64 (gI r.cells 13)), (.sl 16 (gL r.cells 14)), (.sl 16 (gL r.cells 15)), (.sl 16 (gL r.cells 16))])
/-- The index of the rule that is triggered. -/
def trigI (l : List AV) (q : List UInt8) (rs : List AV) : Int × Bool := bif (queryF l q).2 then queryF l q else respF rs 0 l
section
variable (q0 q1 q2 : Int) (q3 q4 q5 q6 q7 q8 q9 q10 : Bool) (q11 : Int) (q12 : List UInt8) (q13 : Int) (q14 q15 q16 : List AV)
variable (p0 p1 p2 : Int) (p3 p4 p5 p6 p7 p8 p9 p10 : Bool) (p11 : Int) (p12 : List UInt8) (p13 : Int) (p14 p15 p16 : List AV)
def respM : AV := (.agg [(.int .i64 p0), (.int .i64 p1), (.int .i64 p2), (.bool p3), (.bool p4), (.bool p5), (.bool p6), (.bool p7), (.bool p8), (.bool p9), (.bool p10), (.int .i64 p11), (.str p12), (.int .i64 p13), (.sl 16 p14), (.sl 16 p15), (.sl 16 p16)])
noncomputable def actP (y : AV) : Option AV := policy_Act (gI y.cells 0) (gS y.cells 1) (gB y.cells 2) (gI y.cells 3) (gI y.cells 4) (gI y.cells 5) (gI y.cells 6) (gL y.cells 7) q0 q1 q2 q3 q4 q5 q6 q7 q8 q9 q10 q11 q12 q13 q14 q15 q16 p0 p1 p2 p3 p4 p5 p6 p7 p8 p9 p10 p11 p12 p13 p14 p15 p16
noncomputable def actR (y : AV) : Option AV := ddiref26_Act (gI y.cells 0) (gS y.cells 1) (gB y.cells 2) (gI y.cells 3) (gI y.cells 4) (gI y.cells 5) (gI y.cells 6) (gL y.cells 7) q0 q1 q2 q3 q4 q5 q6 q7 q8 q9 q10 q11 q12 q13 q14 q15 q16 p0 p1 p2 p3 p4 p5 p6 p7 p8 p9 p10 p11 p12 p13 p14 p15 p16
theorem p_Apply (l : List AV) (hl : rulesFit l) (hq : strOk q12) (ha : recsFit p14) :
    policy_Apply l q0 q1 q2 q3 q4 q5 q6 q7 q8 q9 q10 q11 q12 q13 q14 q15 q16 p0 p1 p2 p3 p4 p5 p6 p7 p8 p9 p10 p11 p12 p13 p14 p15 p16 = (bif (trigI l q12 p14).2 then (match l[(trigI l q12 p14).1.toNat]? with | some y => (actP q0 q1 q2 q3 q4 q5 q6 q7 q8 q9 q10 q11 q12 q13 q14 q15 q16 p0 p1 p2 p3 p4 p5 p6 p7 p8 p9 p10 p11 p12 p13 p14 p15 p16 y).map rb | none => none) else some (respM p0 p1 p2 p3 p4 p5 p6 p7 p8 p9 p10 p11 p12 p13 p14 p15 p16)) := by
  rw [policy_Apply_eq]; unfold policy_Apply_i trigI
  simp only [p_Query l hl _ hq, oB_s]
  have one : ∀ y j, l[j]? = some y → ∀ i : Int, i = (j : Nat) → (oB (ixB l i) fun y2 => (bif fitC X_api_Rule y2.cells then (bif fitV (.st T_api_Rule) (.agg [(.int .i64 (gI y2.cells 0)), (.str (gS y2.cells 1)), (.bool (gB y2.cells 2)), (.int .u64 (gI y2.cells 3)), (.int .u64 (gI y2.cells 4)), (.int .i64 (gI y2.cells 5)), (.int .i64 (gI y2.cells 6)), (gC y2.cells 7)]) then (oB (policy_Act (gI y2.cells 0) (gS y2.cells 1) (gB y2.cells 2) (gI y2.cells 3) (gI y2.cells 4) (gI y2.cells 5) (gI y2.cells 6) (aL (gC y2.cells 7)) q0 q1 q2 q3 q4 q5 q6 q7 q8 q9 q10 q11 q12 q13 q14 q15 q16 p0 p1 p2 p3 p4 p5 p6 p7 p8 p9 p10 p11 p12 p13 p14 p15 p16) fun r => (some (.agg [(.int .i64 (gI r.cells 0)), (.int .i64 (gI r.cells 1)), (.int .i64 (gI r.cells 2)), (.bool (gB r.cells 3)), (.bool (gB r.cells 4)), (.bool (gB r.cells 5)), (.bool (gB r.cells 6)), (.bool (gB r.cells 7)), (.bool (gB r.cells 8)), (.bool (gB r.cells 9)), (.bool (gB r.cells 10)), (.int .i64 (gI r.cells 11)), (.str (gS r.cells 12)), (.int .i64 (gI r.cells 13)), (.sl 16 (gL r.cells 14)), (.sl 16 (gL r.cells 15)), (.sl 16 (gL r.cells 16))]))) else none) else none)) = (match l[i.toNat]? with | some y => (actP q0 q1 q2 q3 q4 q5 q6 q7 q8 q9 q10 q11 q12 q13 q14 q15 q16 p0 p1 p2 p3 p4 p5 p6 p7 p8 p9 p10 p11 p12 p13 p14 p15 p16 y).map rb | none => none) := by
    rintro y j hj i rfl
    have hy := (hl.2 y (List.mem_of_getElem? hj)).1
    simp only [ixB_nat, hj, oB_s, rule_x hy, rule_st hy, cond_t, Int.toNat_natCast]
    unfold actP
    show oB (policy_Act (gI y.cells 0) (gS y.cells 1) (gB y.cells 2) (gI y.cells 3) (gI y.cells 4) (gI y.cells 5) (gI y.cells 6) (gL y.cells 7) q0 q1 q2 q3 q4 q5 q6 q7 q8 q9 q10 q11 q12 q13 q14 q15 q16 p0 p1 p2 p3 p4 p5 p6 p7 p8 p9 p10 p11 p12 p13 p14 p15 p16) _ = _
    cases policy_Act (gI y.cells 0) (gS y.cells 1) (gB y.cells 2) (gI y.cells 3) (gI y.cells 4) (gI y.cells 5) (gI y.cells 6) (gL y.cells 7) q0 q1 q2 q3 q4 q5 q6 q7 q8 q9 q10 q11 q12 q13 q14 q15 q16 p0 p1 p2 p3 p4 p5 p6 p7 p8 p9 p10 p11 p12 p13 p14 p15 p16 <;> rfl
  cases hq2 : (queryF l q12).2
  · simp only [cond_f, p_Response l hl ha, oB_s]
    cases hr : (respF p14 0 l).2
    · rfl
    · obtain ⟨j, y, h1, h2⟩ := respF_ix p14 l 0 hr
      simp only [cond_t]
      exact one y j h2 _ (by rw [h1]; simp)
  · obtain ⟨j, y, h1, h2⟩ := queryF_ix hq2
    simp only [cond_t, hq2]
    exact one y j h2 _ h1
theorem act_eq (y : AV) (hy : ruleOk y) : actP q0 q1 q2 q3 q4 q5 q6 q7 q8 q9 q10 q11 q12 q13 q14 q15 q16 p0 p1 p2 p3 p4 p5 p6 p7 p8 p9 p10 p11 p12 p13 p14 p15 p16 y = actR q0 q1 q2 q3 q4 q5 q6 q7 q8 q9 q10 q11 q12 q13 q14 q15 q16 p0 p1 p2 p3 p4 p5 p6 p7 p8 p9 p10 p11 p12 p13 p14 p15 p16 y :=
  p_Act _ _ _ _ _ _ _ _ q0 q1 q2 q3 q4 q5 q6 q7 q8 q9 q10 q11 q12 q13 q14 q15 q16 p0 p1 p2 p3 p4 p5 p6 p7 p8 p9 p10 p11 p12 p13 p14 p15 p16 hy.2.1 hy.1.2.2 hy.2.2
theorem awake26 : ddilaw26_awake = some true := by
  have hr1 : rulesFit [rRefuse] := rulesFit3_1 fit_rf
  have nil : recsFit [] := recsFit_nil
  have hap : policy_Apply [rRefuse] (5 : Int) 0 0 false false false false false false false false 0 ([97, 46] : List UInt8) 1 [] [] [] (9 : Int) 0 0 false false false false false false false false 0 ([] : List UInt8) 0 [] [] [] = some (.agg [.int .i64 5, .int .i64 0, .int .i64 5, .bool true, .bool false, .bool false, .bool false, .bool false, .bool false, .bool false, .bool false, .int .i64 0, .str [97, 46], .int .i64 1, .sl 16 [], .sl 16 [], .sl 16 []]) := by
    rw [p_Apply _ _ _ _ _ _ _ _ _ _ _ _ _ _ _ _ _ _ _ _ _ _ _ _ _ _ _ _ _ _ _ _ _ _ _ hr1 (by unfold strOk; decide) nil]
    have e1 : trigI [rRefuse] [97, 46] [] = (0, true) := by decide +kernel
    rw [e1]
    show (actP _ _ _ _ _ _ _ _ _ _ _ _ _ _ _ _ _ _ _ _ _ _ _ _ _ _ _ _ _ _ _ _ _ _ rRefuse).map rb = _
    rw [act_eq _ _ _ _ _ _ _ _ _ _ _ _ _ _ _ _ _ _ _ _ _ _ _ _ _ _ _ _ _ _ _ _ _ _ rRefuse ⟨hr1.2 _ (by simp), ⟨by decide, by decide⟩, by decide⟩]
    unfold actR
    rw [ddiref26_Act_eq]
    unfold ddiref26_Act_i
    simp [rRefuse, ddiref26_Act_J13_eq, ddiref26_Act_J13_i, ddiref26_Act_J19_eq, ddiref26_Act_J19_i, ddiref08_Reply_eq, ddiref08_Reply_i, gI, gB, gS, gL, gC, aI, aB, aS, aL, AV.cells, rb]
  rw [ddilaw26_awake_eq]; unfold ddilaw26_awake_i
  simp only [p_refuse, oB_s, hap]
  have e2 : policy_Check [rRefuse] = some 0 := by rw [p_pCheck26 _ fit_rf]; decide +kernel
  rw [e2]
  rfl
theorem recsFit_plain {l : List AV} (h : recsFit l) : l.length ≤ 9223372036854775807 ∧ ∀ y, y ∈ l → fitC T_api_Record y.cells = true := ⟨h.1, fun y hy => (h.2 y hy).1⟩
theorem law_PolicyUntouched (l : List AV) (hl : rulesFit3 l) (hq : strOk q12) (h14 : recsFit2 p14) (h15 : recsFit p15) (h16 : recsFit p16) :
    ddilaw26_PolicyUntouched l q0 q1 q2 q3 q4 q5 q6 q7 q8 q9 q10 q11 q12 q13 q14 q15 q16 p0 p1 p2 p3 p4 p5 p6 p7 p8 p9 p10 p11 p12 p13 p14 p15 p16 = some true := by
  have hl1 := rulesFit3_1 hl
  rw [ddilaw26_PolicyUntouched_eq]; unfold ddilaw26_PolicyUntouched_i
  simp only [awake26, oB_s, Bool.not_true, cond_f, ddilaw26_PolicyUntouched_J12_eq, ddilaw26_PolicyUntouched_J12_i, p_small l hl1, p_pCheck26 l hl]
  cases hs : smallB l
  · rfl
  · simp only [Bool.not_true, Bool.false_or]
    cases (decide ((q12.length : Int) > 300) || decide ((p14.length : Int) > 60))
    · by_cases hc : checkE l = 0
      · have e1 : (checkE l != 0) = false := by simpa using hc
        have hok := rules_ok hl1 hs hc
        simp only [cond_f, e1, p_Query l hl1 _ hq, p_Response l hl1 (recsFit_2 h14), oB_s, ddilaw26_PolicyUntouched_J24_eq, ddilaw26_PolicyUntouched_J24_i, p_Apply q0 q1 q2 q3 q4 q5 q6 q7 q8 q9 q10 q11 q12 q13 q14 q15 q16 p0 p1 p2 p3 p4 p5 p6 p7 p8 p9 p10 p11 p12 p13 p14 p15 p16 l hl1 hq (recsFit_2 h14)]
        have hself : ddilaw26_same p0 p1 p2 p3 p4 p5 p6 p7 p8 p9 p10 p11 p12 p13 p14 p15 p16 p0 p1 p2 p3 p4 p5 p6 p7 p8 p9 p10 p11 p12 p13 p14 p15 p16 = some true := p_same _ _ _ _ _ _ _ _ _ _ _ _ _ _ _ _ _ (recsFit_plain (recsFit_2 h14)) (recsFit_plain h15) (recsFit_plain h16)
        have hm : ∀ o : Option AV, o = some (respM p0 p1 p2 p3 p4 p5 p6 p7 p8 p9 p10 p11 p12 p13 p14 p15 p16) → (oB o fun m => (oB (ddilaw26_same (gI m.cells 0) (gI m.cells 1) (gI m.cells 2) (gB m.cells 3) (gB m.cells 4) (gB m.cells 5) (gB m.cells 6) (gB m.cells 7) (gB m.cells 8) (gB m.cells 9) (gB m.cells 10) (gI m.cells 11) (gS m.cells 12) (gI m.cells 13) (gL m.cells 14) (gL m.cells 15) (gL m.cells 16) p0 p1 p2 p3 p4 p5 p6 p7 p8 p9 p10 p11 p12 p13 p14 p15 p16) fun r7 => some r7)) = some true := by
          rintro _ rfl
          simp only [oB_s]
          show (oB (ddilaw26_same p0 p1 p2 p3 p4 p5 p6 p7 p8 p9 p10 p11 p12 p13 p14 p15 p16 p0 p1 p2 p3 p4 p5 p6 p7 p8 p9 p10 p11 p12 p13 p14 p15 p16) fun r7 => some r7) = some true
          rw [hself]; rfl
        cases hq2 : (queryF l q12).2
        · cases hr : (respF p14 0 l).2
          · simp only [Bool.not_false, Bool.and_self, cond_t]
            refine hm _ ?_
            have : (trigI l q12 p14).2 = false := by unfold trigI; rw [hq2, cond_f, hr]
            rw [this]; rfl
          · rfl
        · obtain ⟨j, y, g1, g2⟩ := queryF_ix hq2
          have hy := hok y (List.mem_of_getElem? g2)
          have hj : j < l.length := (List.getElem?_eq_some_iff.1 g2).1
          have d1 : decide ((queryF l q12).1 ≥ 0) = true := decide_eq_true (by omega)
          have d2 : decide ((queryF l q12).1 < (l.length : Int)) = true := decide_eq_true (by omega)
          simp only [Bool.not_true, Bool.false_and, cond_f, cond_t, d1, d2]
          rw [ixB_of g1, g2]
          simp only [oB_s, hy.1.1, cond_t]
          cases ha : (gI y.cells 6 == 1)
          · rfl
          · simp only [cond_t]
            refine hm _ ?_
            have ht : trigI l q12 p14 = queryF l q12 := by unfold trigI; rw [hq2, cond_t]
            rw [ht, hq2, g1]
            simp only [cond_t, Int.toNat_natCast, g2, act_eq q0 q1 q2 q3 q4 q5 q6 q7 q8 q9 q10 q11 q12 q13 q14 q15 q16 p0 p1 p2 p3 p4 p5 p6 p7 p8 p9 p10 p11 p12 p13 p14 p15 p16 y hy]
            unfold actR
            rw [ddiref26_Act_eq]; unfold ddiref26_Act_i
            rw [ha]; rfl
      · have e1 : (checkE l != 0) = true := by simpa using hc
        simp only [cond_f, e1, cond_t]
    · rfl
end
end Go.Proofs.YthhnnlipnpfkcaaDoor.Dn

