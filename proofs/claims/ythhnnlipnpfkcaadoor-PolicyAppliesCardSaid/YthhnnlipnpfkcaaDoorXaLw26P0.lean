/- Policies: Apply, of the program and of the document. -/
import Derived.Test.YthhnnlipnpfkcaaDoorXaLw26Ap
import Derived.Test.YthhnnlipnpfkcaaDoorXaLw26T0
set_option linter.all false
namespace Go.Proofs.YthhnnlipnpfkcaaDoor.Dn
open Go Go.Pev
set_option linter.unusedVariables false
set_option linter.unusedSimpArgs false
set_option maxRecDepth 4000
def ruleOk (y : AV) : Prop := ruleFit y ∧ (1 ≤ gI y.cells 6 ∧ gI y.cells 6 ≤ 5) ∧ (gL y.cells 7).length ≤ 70
theorem check0 : ∀ l : List AV, checkF l = 0 → ∀ y, y ∈ l → ruleEY y = 0
  | [], _, y, hy => by simp at hy
  | x :: r, h, y, hy => by
    unfold checkF at h
    by_cases hx : ruleEY x = 0
    · rw [if_pos hx] at h
      rcases List.mem_cons.1 hy with rfl | hy
      · exact hx
      · exact check0 r h y hy
    · rw [if_neg hx] at h; exact absurd h hx
theorem rules_ok {l : List AV} (hl : rulesFit l) (hs : smallB l = true) (hc : checkE l = 0) : ∀ y, y ∈ l → ruleOk y := by
  intro y hy
  refine ⟨hl.2 y hy, ?_, ?_⟩
  · unfold checkE at hc
    split at hc
    · omega
    · have h3 : ruleEY y = 0 := check0 l hc y hy
      unfold ruleEY ruleE at h3
      cases he : (((decide (gI y.cells 0 < 1) || decide (gI y.cells 0 > 3)) || decide (gI y.cells 6 < 1)) || decide (gI y.cells 6 > 5)) with
      | true => rw [he] at h3; simp at h3
      | false => simp at he; omega
  · unfold smallB at hs
    simp only [Bool.and_eq_true, List.all_eq_true] at hs
    have := hs.2 y hy
    simp only [ruleSmall, Bool.and_eq_true, decide_eq_true_eq] at this
    exact this.1.2
theorem exF_ix (q : List UInt8) : ∀ (l : List AV) (i k : Nat), exF q i l = some k → i ≤ k ∧ k < i + l.length
  | [], i, k, h => by simp [exF] at h
  | y :: r, i, k, h => by
    simp only [exF] at h
    cases he : exB q y
    · rw [he] at h
      have := exF_ix q r (i + 1) k h
      simp; omega
    · rw [he] at h
      have : i = k := by simpa using h
      subst this
      simp
theorem bestF_ix (q : List UInt8) : ∀ (l : List AV) (i : Nat) (b m : Int), bestF q i b m l = (b, m) ∨ ((i : Int) ≤ (bestF q i b m l).1 ∧ (bestF q i b m l).1 < i + l.length)
  | [], i, b, m => .inl rfl
  | y :: r, i, b, m => by
    simp only [bestF, List.length_cons]
    cases (cand q y && decide (m < ((labelsF (gS y.cells 1)).length : Int)))
    · simp only [cond_f]
      rcases bestF_ix q r (i + 1) b m with h | h
      · exact .inl h
      · right; omega
    · simp only [cond_t]
      right
      rcases bestF_ix q r (i + 1) (i : Int) ((labelsF (gS y.cells 1)).length : Int) with h | h
      · rw [h]; simp only; omega
      · omega
theorem queryF_ix {l : List AV} {q : List UInt8} (h : (queryF l q).2 = true) : ∃ j y, (queryF l q).1 = (j : Nat) ∧ l[j]? = some y := by
  unfold queryF at h ⊢
  cases hx : exF q 0 l with
  | some k =>
    rw [hx] at h
    have := exF_ix q l 0 k hx
    exact ⟨k, l[k]'(by omega), rfl, by simp⟩
  | none =>
    rw [hx] at h
    simp only [packF, decide_eq_true_eq] at h ⊢
    rcases bestF_ix q l 0 0 (-1) with h1 | h1
    · rw [h1] at h; simp at h
    · have h2 : (bestF q 0 0 (-1) l).1.toNat < l.length := by omega
      exact ⟨(bestF q 0 0 (-1) l).1.toNat, l[(bestF q 0 0 (-1) l).1.toNat]'h2, by omega, by simp [h2]⟩
theorem respF_ix (rs : List AV) : ∀ (l : List AV) (i : Nat), (respF rs i l).2 = true → ∃ j y, (respF rs i l).1 = ((i + j : Nat) : Int) ∧ l[j]? = some y
  | [], i, h => by simp [respF] at h
  | y :: r, i, h => by
    simp only [respF] at h ⊢
    cases hc : ((gI y.cells 0 == 3) && rs.any (ansB y))
    · rw [hc] at h
      obtain ⟨j, z, h1, h2⟩ := respF_ix rs r (i + 1) h
      exact ⟨j + 1, z, by simp only [cond_f]; rw [h1]; congr 1; omega, by simpa using h2⟩
    · exact ⟨0, y, rfl, rfl⟩
theorem rule_st {y : AV} (h : fitC T_api_Rule y.cells = true) : fitV (.st T_api_Rule) (.agg [(.int .i64 (gI y.cells 0)), (.str (gS y.cells 1)), (.bool (gB y.cells 2)), (.int .u64 (gI y.cells 3)), (.int .u64 (gI y.cells 4)), (.int .i64 (gI y.cells 5)), (.int .i64 (gI y.cells 6)), (gC y.cells 7)]) = true := by
  unfold T_api_Rule at h
  obtain ⟨a, r1, e1, h1, h⟩ := fitC_cons h
  obtain ⟨b, r2, rfl, h2, h⟩ := fitC_cons h
  obtain ⟨c, r3, rfl, h3, h⟩ := fitC_cons h
  obtain ⟨d, r4, rfl, h4, h⟩ := fitC_cons h
  obtain ⟨e, r5, rfl, h5, h⟩ := fitC_cons h
  obtain ⟨f, r6, rfl, h6, h⟩ := fitC_cons h
  obtain ⟨g, r7, rfl, h7, h⟩ := fitC_cons h
  obtain ⟨k, r8, rfl, h8, h⟩ := fitC_cons h
  obtain rfl := fitC_nil h
  rw [e1]
  refine fitV_st ?_
  unfold T_api_Rule
  exact fitC_mk rfl (fitC_mk rfl (fitC_mk rfl (fitC_mk rfl (fitC_mk rfl (fitC_mk rfl (fitC_mk rfl (fitC_mk h8 rfl)))))))
def rb (r : AV) : AV := (.agg [(.int .i64 (gI r.cells 0)), (.int .i64 (gI r.cells 1)), (.int .i64 (gI r.cells 2)), (.bool (gB r.cells 3)), (.bool (gB r.cells 4)), (.bool (gB r.cells 5)), (.bool (gB r.cells 6)), (.bool (gB r.cells 7)), (.bool (gB r.cells 8)), (.bool (gB r.cells 9)), (.bool (gB r.cells 10)), (.int .i64 (gI r.cells 11)), (.str (gS r.cells 12)), (.int .i64 (gI r.cells 13)), (.sl 16 (gL r.cells 14)), (.sl 16 (gL r.cells 15)), (.sl 16 (gL r.cells 16))])
def trigI (l : List AV) (q : List UInt8) (rs : List AV) : Int × Bool := bif (queryF l q).2 then queryF l q else respF rs 0 l
theorem trigI_ix {l : List AV} {q : List UInt8} {rs : List AV} (h : (trigI l q rs).2 = true) : ∃ j y, (trigI l q rs).1 = (j : Nat) ∧ l[j]? = some y := by
  unfold trigI at h ⊢
  cases hq : (queryF l q).2
  · rw [hq] at h
    obtain ⟨j, y, h1, h2⟩ := respF_ix rs l 0 h
    exact ⟨j, y, by rw [cond_f, h1]; simp, h2⟩
  · exact queryF_ix hq
section
variable (q0 q1 q2 : Int) (q3 q4 q5 q6 q7 q8 q9 q10 : Bool) (q11 : Int) (q12 : List UInt8) (q13 : Int) (q14 q15 q16 : List AV)
variable (p0 p1 p2 : Int) (p3 p4 p5 p6 p7 p8 p9 p10 : Bool) (p11 : Int) (p12 : List UInt8) (p13 : Int) (p14 p15 p16 : List AV)
def respM : AV := (.agg [(.int .i64 p0), (.int .i64 p1), (.int .i64 p2), (.bool p3), (.bool p4), (.bool p5), (.bool p6), (.bool p7), (.bool p8), (.bool p9), (.bool p10), (.int .i64 p11), (.str p12), (.int .i64 p13), (.sl 16 p14), (.sl 16 p15), (.sl 16 p16)])
noncomputable def actP (y : AV) : Option AV := policy_Act (gI y.cells 0) (gS y.cells 1) (gB y.cells 2) (gI y.cells 3) (gI y.cells 4) (gI y.cells 5) (gI y.cells 6) (gL y.cells 7) q0 q1 q2 q3 q4 q5 q6 q7 q8 q9 q10 q11 q12 q13 q14 q15 q16 p0 p1 p2 p3 p4 p5 p6 p7 p8 p9 p10 p11 p12 p13 p14 p15 p16
noncomputable def actR (y : AV) : Option AV := ddiref26_Act (gI y.cells 0) (gS y.cells 1) (gB y.cells 2) (gI y.cells 3) (gI y.cells 4) (gI y.cells 5) (gI y.cells 6) (gL y.cells 7) q0 q1 q2 q3 q4 q5 q6 q7 q8 q9 q10 q11 q12 q13 q14 q15 q16 p0 p1 p2 p3 p4 p5 p6 p7 p8 p9 p10 p11 p12 p13 p14 p15 p16
theorem p_Apply (l : List AV) (hl : rulesFit l) (hq : strOk q12) (ha : recsFit p14) :
    policy_Apply l q0 q1 q2 q3 q4 q5 q6 q7 q8 q9 q10 q11 q12 q13 q14 q15 q16 p0 p1 p2 p3 p4 p5 p6 p7 p8 p9 p10 p11 p12 p13 p14 p15 p16 = (bif (trigI l q12 p14).2 then (oB (l[(trigI l q12 p14).1.toNat]?) fun y => (actP q0 q1 q2 q3 q4 q5 q6 q7 q8 q9 q10 q11 q12 q13 q14 q15 q16 p0 p1 p2 p3 p4 p5 p6 p7 p8 p9 p10 p11 p12 p13 p14 p15 p16 y).map rb) else some (respM p0 p1 p2 p3 p4 p5 p6 p7 p8 p9 p10 p11 p12 p13 p14 p15 p16)) := by
  rw [policy_Apply_eq]; unfold policy_Apply_i trigI
  simp only [p_Query l hl _ hq, oB_s]
  have one : ∀ y j, l[j]? = some y → ∀ i : Int, i = (j : Nat) → (oB (ixB l i) fun y2 => (bif fitC X_api_Rule y2.cells then (bif fitV (.st T_api_Rule) (.agg [(.int .i64 (gI y2.cells 0)), (.str (gS y2.cells 1)), (.bool (gB y2.cells 2)), (.int .u64 (gI y2.cells 3)), (.int .u64 (gI y2.cells 4)), (.int .i64 (gI y2.cells 5)), (.int .i64 (gI y2.cells 6)), (gC y2.cells 7)]) then (oB (policy_Act (gI y2.cells 0) (gS y2.cells 1) (gB y2.cells 2) (gI y2.cells 3) (gI y2.cells 4) (gI y2.cells 5) (gI y2.cells 6) (aL (gC y2.cells 7)) q0 q1 q2 q3 q4 q5 q6 q7 q8 q9 q10 q11 q12 q13 q14 q15 q16 p0 p1 p2 p3 p4 p5 p6 p7 p8 p9 p10 p11 p12 p13 p14 p15 p16) fun r => (some (.agg [(.int .i64 (gI r.cells 0)), (.int .i64 (gI r.cells 1)), (.int .i64 (gI r.cells 2)), (.bool (gB r.cells 3)), (.bool (gB r.cells 4)), (.bool (gB r.cells 5)), (.bool (gB r.cells 6)), (.bool (gB r.cells 7)), (.bool (gB r.cells 8)), (.bool (gB r.cells 9)), (.bool (gB r.cells 10)), (.int .i64 (gI r.cells 11)), (.str (gS r.cells 12)), (.int .i64 (gI r.cells 13)), (.sl 16 (gL r.cells 14)), (.sl 16 (gL r.cells 15)), (.sl 16 (gL r.cells 16))]))) else none) else none)) = (oB (l[i.toNat]?) fun y => (actP q0 q1 q2 q3 q4 q5 q6 q7 q8 q9 q10 q11 q12 q13 q14 q15 q16 p0 p1 p2 p3 p4 p5 p6 p7 p8 p9 p10 p11 p12 p13 p14 p15 p16 y).map rb) := by
    rintro y j hj i rfl
    have hy := (hl.2 y (List.mem_of_getElem? hj)).1
    simp only [ixB_nat, hj, oB_s, rule_x hy, rule_st hy, cond_t, Int.toNat_natCast]
    unfold actP
    show oB (policy_Act (gI y.cells 0) (gS y.cells 1) (gB y.cells 2) (gI y.cells 3) (gI y.cells 4) (gI y.cells 5) (gI y.cells 6) (gL y.cells 7) q0 q1 q2 q3 q4 q5 q6 q7 q8 q9 q10 q11 q12 q13 q14 q15 q16 p0 p1 p2 p3 p4 p5 p6 p7 p8 p9 p10 p11 p12 p13 p14 p15 p16) _ = _
    cases policy_Act (gI y.cells 0) (gS y.cells 1) (gB y.cells 2) (gI y.cells 3) (gI y.cells 4) (gI y.cells 5) (gI y.cells 6) (gL y.cells 7) q0 q1 q2 q3 q4 q5 q6 q7 q8 q9 q10 q11 q12 q13 q14 q15 q16 p0 p1 p2 p3 p4 p5 p6 p7 p8 p9 p10 p11 p12 p13 p14 p15 p16 <;> rfl
  cases hq2 : (queryF l q12).2
  · simp only [cond_f, p_Response l hl ha, oB_s]
    cases hr : (respF p14 0 l).2
    · rfl
    · obtain ⟨j, y, h1, h2⟩ := respF_ix p14 l 0 hr
      simp only [cond_t]
      exact one y j h2 _ (by rw [h1]; simp)
  · obtain ⟨j, y, h1, h2⟩ := queryF_ix hq2
    simp only [cond_t, hq2]
    exact one y j h2 _ h1
theorem p_rApply (l : List AV) (hl : rulesFit l) (hq : strOk q12) (ha : recsFit2 p14) :
    ddiref26_Apply l q0 q1 q2 q3 q4 q5 q6 q7 q8 q9 q10 q11 q12 q13 q14 q15 q16 p0 p1 p2 p3 p4 p5 p6 p7 p8 p9 p10 p11 p12 p13 p14 p15 p16 = (bif (trigI l q12 p14).2 then (oB (l[(trigI l q12 p14).1.toNat]?) fun y => (actR q0 q1 q2 q3 q4 q5 q6 q7 q8 q9 q10 q11 q12 q13 q14 q15 q16 p0 p1 p2 p3 p4 p5 p6 p7 p8 p9 p10 p11 p12 p13 p14 p15 p16 y).map rb) else some (respM p0 p1 p2 p3 p4 p5 p6 p7 p8 p9 p10 p11 p12 p13 p14 p15 p16)) := by
  rw [ddiref26_Apply_eq]; unfold ddiref26_Apply_i trigI
  simp only [p_rQuery l hl _ hq, oB_s]
  have one : ∀ y j, l[j]? = some y → ∀ i : Int, i = (j : Nat) → (oB (ixB l i) fun y2 => (bif fitC X_api_Rule y2.cells then (bif fitV (.st T_api_Rule) (.agg [(.int .i64 (gI y2.cells 0)), (.str (gS y2.cells 1)), (.bool (gB y2.cells 2)), (.int .u64 (gI y2.cells 3)), (.int .u64 (gI y2.cells 4)), (.int .i64 (gI y2.cells 5)), (.int .i64 (gI y2.cells 6)), (gC y2.cells 7)]) then (oB (ddiref26_Act (gI y2.cells 0) (gS y2.cells 1) (gB y2.cells 2) (gI y2.cells 3) (gI y2.cells 4) (gI y2.cells 5) (gI y2.cells 6) (aL (gC y2.cells 7)) q0 q1 q2 q3 q4 q5 q6 q7 q8 q9 q10 q11 q12 q13 q14 q15 q16 p0 p1 p2 p3 p4 p5 p6 p7 p8 p9 p10 p11 p12 p13 p14 p15 p16) fun r => (some (.agg [(.int .i64 (gI r.cells 0)), (.int .i64 (gI r.cells 1)), (.int .i64 (gI r.cells 2)), (.bool (gB r.cells 3)), (.bool (gB r.cells 4)), (.bool (gB r.cells 5)), (.bool (gB r.cells 6)), (.bool (gB r.cells 7)), (.bool (gB r.cells 8)), (.bool (gB r.cells 9)), (.bool (gB r.cells 10)), (.int .i64 (gI r.cells 11)), (.str (gS r.cells 12)), (.int .i64 (gI r.cells 13)), (.sl 16 (gL r.cells 14)), (.sl 16 (gL r.cells 15)), (.sl 16 (gL r.cells 16))]))) else none) else none)) = (oB (l[i.toNat]?) fun y => (actR q0 q1 q2 q3 q4 q5 q6 q7 q8 q9 q10 q11 q12 q13 q14 q15 q16 p0 p1 p2 p3 p4 p5 p6 p7 p8 p9 p10 p11 p12 p13 p14 p15 p16 y).map rb) := by
    rintro y j hj i rfl
    have hy := (hl.2 y (List.mem_of_getElem? hj)).1
    simp only [ixB_nat, hj, oB_s, rule_x hy, rule_st hy, cond_t, Int.toNat_natCast]
    unfold actR
    show oB (ddiref26_Act (gI y.cells 0) (gS y.cells 1) (gB y.cells 2) (gI y.cells 3) (gI y.cells 4) (gI y.cells 5) (gI y.cells 6) (gL y.cells 7) q0 q1 q2 q3 q4 q5 q6 q7 q8 q9 q10 q11 q12 q13 q14 q15 q16 p0 p1 p2 p3 p4 p5 p6 p7 p8 p9 p10 p11 p12 p13 p14 p15 p16) _ = _
    cases ddiref26_Act (gI y.cells 0) (gS y.cells 1) (gB y.cells 2) (gI y.cells 3) (gI y.cells 4) (gI y.cells 5) (gI y.cells 6) (gL y.cells 7) q0 q1 q2 q3 q4 q5 q6 q7 q8 q9 q10 q11 q12 q13 q14 q15 q16 p0 p1 p2 p3 p4 p5 p6 p7 p8 p9 p10 p11 p12 p13 p14 p15 p16 <;> rfl
  cases hq2 : (queryF l q12).2
  · simp only [cond_f, p_rResponse l hl ha, oB_s]
    cases hr : (respF p14 0 l).2
    · rfl
    · obtain ⟨j, y, h1, h2⟩ := respF_ix p14 l 0 hr
      simp only [cond_t]
      exact one y j h2 _ (by rw [h1]; simp)
  · obtain ⟨j, y, h1, h2⟩ := queryF_ix hq2
    simp only [cond_t, hq2]
    exact one y j h2 _ h1
theorem act_eq (y : AV) (hy : ruleOk y) : actP q0 q1 q2 q3 q4 q5 q6 q7 q8 q9 q10 q11 q12 q13 q14 q15 q16 p0 p1 p2 p3 p4 p5 p6 p7 p8 p9 p10 p11 p12 p13 p14 p15 p16 y = actR q0 q1 q2 q3 q4 q5 q6 q7 q8 q9 q10 q11 q12 q13 q14 q15 q16 p0 p1 p2 p3 p4 p5 p6 p7 p8 p9 p10 p11 p12 p13 p14 p15 p16 y :=
  p_Act _ _ _ _ _ _ _ _ q0 q1 q2 q3 q4 q5 q6 q7 q8 q9 q10 q11 q12 q13 q14 q15 q16 p0 p1 p2 p3 p4 p5 p6 p7 p8 p9 p10 p11 p12 p13 p14 p15 p16 hy.2.1 hy.1.2.2 hy.2.2
theorem recsFit_plain {l : List AV} (h : recsFit l) : l.length ≤ 9223372036854775807 ∧ ∀ y, y ∈ l → fitC T_api_Record y.cells = true := ⟨h.1, fun y hy => (h.2 y hy).1⟩
theorem same_self (m : AV) (h : ∀ k, k = 14 ∨ k = 15 ∨ k = 16 → (gL m.cells k).length ≤ 9223372036854775807 ∧ ∀ y, y ∈ gL m.cells k → fitC T_api_Record y.cells = true) : ddilaw26_same (gI m.cells 0) (gI m.cells 1) (gI m.cells 2) (gB m.cells 3) (gB m.cells 4) (gB m.cells 5) (gB m.cells 6) (gB m.cells 7) (gB m.cells 8) (gB m.cells 9) (gB m.cells 10) (gI m.cells 11) (gS m.cells 12) (gI m.cells 13) (gL m.cells 14) (gL m.cells 15) (gL m.cells 16) (gI m.cells 0) (gI m.cells 1) (gI m.cells 2) (gB m.cells 3) (gB m.cells 4) (gB m.cells 5) (gB m.cells 6) (gB m.cells 7) (gB m.cells 8) (gB m.cells 9) (gB m.cells 10) (gI m.cells 11) (gS m.cells 12) (gI m.cells 13) (gL m.cells 14) (gL m.cells 15) (gL m.cells 16) = some true :=
  p_same _ _ _ _ _ _ _ _ _ _ _ _ _ _ _ _ _ (h 14 (by simp)) (h 15 (by simp)) (h 16 (by simp))
end
end Go.Proofs.YthhnnlipnpfkcaaDoor.Dn
