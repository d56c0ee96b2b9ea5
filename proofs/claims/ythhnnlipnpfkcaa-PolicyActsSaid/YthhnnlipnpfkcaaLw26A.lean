/- PolicyActs, plain. -/
import Derived.Test.YthhnnlipnpfkcaaLw26
set_option linter.all false
namespace Go.Proofs.Ythhnnlipnpfkcaa.Dn
open Go Go.Pev
set_option linter.unusedVariables false
set_option linter.unusedSimpArgs false
set_option maxRecDepth 4000

section
variable (a0 : Int) (a1 : List UInt8) (a2 : Bool) (a3 a4 a5 act : Int) (rs : List AV)
variable (q0 q1 q2 : Int) (q3 q4 q5 q6 q7 q8 q9 q10 : Bool) (q11 : Int) (q12 : List UInt8) (q13 : Int) (q14 q15 q16 : List AV)
variable (p0 p1 p2 : Int) (p3 p4 p5 p6 p7 p8 p9 p10 : Bool) (p11 : Int) (p12 : List UInt8) (p13 : Int) (p14 p15 p16 : List AV)

theorem p_Reply (c : Int) : packet_Reply q0 q1 q2 q3 q4 q5 q6 q7 q8 q9 q10 q11 q12 q13 q14 q15 q16 c = ddiref08_Reply q0 q1 q2 q3 q4 q5 q6 q7 q8 q9 q10 q11 q12 q13 q14 q15 q16 c := by
  rw [packet_Reply_eq, ddiref08_Reply_eq]; rfl
theorem reply_some (c : Int) : ∃ m, ddiref08_Reply q0 q1 q2 q3 q4 q5 q6 q7 q8 q9 q10 q11 q12 q13 q14 q15 q16 c = some m := by
  rw [ddiref08_Reply_eq]; unfold ddiref08_Reply_i
  cases (q11 != 0) <;> exact ⟨_, rfl⟩

theorem p_Act (ha : 1 ≤ act ∧ act ≤ 5) (hl : recsFit rs) (hb : rs.length ≤ 70) :
    policy_Act a0 a1 a2 a3 a4 a5 act rs q0 q1 q2 q3 q4 q5 q6 q7 q8 q9 q10 q11 q12 q13 q14 q15 q16 p0 p1 p2 p3 p4 p5 p6 p7 p8 p9 p10 p11 p12 p13 p14 p15 p16 =
    ddiref26_Act a0 a1 a2 a3 a4 a5 act rs q0 q1 q2 q3 q4 q5 q6 q7 q8 q9 q10 q11 q12 q13 q14 q15 q16 p0 p1 p2 p3 p4 p5 p6 p7 p8 p9 p10 p11 p12 p13 p14 p15 p16 := by
  rw [policy_Act_eq, ddiref26_Act_eq]; unfold policy_Act_i ddiref26_Act_i
  simp only [policy_Act_J5_eq, policy_Act_J5_i, ddiref26_Act_J13_eq, ddiref26_Act_J13_i, ddiref26_Act_J19_eq, ddiref26_Act_J19_i, p_Reply, p_plocal rs _ _ hl hb, p_typed rs _ _ hl hb, oB_s, mgB, if_true]
  have : act = 1 ∨ act = 2 ∨ act = 3 ∨ act = 4 ∨ act = 5 := by omega
  rcases this with rfl | rfl | rfl | rfl | rfl
  · simp
  · simp [fitV, fitL, aI]
  · simp [fitV, fitL, aI]
  · simp only [fitV, fitL, aI]
    obtain ⟨m, hm⟩ := reply_some q0 q1 q2 q3 q4 q5 q6 q7 q8 q9 q10 q11 q12 q13 q14 q15 q16 0
    simp [hm, localF]
    by_cases h : typedF rs q13 q12 = []
    · simp [h]
    · have h2 : (((typedF rs q13 q12).length : Int) == 0) = false := by
        have := List.length_pos_iff.2 h
        simp; exact h
      simp [h, h2]
  · simp [fitV, fitL, aI]

/-- What comes back has records that can be read. -/
theorem act_fit (hl : recsFit rs) (hb : rs.length ≤ 70) (h14 : recsFit p14) (h15 : recsFit p15) (h16 : recsFit p16) :
    ∃ m, ddiref26_Act a0 a1 a2 a3 a4 a5 act rs q0 q1 q2 q3 q4 q5 q6 q7 q8 q9 q10 q11 q12 q13 q14 q15 q16 p0 p1 p2 p3 p4 p5 p6 p7 p8 p9 p10 p11 p12 p13 p14 p15 p16 = some m ∧
      (∀ k, k = 14 ∨ k = 15 ∨ k = 16 → (gL m.cells k).length ≤ 9223372036854775807 ∧ ∀ y, y ∈ gL m.cells k → fitC T_api_Record y.cells = true) := by
  rw [ddiref26_Act_eq]; unfold ddiref26_Act_i
  simp only [ddiref26_Act_J13_eq, ddiref26_Act_J13_i, ddiref26_Act_J19_eq, ddiref26_Act_J19_i, p_typed rs _ _ hl hb, oB_s]
  by_cases h1 : act = 1
  · subst h1
    refine ⟨_, rfl, ?_⟩
    rintro k (rfl | rfl | rfl)
    · exact ⟨h14.1, fun y hy => (h14.2 y hy).1⟩
    · exact ⟨h15.1, fun y hy => (h15.2 y hy).1⟩
    · exact ⟨h16.1, fun y hy => (h16.2 y hy).1⟩
  · have e1 : (act == 1) = false := by simpa using h1
    simp only [e1, cond_f, co]
    have fin : ∀ c : Int, ∃ m : AV, (oB (ddiref08_Reply q0 q1 q2 q3 q4 q5 q6 q7 q8 q9 q10 q11 q12 q13 q14 q15 q16 c) fun r1 => (bif (act == (4 : Int)) then (bif (((typedF rs q13 q12).length : Int) == 0) then (some (AV.agg [(.int .i64 (gI r1.cells 0)), (.int .i64 (gI r1.cells 1)), (.int .i64 (gI r1.cells 2)), (.bool (gB r1.cells 3)), (.bool (gB r1.cells 4)), (.bool (gB r1.cells 5)), (.bool (gB r1.cells 6)), (.bool p7), (.bool (gB r1.cells 8)), (.bool (gB r1.cells 9)), (.bool (gB r1.cells 10)), (.int .i64 (gI r1.cells 11)), (.str (gS r1.cells 12)), (.int .i64 (gI r1.cells 13)), (.sl 16 (typedF rs 5 q12)), (.sl 16 ([] : List AV)), (.sl 16 ([] : List AV))])) else (some (AV.agg [(.int .i64 (gI r1.cells 0)), (.int .i64 (gI r1.cells 1)), (.int .i64 (gI r1.cells 2)), (.bool (gB r1.cells 3)), (.bool (gB r1.cells 4)), (.bool (gB r1.cells 5)), (.bool (gB r1.cells 6)), (.bool p7), (.bool (gB r1.cells 8)), (.bool (gB r1.cells 9)), (.bool (gB r1.cells 10)), (.int .i64 (gI r1.cells 11)), (.str (gS r1.cells 12)), (.int .i64 (gI r1.cells 13)), (.sl 16 (typedF rs q13 q12)), (.sl 16 ([] : List AV)), (.sl 16 ([] : List AV))]))) else (some (AV.agg [(.int .i64 (gI r1.cells 0)), (.int .i64 (gI r1.cells 1)), (.int .i64 (gI r1.cells 2)), (.bool (gB r1.cells 3)), (.bool (gB r1.cells 4)), (.bool (gB r1.cells 5)), (.bool (gB r1.cells 6)), (.bool p7), (.bool (gB r1.cells 8)), (.bool (gB r1.cells 9)), (.bool (gB r1.cells 10)), (.int .i64 (gI r1.cells 11)), (.str (gS r1.cells 12)), (.int .i64 (gI r1.cells 13)), (.sl 16 ([] : List AV)), (.sl 16 ([] : List AV)), (.sl 16 ([] : List AV))])))) = some m ∧
        (∀ k, k = 14 ∨ k = 15 ∨ k = 16 → (gL m.cells k).length ≤ 9223372036854775807 ∧ ∀ y, y ∈ gL m.cells k → fitC T_api_Record y.cells = true) := by
      intro c
      obtain ⟨r, hr⟩ := reply_some q0 q1 q2 q3 q4 q5 q6 q7 q8 q9 q10 q11 q12 q13 q14 q15 q16 c
      rw [hr, oB_s]
      have hT : ∀ t, (typedF rs t q12).length ≤ 9223372036854775807 := fun t => Nat.le_trans (typedF_len rs t q12) (by omega)
      have nil : ([] : List AV).length ≤ 9223372036854775807 ∧ ∀ y, y ∈ ([] : List AV) → fitC T_api_Record y.cells = true := by simp
      cases (act == (4 : Int))
      · refine ⟨_, rfl, ?_⟩
        rintro k (rfl | rfl | rfl) <;> exact nil
      · cases (((typedF rs q13 q12).length : Int) == 0)
        · refine ⟨_, rfl, ?_⟩
          rintro k (rfl | rfl | rfl)
          · exact ⟨hT _, typedF_fit _ _ _⟩
          · exact nil
          · exact nil
        · refine ⟨_, rfl, ?_⟩
          rintro k (rfl | rfl | rfl)
          · exact ⟨hT _, typedF_fit _ _ _⟩
          · exact nil
          · exact nil
    cases (act == (2 : Int)) <;> cases (act == (5 : Int)) <;> exact fin _

theorem p_same (h14 : p14.length ≤ 9223372036854775807 ∧ ∀ y, y ∈ p14 → fitC T_api_Record y.cells = true) (h15 : p15.length ≤ 9223372036854775807 ∧ ∀ y, y ∈ p15 → fitC T_api_Record y.cells = true) (h16 : p16.length ≤ 9223372036854775807 ∧ ∀ y, y ∈ p16 → fitC T_api_Record y.cells = true) :
    ddilaw26_same p0 p1 p2 p3 p4 p5 p6 p7 p8 p9 p10 p11 p12 p13 p14 p15 p16 p0 p1 p2 p3 p4 p5 p6 p7 p8 p9 p10 p11 p12 p13 p14 p15 p16 = some true := by
  rw [ddilaw26_same_eq]; unfold ddilaw26_same_i
  simp [p_records _ h14.1 h14.2, p_records _ h15.1 h15.2, p_records _ h16.1 h16.2]

theorem law_PolicyActs (hn : strOk a1) (hl : recsFit rs) (h14 : recsFit p14) (h15 : recsFit p15) (h16 : recsFit p16) :
    ddilaw26_PolicyActs a0 a1 a2 a3 a4 a5 act rs q0 q1 q2 q3 q4 q5 q6 q7 q8 q9 q10 q11 q12 q13 q14 q15 q16 p0 p1 p2 p3 p4 p5 p6 p7 p8 p9 p10 p11 p12 p13 p14 p15 p16 = some true := by
  rw [ddilaw26_PolicyActs_eq]; unfold ddilaw26_PolicyActs_i
  have nil : recsFit [] := ⟨by simp, by simp⟩
  -- the small case
  have h0 : policy_Act 1 ([97, 46] : List UInt8) false (0 : Int) (0 : Int) (0 : Int) (2 : Int) ([] : List AV) (5 : Int) (0 : Int) (0 : Int) false false false false false false false false (0 : Int) ([] : List UInt8) (0 : Int) ([] : List AV) ([] : List AV) ([] : List AV) (0 : Int) (0 : Int) (0 : Int) false false false false true false false false (0 : Int) ([] : List UInt8) (0 : Int) ([] : List AV) ([] : List AV) ([] : List AV) =
      some (.agg [.int .i64 5, .int .i64 0, .int .i64 3, .bool true, .bool false, .bool false, .bool false, .bool true, .bool false, .bool false, .bool false, .int .i64 0, .str [], .int .i64 0, .sl 16 [], .sl 16 [], .sl 16 []]) := by
    rw [p_Act _ _ _ _ _ _ _ _ _ _ _ _ _ _ _ _ _ _ _ _ _ _ _ _ _ _ _ _ _ _ _ _ _ _ _ _ _ _ _ _ _ _ (by omega) nil (by simp), ddiref26_Act_eq]
    unfold ddiref26_Act_i
    simp [ddiref26_Act_J13_eq, ddiref26_Act_J13_i, ddiref26_Act_J19_eq, ddiref26_Act_J19_i, ddiref08_Reply_eq, ddiref08_Reply_i, gI, gB, gS, gC, aI, aB, aS, AV.cells]
  rw [h0, oB_s]
  have e0 : ((((gI (AV.agg [.int .i64 5, .int .i64 0, .int .i64 3, .bool true, .bool false, .bool false, .bool false, .bool true, .bool false, .bool false, .bool false, .int .i64 0, .str [], .int .i64 0, .sl 16 [], .sl 16 [], .sl 16 []]).cells 0) != (5 : Int)) || ((gI (AV.agg [.int .i64 5, .int .i64 0, .int .i64 3, .bool true, .bool false, .bool false, .bool false, .bool true, .bool false, .bool false, .bool false, .int .i64 0, .str [], .int .i64 0, .sl 16 [], .sl 16 [], .sl 16 []]).cells 2) != (3 : Int))) || (!(gB (AV.agg [.int .i64 5, .int .i64 0, .int .i64 3, .bool true, .bool false, .bool false, .bool false, .bool true, .bool false, .bool false, .bool false, .int .i64 0, .str [], .int .i64 0, .sl 16 [], .sl 16 [], .sl 16 []]).cells 7))) = false := by
    simp [gI, gB, gC, aI, aB, AV.cells]
  rw [e0, cond_f]
  rw [ddilaw26_PolicyActs_J14_eq]; unfold ddilaw26_PolicyActs_J14_i
  generalize hy : (AV.agg [(.int .i64 a0), (.str a1), (.bool a2), (.int .u64 a3), (.int .u64 a4), (.int .i64 a5), (.int .i64 act), (.sl 16 rs)]) = y
  have hfit : rulesFit [y] := by
    refine ⟨by simp, fun z hz => ?_⟩
    simp at hz; subst hz; subst hy
    exact ⟨rfl, hn, hl⟩
  simp only [p_small _ hfit, p_Check _ hfit, oB_s, List.length_singleton, hd_one, cond_t]
  cases hs : smallB [y]
  · simp
  · by_cases hc : checkE [y] = 0
    · have hb : rs.length ≤ 70 := by
        subst hy
        simp only [smallB, List.all_cons, ruleSmall, Bool.and_eq_true, decide_eq_true_eq] at hs
        exact hs.2.1.1.2
      have hact : 1 ≤ act ∧ act ≤ 5 := by
        simp only [checkE, List.length_singleton, checkF] at hc
        rw [if_neg (by omega)] at hc
        have h2 : ruleEY y = 0 := by
          by_cases h : ruleEY y = 0
          · exact h
          · rw [if_neg h] at hc; exact hc
        subst hy
        have h3 : ruleE a0 a1 a2 a3 a4 a5 act rs = 0 := h2
        unfold ruleE at h3
        cases he : (((decide (a0 < 1) || decide (a0 > 3)) || decide (act < 1)) || decide (act > 5)) with
        | true => rw [he] at h3; simp at h3
        | false => simp at he; omega
      obtain ⟨m, h1, h2⟩ := act_fit a0 a1 a2 a3 a4 a5 act rs q0 q1 q2 q3 q4 q5 q6 q7 q8 q9 q10 q11 q12 q13 q14 q15 q16 p0 p1 p2 p3 p4 p5 p6 p7 p8 p9 p10 p11 p12 p13 p14 p15 p16 hl hb h14 h15 h16
      have e1 : (checkE [y] != 0) = false := by simpa using hc
      simp only [Bool.not_true, cond_f, e1, p_Act _ _ _ _ _ _ _ _ _ _ _ _ _ _ _ _ _ _ _ _ _ _ _ _ _ _ _ _ _ _ _ _ _ _ _ _ _ _ _ _ _ _ hact hl hb, h1, oB_s]
      rw [p_same _ _ _ _ _ _ _ _ _ _ _ _ _ _ _ _ _ (h2 14 (by simp)) (h2 15 (by simp)) (h2 16 (by simp))]
      rfl
    · have e1 : (checkE [y] != 0) = true := by simpa using hc
      simp [e1]
end

end Go.Proofs.Ythhnnlipnpfkcaa.Dn
