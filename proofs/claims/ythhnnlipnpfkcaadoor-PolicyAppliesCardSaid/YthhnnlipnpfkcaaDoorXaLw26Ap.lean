/- What an action answers. -/
import Derived.Test.YthhnnlipnpfkcaaDoorXaLw26
set_option linter.all false
namespace Go.Proofs.YthhnnlipnpfkcaaDoor.Dn
open Go Go.Pev
set_option linter.unusedVariables false
set_option linter.unusedSimpArgs false
set_option maxRecDepth 4000
section
variable (a0 : Int) (a1 : List UInt8) (a2 : Bool) (a3 a4 a5 act : Int) (rs : List AV)
variable (q0 q1 q2 : Int) (q3 q4 q5 q6 q7 q8 q9 q10 : Bool) (q11 : Int) (q12 : List UInt8) (q13 : Int) (q14 q15 q16 : List AV)
variable (p0 p1 p2 : Int) (p3 p4 p5 p6 p7 p8 p9 p10 : Bool) (p11 : Int) (p12 : List UInt8) (p13 : Int) (p14 p15 p16 : List AV)
theorem p_Reply (c : Int) : packet_Reply q0 q1 q2 q3 q4 q5 q6 q7 q8 q9 q10 q11 q12 q13 q14 q15 q16 c = ddiref08_Reply q0 q1 q2 q3 q4 q5 q6 q7 q8 q9 q10 q11 q12 q13 q14 q15 q16 c := by
  rw [packet_Reply_eq, ddiref08_Reply_eq]; rfl
theorem reply_some (c : Int) : ∃ m, ddiref08_Reply q0 q1 q2 q3 q4 q5 q6 q7 q8 q9 q10 q11 q12 q13 q14 q15 q16 c = some m := by
  rw [ddiref08_Reply_eq]; unfold ddiref08_Reply_i
  cases (q11 != 0) <;> exact ⟨_, rfl⟩
theorem keq_int (a b : Int) : keq (.mk false [.i .i64]) (.int .i64 a) (.int .i64 b) = some (a == b) := by
  simp [keq, eqv, eqCells, eqLeaf]
theorem p_Act (ha : 1 ≤ act ∧ act ≤ 5) (hl : recsFit rs) (hb : rs.length ≤ 70) :
    policy_Act a0 a1 a2 a3 a4 a5 act rs q0 q1 q2 q3 q4 q5 q6 q7 q8 q9 q10 q11 q12 q13 q14 q15 q16 p0 p1 p2 p3 p4 p5 p6 p7 p8 p9 p10 p11 p12 p13 p14 p15 p16 =
    ddiref26_Act a0 a1 a2 a3 a4 a5 act rs q0 q1 q2 q3 q4 q5 q6 q7 q8 q9 q10 q11 q12 q13 q14 q15 q16 p0 p1 p2 p3 p4 p5 p6 p7 p8 p9 p10 p11 p12 p13 p14 p15 p16 := by
  rw [policy_Act_eq, ddiref26_Act_eq]; unfold policy_Act_i ddiref26_Act_i
  simp only [policy_Act_J5_eq, policy_Act_J5_i, ddiref26_Act_J13_eq, ddiref26_Act_J13_i, ddiref26_Act_J19_eq, ddiref26_Act_J19_i, p_Reply, p_plocal rs _ _ hl hb, p_typed rs _ _ hl hb, oB_s, mgB, keq_int, if_true]
  have : act = 1 ∨ act = 2 ∨ act = 3 ∨ act = 4 ∨ act = 5 := by omega
  rcases this with rfl | rfl | rfl | rfl | rfl
  · simp
  · simp [fitV, fitL, aI]
  · simp [fitV, fitL, aI]
  · simp only [fitV, fitL, aI]
    obtain ⟨m, hm⟩ := reply_some q0 q1 q2 q3 q4 q5 q6 q7 q8 q9 q10 q11 q12 q13 q14 q15 q16 0
    simp [hm, localF]
    by_cases h : typedF rs q13 q12 = []
    · simp [h]
    · have h2 : (((typedF rs q13 q12).length : Int) == 0) = false := by
        have := List.length_pos_iff.2 h
        simp; exact h
      simp [h, h2]
  · simp [fitV, fitL, aI]
theorem act_fit (hl : recsFit rs) (hb : rs.length ≤ 70) (h14 : recsFit p14) (h15 : recsFit p15) (h16 : recsFit p16) :
    ∃ m, ddiref26_Act a0 a1 a2 a3 a4 a5 act rs q0 q1 q2 q3 q4 q5 q6 q7 q8 q9 q10 q11 q12 q13 q14 q15 q16 p0 p1 p2 p3 p4 p5 p6 p7 p8 p9 p10 p11 p12 p13 p14 p15 p16 = some m ∧
      (∀ k, k = 14 ∨ k = 15 ∨ k = 16 → (gL m.cells k).length ≤ 9223372036854775807 ∧ ∀ y, y ∈ gL m.cells k → fitC T_api_Record y.cells = true) := by
  rw [ddiref26_Act_eq]; unfold ddiref26_Act_i
  simp only [ddiref26_Act_J13_eq, ddiref26_Act_J13_i, ddiref26_Act_J19_eq, ddiref26_Act_J19_i, p_typed rs _ _ hl hb, oB_s]
  by_cases h1 : act = 1
  · subst h1
    refine ⟨_, rfl, ?_⟩
    rintro k (rfl | rfl | rfl)
    · exact ⟨h14.1, fun y hy => (h14.2 y hy).1⟩
    · exact ⟨h15.1, fun y hy => (h15.2 y hy).1⟩
    · exact ⟨h16.1, fun y hy => (h16.2 y hy).1⟩
  · have e1 : (act == 1) = false := by simpa using h1
    simp only [e1, cond_f, co]
    have fin : ∀ c : Int, ∃ m : AV, (oB (ddiref08_Reply q0 q1 q2 q3 q4 q5 q6 q7 q8 q9 q10 q11 q12 q13 q14 q15 q16 c) fun r1 => (bif (act == (4 : Int)) then (bif (((typedF rs q13 q12).length : Int) == 0) then (some (AV.agg [(.int .i64 (gI r1.cells 0)), (.int .i64 (gI r1.cells 1)), (.int .i64 (gI r1.cells 2)), (.bool (gB r1.cells 3)), (.bool (gB r1.cells 4)), (.bool (gB r1.cells 5)), (.bool (gB r1.cells 6)), (.bool p7), (.bool (gB r1.cells 8)), (.bool (gB r1.cells 9)), (.bool (gB r1.cells 10)), (.int .i64 (gI r1.cells 11)), (.str (gS r1.cells 12)), (.int .i64 (gI r1.cells 13)), (.sl 16 (typedF rs 5 q12)), (.sl 16 ([] : List AV)), (.sl 16 ([] : List AV))])) else (some (AV.agg [(.int .i64 (gI r1.cells 0)), (.int .i64 (gI r1.cells 1)), (.int .i64 (gI r1.cells 2)), (.bool (gB r1.cells 3)), (.bool (gB r1.cells 4)), (.bool (gB r1.cells 5)), (.bool (gB r1.cells 6)), (.bool p7), (.bool (gB r1.cells 8)), (.bool (gB r1.cells 9)), (.bool (gB r1.cells 10)), (.int .i64 (gI r1.cells 11)), (.str (gS r1.cells 12)), (.int .i64 (gI r1.cells 13)), (.sl 16 (typedF rs q13 q12)), (.sl 16 ([] : List AV)), (.sl 16 ([] : List AV))]))) else (some (AV.agg [(.int .i64 (gI r1.cells 0)), (.int .i64 (gI r1.cells 1)), (.int .i64 (gI r1.cells 2)), (.bool (gB r1.cells 3)), (.bool (gB r1.cells 4)), (.bool (gB r1.cells 5)), (.bool (gB r1.cells 6)), (.bool p7), (.bool (gB r1.cells 8)), (.bool (gB r1.cells 9)), (.bool (gB r1.cells 10)), (.int .i64 (gI r1.cells 11)), (.str (gS r1.cells 12)), (.int .i64 (gI r1.cells 13)), (.sl 16 ([] : List AV)), (.sl 16 ([] : List AV)), (.sl 16 ([] : List AV))])))) = some m ∧
        (∀ k, k = 14 ∨ k = 15 ∨ k = 16 → (gL m.cells k).length ≤ 9223372036854775807 ∧ ∀ y, y ∈ gL m.cells k → fitC T_api_Record y.cells = true) := by
      intro c
      obtain ⟨r, hr⟩ := reply_some q0 q1 q2 q3 q4 q5 q6 q7 q8 q9 q10 q11 q12 q13 q14 q15 q16 c
      rw [hr, oB_s]
      have hT : ∀ t, (typedF rs t q12).length ≤ 9223372036854775807 := fun t => Nat.le_trans (typedF_len rs t q12) (by omega)
      have nil : ([] : List AV).length ≤ 9223372036854775807 ∧ ∀ y, y ∈ ([] : List AV) → fitC T_api_Record y.cells = true := by simp
      cases (act == (4 : Int))
      · refine ⟨_, rfl, ?_⟩
        rintro k (rfl | rfl | rfl) <;> exact nil
      · cases (((typedF rs q13 q12).length : Int) == 0)
        · refine ⟨_, rfl, ?_⟩
          rintro k (rfl | rfl | rfl)
          · exact ⟨hT _, typedF_fit _ _ _⟩
          · exact nil
          · exact nil
        · refine ⟨_, rfl, ?_⟩
          rintro k (rfl | rfl | rfl)
          · exact ⟨hT _, typedF_fit _ _ _⟩
          · exact nil
          · exact nil
    cases (act == (2 : Int)) <;> cases (act == (5 : Int)) <;> exact fin _
theorem p_same (h14 : p14.length ≤ 9223372036854775807 ∧ ∀ y, y ∈ p14 → fitC T_api_Record y.cells = true) (h15 : p15.length ≤ 9223372036854775807 ∧ ∀ y, y ∈ p15 → fitC T_api_Record y.cells = true) (h16 : p16.length ≤ 9223372036854775807 ∧ ∀ y, y ∈ p16 → fitC T_api_Record y.cells = true) :
    ddilaw26_same p0 p1 p2 p3 p4 p5 p6 p7 p8 p9 p10 p11 p12 p13 p14 p15 p16 p0 p1 p2 p3 p4 p5 p6 p7 p8 p9 p10 p11 p12 p13 p14 p15 p16 = some true := by
  rw [ddilaw26_same_eq]; unfold ddilaw26_same_i
  simp [p_records _ h14.1 h14.2, p_records _ h15.1 h15.2, p_records _ h16.1 h16.2]
end
end Go.Proofs.YthhnnlipnpfkcaaDoor.Dn
