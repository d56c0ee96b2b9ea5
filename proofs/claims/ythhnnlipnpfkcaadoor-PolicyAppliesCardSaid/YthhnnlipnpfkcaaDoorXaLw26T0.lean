/- Policies: which rule is triggered. -/
import Derived.Test.YthhnnlipnpfkcaaDoorXaLw26s
import Derived.Test.YthhnnlipnpfkcaaDoorXaLw01u
import Derived.Test.YthhnnlipnpfkcaaDoorXaLw03p
set_option linter.all false
namespace Go.Proofs.YthhnnlipnpfkcaaDoor.Dn
open Go Go.Pev
set_option linter.unusedVariables false
set_option linter.unusedSimpArgs false
set_option maxRecDepth 4000
theorem rule_x {y : AV} (h : fitC T_api_Rule y.cells = true) : fitC X_api_Rule y.cells = true := by
  unfold T_api_Rule at h
  obtain ⟨a, r1, e1, h1, h⟩ := fitC_cons h
  obtain ⟨b, r2, rfl, h2, h⟩ := fitC_cons h
  obtain ⟨c, r3, rfl, h3, h⟩ := fitC_cons h
  obtain ⟨d, r4, rfl, h4, h⟩ := fitC_cons h
  obtain ⟨e, r5, rfl, h5, h⟩ := fitC_cons h
  obtain ⟨f, r6, rfl, h6, h⟩ := fitC_cons h
  obtain ⟨g, r7, rfl, h7, h⟩ := fitC_cons h
  obtain ⟨k, r8, rfl, h8, h⟩ := fitC_cons h
  obtain rfl := fitC_nil h
  rw [e1]
  unfold X_api_Rule
  exact fitC_mk h1 (fitC_mk h2 (fitC_mk h3 (fitC_mk h4 (fitC_mk h5 (fitC_mk h6 (fitC_mk h7 (fitC_mk (fitL_op_sl h8) rfl)))))))
def exB (q : List UInt8) (y : AV) : Bool := (gI y.cells 0 == 1) && (gS y.cells 1 == q)
def exF (q : List UInt8) : Nat → List AV → Option Nat
  | _, [] => none
  | i, y :: r => bif exB q y then some i else exF q (i + 1) r
def cand (q : List UInt8) (y : AV) : Bool := (gI y.cells 0 == 2) && (!(gS y.cells 1 == q) && underB q (gS y.cells 1))
def bestF (q : List UInt8) : Nat → Int → Int → List AV → Int × Int
  | _, b, m, [] => (b, m)
  | i, b, m, y :: r => bif cand q y && decide (m < (labelsF (gS y.cells 1)).length) then bestF q (i + 1) i (labelsF (gS y.cells 1)).length r else bestF q (i + 1) b m r
theorem bestF_pos (q : List UInt8) : ∀ (l : List AV) (i : Nat) (b m : Int), 0 ≤ b → 0 ≤ m → 0 ≤ (bestF q i b m l).1 ∧ 0 ≤ (bestF q i b m l).2
  | [], i, b, m, h1, h2 => ⟨h1, h2⟩
  | y :: r, i, b, m, h1, h2 => by
    unfold bestF
    cases (cand q y && decide (m < ((labelsF (gS y.cells 1)).length : Int)))
    · exact bestF_pos q r _ _ _ h1 h2
    · exact bestF_pos q r _ _ _ (by omega) (by omega)
theorem bestF_rel (q : List UInt8) : ∀ (l : List AV) (i : Nat), (bestF q i 0 (-1) l = (0, -1) ∧ bestF q i (-1) (-1) l = (-1, -1)) ∨ (bestF q i 0 (-1) l = bestF q i (-1) (-1) l ∧ 0 ≤ (bestF q i (-1) (-1) l).1 ∧ 0 ≤ (bestF q i (-1) (-1) l).2)
  | [], i => .inl ⟨rfl, rfl⟩
  | y :: r, i => by
    unfold bestF
    have : decide ((-1 : Int) < ((labelsF (gS y.cells 1)).length : Int)) = true := decide_eq_true (by omega)
    rw [this, Bool.and_true]
    cases cand q y
    · exact bestF_rel q r (i + 1)
    · right
      refine ⟨rfl, ?_⟩
      exact bestF_pos q r _ _ _ (by omega) (by omega)
def packF (o : Option Nat) (p : Int × Int) : Int × Bool := match o with
  | some k => ((k : Int), true)
  | none => (p.1, decide (p.2 ≥ 0))
def queryF (l : List AV) (q : List UInt8) : Int × Bool := packF (exF q 0 l) (bestF q 0 0 (-1) l)
theorem p_Query (l : List AV) (hl : rulesFit l) (q : List UInt8) (hq : strOk q) (t : Int) : policy_Query l q t = some (queryF l q) := by
  rw [policy_Query_eq]; unfold policy_Query_i
  rw [policy_Query_L8_eq]
  have key := for_list l hl.1 (fun n i (s : Int × Int) => policy_Query_L8_i l (l.length : Int) q t (fun v6 v7 => (some (v6, (decide (v7 ≥ 0))))) n s.1 s.2 i) (fun i s nx => policy_Query_L8_b s.1 s.2 l (l.length : Int) i q t (fun a b c => nx c (a, b)) (fun v6 v7 => (some (v6, (decide (v7 ≥ 0)))))) (fun _ _ _ => rfl)
    (fun _ _ => True) (fun r s => some (packF (exF q (l.length - r.length) r) (bestF q (l.length - r.length) s.1 s.2 r))) ?_ ?_ (0, -1) FU trivial (FU_big (by have := hl.1; omega))
  · simp only [Nat.sub_self] at key
    exact key
  · intro s nx _; simp [policy_Query_L8_b, exF, bestF, packF]
  · intro i y r s nx h1 h2 h3 h4 _ h5
    have hy := hl.2 y (List.mem_of_getElem? h2)
    have h6 : (i : Int) < (l.length : Int) := by omega
    have hr : r.length = l.length - (i + 1) := by
      have := congrArg List.length h1
      simp at this; omega
    have e1 : l.length - r.length = i + 1 := by omega
    have e2 : l.length - (y :: r).length = i := by simp; omega
    have ll : ∀ z, (avS (labelsF z)).length = (labelsF z).length := fun z => by simp [avS]
    unfold policy_Query_L8_b
    simp only [h6, decide_true, cond_t, ixB_nat, h2, oB_s, hy.1, policy_Query_J27_eq, policy_Query_J27_i, p_Under _ _ hq hy.2.1, p_Labels _ hy.2.1, ll, h4, h5 _ trivial, e1, e2]
    simp only [exF, bestF]
    show (bif exB q y then _ else _) = _
    cases hex : exB q y
    · simp only [cond_f]
      have hc : cand q y = (((gI y.cells 0 == 2) && !(gS y.cells 1 == q)) && underB q (gS y.cells 1)) := by unfold cand; rw [Bool.and_assoc]
      rw [hc]
      cases ((gI y.cells 0 == 2) && !(gS y.cells 1 == q))
      · rfl
      · cases underB q (gS y.cells 1)
        · rfl
        · simp only [cond_t, Bool.and_self, Bool.true_and, gt_iff_lt]
          cases decide (s.2 < ((labelsF (gS y.cells 1)).length : Int)) <;> rfl
    · rfl
def endF (p : Int × Int) : Option (Int × Bool) := bif decide (p.1 < 0) then some ((0 : Int), false) else some (p.1, true)
theorem p_rQuery (l : List AV) (hl : rulesFit l) (q : List UInt8) (hq : strOk q) (t : Int) : ddiref26_Query l q t = some (queryF l q) := by
  rw [ddiref26_Query_eq]; unfold ddiref26_Query_i
  have l2 : ddiref26_Query_L31 l q t (fun v7 => (bif (decide (v7 < 0)) then (some ((0 : Int), false)) else (some (v7, true)))) FU (-1) (-1) 0 = some ((bestF q 0 0 (-1) l).1, decide ((bestF q 0 0 (-1) l).2 ≥ 0)) := by
    rw [ddiref26_Query_L31_eq]
    have key := for_list l hl.1 (fun n i (s : Int × Int) => ddiref26_Query_L31_i l q t (fun v7 => (bif (decide (v7 < 0)) then (some ((0 : Int), false)) else (some (v7, true)))) n s.1 s.2 i) (fun i s nx => ddiref26_Query_L31_b l s.1 s.2 i q t (fun a b c => nx c (a, b)) (fun v7 => (bif (decide (v7 < 0)) then (some ((0 : Int), false)) else (some (v7, true))))) (fun _ _ _ => rfl)
      (fun _ _ => True) (fun r s => endF (bestF q (l.length - r.length) s.1 s.2 r)) ?_ ?_ (-1, -1) FU trivial (FU_big (by have := hl.1; omega))
    · simp only [Nat.sub_self] at key
      refine key.trans ?_
      rcases bestF_rel q l 0 with ⟨a1, a2⟩ | ⟨a1, a2, a3⟩
      · rw [a1, a2]; rfl
      · unfold endF
        rw [a1]
        have d1 : decide ((bestF q 0 (-1) (-1) l).1 < 0) = false := decide_eq_false (by omega)
        have d2 : decide ((bestF q 0 (-1) (-1) l).2 ≥ 0) = true := decide_eq_true a3
        simp only [d1, d2, cond_f]
    · intro s nx _
      have : decide ((l.length : Int) < (l.length : Int)) = false := decide_eq_false (by omega)
      unfold ddiref26_Query_L31_b
      rw [this]; rfl
    · intro i y r s nx h1 h2 h3 h4 _ h5
      have hy := hl.2 y (List.mem_of_getElem? h2)
      have h6 : (i : Int) < (l.length : Int) := by omega
      have hr : r.length = l.length - (i + 1) := by
        have := congrArg List.length h1
        simp at this; omega
      have e1 : l.length - r.length = i + 1 := by omega
      have e2 : l.length - (y :: r).length = i := by simp; omega
      have ll : ∀ z, (avS (labelsF z)).length = (labelsF z).length := fun z => by simp [avS]
      unfold ddiref26_Query_L31_b
      simp only [h6, decide_true, cond_t, ixB_nat, h2, oB_s, hy.1, rule_x hy.1, ddiref26_Query_J42_eq, ddiref26_Query_J42_i, p_rUnder _ _ hq hy.2.1, p_rLabels _ hy.2.1, ll, h4, h5 _ trivial, e1, e2]
      simp only [bestF]
      unfold cand
      have hne : (gI y.cells 0 != 2) = !(gI y.cells 0 == 2) := rfl
      rw [hne]
      cases (gI y.cells 0 == 2)
      · rfl
      · cases (gS y.cells 1 == q)
        · cases underB q (gS y.cells 1)
          · rfl
          · simp only [cond_t, cond_f, Bool.not_true, Bool.not_false, Bool.and_self, Bool.true_and, gt_iff_lt]
            cases decide (s.2 < ((labelsF (gS y.cells 1)).length : Int)) <;> rfl
        · rfl
  rw [l2, ddiref26_Query_L6_eq, for_idx l hl.1 (ddiref26_Query_L6_i l q t _) (fun i nx => ddiref26_Query_L6_b l i q t nx _) (fun _ _ => rfl) (fun i r => match exF q i r with | some k => some ((k : Int), true) | none => some ((bestF q 0 0 (-1) l).1, decide ((bestF q 0 0 (-1) l).2 ≥ 0)))]
  · unfold queryF
    cases exF q 0 l <;> rfl
  · intro nx; simp [ddiref26_Query_L6_b, exF]
  · intro i y r nx h1 h2 h3 h4 h5
    have hy := hl.2 y (List.mem_of_getElem? h2)
    have h6 : (i : Int) < (l.length : Int) := by omega
    unfold ddiref26_Query_L6_b
    simp only [h6, decide_true, cond_t, ixB_nat, h2, oB_s, rule_x hy.1, h4, h5]
    simp only [exF]
    unfold exB
    cases (gI y.cells 0 == 1)
    · rfl
    · cases (gS y.cells 1 == q) <;> rfl
def recFit2 (y : AV) : Prop := recFit y ∧ uok (gI y.cells 4) ∧ uok (gI y.cells 5)
def recsFit2 (l : List AV) : Prop := l.length ≤ 9223372036854775807 ∧ ∀ y, y ∈ l → recFit2 y
theorem recsFit2_of {l : List AV} (h : l.length ≤ 9223372036854775807 ∧ ∀ y, y ∈ l → fitC tyRec.lts y.cells = true ∧ tyRec.good y.cells 0) : recsFit2 l :=
  ⟨h.1, fun y hy => ⟨recFit_of (h.2 y hy).1 (h.2 y hy).2, (h.2 y hy).2.2.2.2.1.1.2.1, (h.2 y hy).2.2.2.2.1.1.2.2.1⟩⟩
def ansB (p : AV) (y : AV) : Bool := ((gI y.cells 1 == 1) || (gI y.cells 1 == 28)) && contF (gB p.cells 2) (gI p.cells 3) (gI p.cells 4) (gI p.cells 5) (gB y.cells 3) (gI y.cells 4) (gI y.cells 5)
def respF (rs : List AV) : Nat → List AV → Int × Bool
  | _, [] => (0, false)
  | i, y :: r => bif (gI y.cells 0 == 3) && rs.any (ansB y) then ((i : Int), true) else respF rs (i + 1) r
theorem p_contains (v6 : Bool) (hi lo bits : Int) (l : List AV) (hl : recsFit l) : policy_contains v6 hi lo bits l = some (l.any fun y => ((gI y.cells 1 == 1) || (gI y.cells 1 == 28)) && contF v6 hi lo bits (gB y.cells 3) (gI y.cells 4) (gI y.cells 5)) := by
  rw [policy_contains_eq]; unfold policy_contains_i
  rw [slices_ContainsFunc_api_Record_api_Record__policy_contains_1_eq]; unfold slices_ContainsFunc_api_Record_api_Record__policy_contains_1_i
  rw [slices_IndexFunc_api_Record_api_Record__policy_contains_1_eq]; unfold slices_IndexFunc_api_Record_api_Record__policy_contains_1_i
  rw [slices_IndexFunc_api_Record_api_Record__policy_contains_1_L6_eq]
  have key := for_list l hl.1 (fun k i (s : Bool × Int × Int × Int) => slices_IndexFunc_api_Record_api_Record__policy_contains_1_L6_i l (l.length : Int) (fun b0 b1 b2 b3 => some (decide ((-1 : Int) ≥ 0))) (fun v4 b0 b1 b2 b3 => some (decide (v4 ≥ 0))) k i s.1 s.2.1 s.2.2.1 s.2.2.2)
    (fun i s nx => slices_IndexFunc_api_Record_api_Record__policy_contains_1_L6_b l (l.length : Int) i s.1 s.2.1 s.2.2.1 s.2.2.2 (fun j p q r t => nx j (p, q, r, t)) (fun b0 b1 b2 b3 => some (decide ((-1 : Int) ≥ 0))) (fun v4 b0 b1 b2 b3 => some (decide (v4 ≥ 0)))) (fun _ _ _ => rfl)
    (fun _ s => s = (v6, hi, lo, bits)) (fun r s => some (r.any fun y => ((gI y.cells 1 == 1) || (gI y.cells 1 == 28)) && contF v6 hi lo bits (gB y.cells 3) (gI y.cells 4) (gI y.cells 5))) ?_ ?_ (v6, hi, lo, bits) FU rfl (FU_big (by have := hl.1; omega))
  · exact key
  · rintro s nx rfl
    simp [slices_IndexFunc_api_Record_api_Record__policy_contains_1_L6_b]
  · rintro i y r s nx h1 h2 h3 h4 rfl h5
    have hy := hl.2 y (List.mem_of_getElem? h2)
    have h6 : (i : Int) < (l.length : Int) := by omega
    have d : decide ((i : Int) ≥ 0) = true := decide_eq_true (by omega)
    unfold slices_IndexFunc_api_Record_api_Record__policy_contains_1_L6_b
    simp only [h6, decide_true, cond_t, ixB_nat, h2, oB_s, hy.1, policy_contains_1_eq, policy_contains_1_i, p_pContains, h4, h5 _ rfl, List.any_cons, d]
    cases ((gI y.cells 1 == 1) || (gI y.cells 1 == 28))
    · rfl
    · cases contF v6 hi lo bits (gB y.cells 3) (gI y.cells 4) (gI y.cells 5) <;> rfl
section
variable {q0 q1 q2 : Int} {q3 q4 q5 q6 q7 q8 q9 q10 : Bool} {q11 : Int} {q12 : List UInt8} {q13 : Int} {q14 q15 q16 : List AV}
theorem p_Response (l : List AV) (hl : rulesFit l) (ha : recsFit q14) : policy_Response l q0 q1 q2 q3 q4 q5 q6 q7 q8 q9 q10 q11 q12 q13 q14 q15 q16 = some (respF q14 0 l) := by
  rw [policy_Response_eq]; unfold policy_Response_i
  rw [policy_Response_L6_eq, for_idx l hl.1 (policy_Response_L6_i l (l.length : Int) q0 q1 q2 q3 q4 q5 q6 q7 q8 q9 q10 q11 q12 q13 q14 q15 q16 fun _ => some (0, false)) (fun i nx => policy_Response_L6_b l (l.length : Int) i q0 q1 q2 q3 q4 q5 q6 q7 q8 q9 q10 q11 q12 q13 q14 q15 q16 nx fun _ => some (0, false)) (fun _ _ => rfl) (fun i r => some (respF q14 i r))]
  · intro nx; simp [policy_Response_L6_b, respF]
  · intro i y r nx h1 h2 h3 h4 h5
    have hy := hl.2 y (List.mem_of_getElem? h2)
    have h6 : (i : Int) < (l.length : Int) := by omega
    unfold policy_Response_L6_b
    simp only [h6, decide_true, cond_t, ixB_nat, h2, oB_s, hy.1, p_contains _ _ _ _ _ ha, h4, h5, respF]
    show (bif (gI y.cells 0 == 3) then (bif q14.any (ansB y) then _ else _) else _) = _
    cases (gI y.cells 0 == 3)
    · rfl
    · cases q14.any (ansB y) <;> rfl
theorem p_rL24 (l : List AV) (i : Nat) (y : AV) (hi : l[i]? = some y) (hy : ruleFit y) (ha : recsFit2 q14) (kx : Unit → Option (Int × Bool)) :
    ddiref26_Response_L24 l (i : Int) q0 q1 q2 q3 q4 q5 q6 q7 q8 q9 q10 q11 q12 q13 q14 q15 q16 kx FU 0 = bif q14.any (ansB y) then some ((i : Int), true) else kx () := by
  rw [ddiref26_Response_L24_eq, for_list0 q14 ha.1 (ddiref26_Response_L24_i l (i : Int) q0 q1 q2 q3 q4 q5 q6 q7 q8 q9 q10 q11 q12 q13 q14 q15 q16 kx) (fun k nx => ddiref26_Response_L24_b l (i : Int) k q0 q1 q2 q3 q4 q5 q6 q7 q8 q9 q10 q11 q12 q13 q14 q15 q16 nx kx) (fun _ _ => rfl) (fun r => bif r.any (ansB y) then some ((i : Int), true) else kx ())]
  · intro nx; simp [ddiref26_Response_L24_b]
  · intro k z r nx h1 h2 h3 h4 h5
    have hz := ha.2 z (List.mem_of_getElem? h2)
    have h6 : (k : Int) < (q14.length : Int) := by omega
    unfold ddiref26_Response_L24_b
    simp only [h6, decide_true, cond_t, ixB_nat, h2, hi, oB_s, hz.1.1, ddiref26_Response_J36_eq, ddiref26_Response_J36_i, rule_x hy.1, p_rContains _ _ _ _ _ _ _ hz.2.1 hz.2.2, h4, h5, List.any_cons]
    unfold ansB
    cases (gI z.cells 1 == 1)
    · cases (gI z.cells 1 == 28)
      · rfl
      · cases contF (gB y.cells 2) (gI y.cells 3) (gI y.cells 4) (gI y.cells 5) (gB z.cells 3) (gI z.cells 4) (gI z.cells 5) <;> rfl
    · cases contF (gB y.cells 2) (gI y.cells 3) (gI y.cells 4) (gI y.cells 5) (gB z.cells 3) (gI z.cells 4) (gI z.cells 5) <;> rfl
theorem p_rResponse (l : List AV) (hl : rulesFit l) (ha : recsFit2 q14) : ddiref26_Response l q0 q1 q2 q3 q4 q5 q6 q7 q8 q9 q10 q11 q12 q13 q14 q15 q16 = some (respF q14 0 l) := by
  rw [ddiref26_Response_eq]; unfold ddiref26_Response_i
  rw [ddiref26_Response_L6_eq, for_idx l hl.1 (ddiref26_Response_L6_i l q0 q1 q2 q3 q4 q5 q6 q7 q8 q9 q10 q11 q12 q13 q14 q15 q16 fun _ => some (0, false)) (fun i nx => ddiref26_Response_L6_b l i q0 q1 q2 q3 q4 q5 q6 q7 q8 q9 q10 q11 q12 q13 q14 q15 q16 nx fun _ => some (0, false)) (fun _ _ => rfl) (fun i r => some (respF q14 i r))]
  · intro nx; simp [ddiref26_Response_L6_b, respF]
  · intro i y r nx h1 h2 h3 h4 h5
    have hy := hl.2 y (List.mem_of_getElem? h2)
    have h6 : (i : Int) < (l.length : Int) := by omega
    unfold ddiref26_Response_L6_b
    simp only [h6, decide_true, cond_t, ixB_nat, h2, oB_s, hy.1, p_rL24 l i y h2 hy ha, h4, h5, respF]
    have hne : (gI y.cells 0 != 3) = !(gI y.cells 0 == 3) := rfl
    rw [hne]
    cases (gI y.cells 0 == 3)
    · rfl
    · cases q14.any (ansB y) <;> rfl
def tyRule : Ty := .st [.int .i64, .str, .st [.st [.bool, .int .u64, .int .u64], .int .i64], .int .i64, .sl 16 tyRec]
theorem rulesFit_of {l : List AV} (h : l.length ≤ 9223372036854775807 ∧ ∀ y, y ∈ l → fitC tyRule.lts y.cells = true ∧ tyRule.good y.cells 0) : rulesFit l :=
  ⟨h.1, fun y hy => ⟨(h.2 y hy).1, (h.2 y hy).2.2.1, recsFit_of (h.2 y hy).2.2.2.2.2.1⟩⟩
theorem recsFit_2 {l : List AV} (h : recsFit2 l) : recsFit l := ⟨h.1, fun y hy => (h.2 y hy).1⟩
def r0 : AV := (.agg [(.int .i64 0), (.str ([] : List UInt8)), (.bool false), (.int .u64 0), (.int .u64 0), (.int .i64 0), (.int .i64 0), .nils])
def r5 : AV := (.agg [(.int .i64 (2 : Int)), (.str ([97, 46] : List UInt8)), (.bool false), (.int .u64 0), (.int .u64 0), (.int .i64 0), (.int .i64 (5 : Int)), .nils])
theorem recsFit_nil : recsFit [] := ⟨by simp, fun y hy => by simp at hy⟩
theorem fitR : rulesFit [r0, r5] := ⟨by decide, fun y hy => by
  rcases List.mem_cons.1 hy with rfl | hy
  · exact ⟨rfl, by unfold strOk; decide, recsFit_nil⟩
  rcases List.mem_cons.1 hy with rfl | hy
  · exact ⟨rfl, by unfold strOk; decide, recsFit_nil⟩
  · simp at hy⟩
end
end Go.Proofs.YthhnnlipnpfkcaaDoor.Dn
