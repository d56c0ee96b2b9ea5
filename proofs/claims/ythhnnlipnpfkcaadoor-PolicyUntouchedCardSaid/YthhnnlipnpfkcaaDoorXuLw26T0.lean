/- Policies: which rule is triggered. -/
import Derived.Test.YthhnnlipnpfkcaaDoorXuLw26s
import Derived.Test.YthhnnlipnpfkcaaDoorXuLw01u
import Derived.Test.YthhnnlipnpfkcaaDoorXuLw03p
set_option linter.all false
namespace Go.Proofs.YthhnnlipnpfkcaaDoor.Dn
open Go Go.Pev
set_option linter.unusedVariables false
set_option linter.unusedSimpArgs false
set_option maxRecDepth 4000

theorem rule_x {y : AV} (h : fitC T_api_Rule y.cells = true) : fitC X_api_Rule y.cells = true := by
  unfold T_api_Rule at h
  obtain ⟨a, r1, e1, h1, h⟩ := fitC_cons h
  obtain ⟨b, r2, rfl, h2, h⟩ := fitC_cons h
  obtain ⟨c, r3, rfl, h3, h⟩ := fitC_cons h
  obtain ⟨d, r4, rfl, h4, h⟩ := fitC_cons h
  obtain ⟨e, r5, rfl, h5, h⟩ := fitC_cons h
  obtain ⟨f, r6, rfl, h6, h⟩ := fitC_cons h
  obtain ⟨g, r7, rfl, h7, h⟩ := fitC_cons h
  obtain ⟨k, r8, rfl, h8, h⟩ := fitC_cons h
  obtain rfl := fitC_nil h
  rw [e1]
  unfold X_api_Rule
  exact fitC_mk h1 (fitC_mk h2 (fitC_mk h3 (fitC_mk h4 (fitC_mk h5 (fitC_mk h6 (fitC_mk h7 (fitC_mk (fitL_op_sl h8) rfl)))))))

/-! ### Query -/
def exB (q : List UInt8) (y : AV) : Bool := (gI y.cells 0 == 1) && (gS y.cells 1 == q)
def exF (q : List UInt8) : Nat → List AV → Option Nat
  | _, [] => none
  | i, y :: r => bif exB q y then some i else exF q (i + 1) r
def cand (q : List UInt8) (y : AV) : Bool := (gI y.cells 0 == 2) && (!(gS y.cells 1 == q) && underB q (gS y.cells 1))
def bestF (q : List UInt8) : Nat → Int → Int → List AV → Int × Int
  | _, b, m, [] => (b, m)
  | i, b, m, y :: r => bif cand q y && decide (m < (labelsF (gS y.cells 1)).length) then bestF q (i + 1) i (labelsF (gS y.cells 1)).length r else bestF q (i + 1) b m r
def packF (o : Option Nat) (p : Int × Int) : Int × Bool := match o with
  | some k => ((k : Int), true)
  | none => (p.1, decide (p.2 ≥ 0))
def queryF (l : List AV) (q : List UInt8) : Int × Bool := packF (exF q 0 l) (bestF q 0 0 (-1) l)
theorem p_Query (l : List AV) (hl : rulesFit l) (q : List UInt8) (hq : strOk q) (t : Int) : policy_Query l q t = some (queryF l q) := by
  rw [policy_Query_eq]; unfold policy_Query_i
  rw [policy_Query_L8_eq]
  have key := for_list l hl.1 (fun n i (s : Int × Int) => policy_Query_L8_i l (l.length : Int) q t (fun v6 v7 => (some (v6, (decide (v7 ≥ 0))))) n s.1 s.2 i) (fun i s nx => policy_Query_L8_b s.1 s.2 l (l.length : Int) i q t (fun a b c => nx c (a, b)) (fun v6 v7 => (some (v6, (decide (v7 ≥ 0)))))) (fun _ _ _ => rfl)
    (fun _ _ => True) (fun r s => some (packF (exF q (l.length - r.length) r) (bestF q (l.length - r.length) s.1 s.2 r))) ?_ ?_ (0, -1) FU trivial (FU_big (by have := hl.1; omega))
  · simp only [Nat.sub_self] at key
    exact key
  · intro s nx _; simp [policy_Query_L8_b, exF, bestF, packF]
  · intro i y r s nx h1 h2 h3 h4 _ h5
    have hy := hl.2 y (List.mem_of_getElem? h2)
    have h6 : (i : Int) < (l.length : Int) := by omega
    have hr : r.length = l.length - (i + 1) := by
      have := congrArg List.length h1
      simp at this; omega
    have e1 : l.length - r.length = i + 1 := by omega
    have e2 : l.length - (y :: r).length = i := by simp; omega
    have ll : ∀ z, (avS (labelsF z)).length = (labelsF z).length := fun z => by simp [avS]
    unfold policy_Query_L8_b
    simp only [h6, decide_true, cond_t, ixB_nat, h2, oB_s, hy.1, policy_Query_J27_eq, policy_Query_J27_i, p_Under _ _ hq hy.2.1, p_Labels _ hy.2.1, ll, h4, h5 _ trivial, e1, e2]
    simp only [exF, bestF]
    show (bif exB q y then _ else _) = _
    cases hex : exB q y
    · simp only [cond_f]
      have hc : cand q y = (((gI y.cells 0 == 2) && !(gS y.cells 1 == q)) && underB q (gS y.cells 1)) := by unfold cand; rw [Bool.and_assoc]
      rw [hc]
      cases ((gI y.cells 0 == 2) && !(gS y.cells 1 == q))
      · rfl
      · cases underB q (gS y.cells 1)
        · rfl
        · simp only [cond_t, Bool.and_self, Bool.true_and, gt_iff_lt]
          cases decide (s.2 < ((labelsF (gS y.cells 1)).length : Int)) <;> rfl
    · rfl
/-! ### Response -/
def recFit2 (y : AV) : Prop := recFit y ∧ uok (gI y.cells 4) ∧ uok (gI y.cells 5)
def recsFit2 (l : List AV) : Prop := l.length ≤ 9223372036854775807 ∧ ∀ y, y ∈ l → recFit2 y
theorem recsFit2_of {l : List AV} (h : l.length ≤ 9223372036854775807 ∧ ∀ y, y ∈ l → fitC tyRec.lts y.cells = true ∧ tyRec.good y.cells 0) : recsFit2 l :=
  ⟨h.1, fun y hy => ⟨recFit_of (h.2 y hy).1 (h.2 y hy).2, (h.2 y hy).2.2.2.2.1.1.2.1, (h.2 y hy).2.2.2.2.1.1.2.2.1⟩⟩
def ansB (p : AV) (y : AV) : Bool := ((gI y.cells 1 == 1) || (gI y.cells 1 == 28)) && contF (gB p.cells 2) (gI p.cells 3) (gI p.cells 4) (gI p.cells 5) (gB y.cells 3) (gI y.cells 4) (gI y.cells 5)
def respF (rs : List AV) : Nat → List AV → Int × Bool
  | _, [] => (0, false)
  | i, y :: r => bif (gI y.cells 0 == 3) && rs.any (ansB y) then ((i : Int), true) else respF rs (i + 1) r
theorem p_contains (v6 : Bool) (hi lo bits : Int) (l : List AV) (hl : recsFit l) : policy_contains v6 hi lo bits l = some (l.any fun y => ((gI y.cells 1 == 1) || (gI y.cells 1 == 28)) && contF v6 hi lo bits (gB y.cells 3) (gI y.cells 4) (gI y.cells 5)) := by
  rw [policy_contains_eq]; unfold policy_contains_i
  rw [slices_ContainsFunc_api_Record_api_Record__policy_contains_1_eq]; unfold slices_ContainsFunc_api_Record_api_Record__policy_contains_1_i
  rw [slices_IndexFunc_api_Record_api_Record__policy_contains_1_eq]; unfold slices_IndexFunc_api_Record_api_Record__policy_contains_1_i
  rw [slices_IndexFunc_api_Record_api_Record__policy_contains_1_L6_eq]
  have key := for_list l hl.1 (fun k i (s : Bool × Int × Int × Int) => slices_IndexFunc_api_Record_api_Record__policy_contains_1_L6_i l (l.length : Int) (fun b0 b1 b2 b3 => some (decide ((-1 : Int) ≥ 0))) (fun v4 b0 b1 b2 b3 => some (decide (v4 ≥ 0))) k i s.1 s.2.1 s.2.2.1 s.2.2.2)
    (fun i s nx => slices_IndexFunc_api_Record_api_Record__policy_contains_1_L6_b l (l.length : Int) i s.1 s.2.1 s.2.2.1 s.2.2.2 (fun j p q r t => nx j (p, q, r, t)) (fun b0 b1 b2 b3 => some (decide ((-1 : Int) ≥ 0))) (fun v4 b0 b1 b2 b3 => some (decide (v4 ≥ 0)))) (fun _ _ _ => rfl)
    (fun _ s => s = (v6, hi, lo, bits)) (fun r s => some (r.any fun y => ((gI y.cells 1 == 1) || (gI y.cells 1 == 28)) && contF v6 hi lo bits (gB y.cells 3) (gI y.cells 4) (gI y.cells 5))) ?_ ?_ (v6, hi, lo, bits) FU rfl (FU_big (by have := hl.1; omega))
  · exact key
  · rintro s nx rfl
    simp [slices_IndexFunc_api_Record_api_Record__policy_contains_1_L6_b]
  · rintro i y r s nx h1 h2 h3 h4 rfl h5
    have hy := hl.2 y (List.mem_of_getElem? h2)
    have h6 : (i : Int) < (l.length : Int) := by omega
    have d : decide ((i : Int) ≥ 0) = true := decide_eq_true (by omega)
    unfold slices_IndexFunc_api_Record_api_Record__policy_contains_1_L6_b
    simp only [h6, decide_true, cond_t, ixB_nat, h2, oB_s, hy.1, policy_contains_1_eq, policy_contains_1_i, p_pContains, h4, h5 _ rfl, List.any_cons, d]
    cases ((gI y.cells 1 == 1) || (gI y.cells 1 == 28))
    · rfl
    · cases contF v6 hi lo bits (gB y.cells 3) (gI y.cells 4) (gI y.cells 5) <;> rfl
section
variable {q0 q1 q2 : Int} {q3 q4 q5 q6 q7 q8 q9 q10 : Bool} {q11 : Int} {q12 : List UInt8} {q13 : Int} {q14 q15 q16 : List AV}
theorem p_Response (l : List AV) (hl : rulesFit l) (ha : recsFit q14) : policy_Response l q0 q1 q2 q3 q4 q5 q6 q7 q8 q9 q10 q11 q12 q13 q14 q15 q16 = some (respF q14 0 l) := by
  rw [policy_Response_eq]; unfold policy_Response_i
  rw [policy_Response_L6_eq, for_idx l hl.1 (policy_Response_L6_i l (l.length : Int) q0 q1 q2 q3 q4 q5 q6 q7 q8 q9 q10 q11 q12 q13 q14 q15 q16 fun _ => some (0, false)) (fun i nx => policy_Response_L6_b l (l.length : Int) i q0 q1 q2 q3 q4 q5 q6 q7 q8 q9 q10 q11 q12 q13 q14 q15 q16 nx fun _ => some (0, false)) (fun _ _ => rfl) (fun i r => some (respF q14 i r))]
  · intro nx; simp [policy_Response_L6_b, respF]
  · intro i y r nx h1 h2 h3 h4 h5
    have hy := hl.2 y (List.mem_of_getElem? h2)
    have h6 : (i : Int) < (l.length : Int) := by omega
    unfold policy_Response_L6_b
    simp only [h6, decide_true, cond_t, ixB_nat, h2, oB_s, hy.1, p_contains _ _ _ _ _ ha, h4, h5, respF]
    show (bif (gI y.cells 0 == 3) then (bif q14.any (ansB y) then _ else _) else _) = _
    cases (gI y.cells 0 == 3)
    · rfl
    · cases q14.any (ansB y) <;> rfl
def tyRule : Ty := .st [.int .i64, .str, .st [.st [.bool, .int .u64, .int .u64], .int .i64], .int .i64, .sl 16 tyRec]
theorem recsFit_2 {l : List AV} (h : recsFit2 l) : recsFit l := ⟨h.1, fun y hy => (h.2 y hy).1⟩
def r0 : AV := (.agg [(.int .i64 0), (.str ([] : List UInt8)), (.bool false), (.int .u64 0), (.int .u64 0), (.int .i64 0), (.int .i64 0), .nils])
def r5 : AV := (.agg [(.int .i64 (2 : Int)), (.str ([97, 46] : List UInt8)), (.bool false), (.int .u64 0), (.int .u64 0), (.int .i64 0), (.int .i64 (5 : Int)), .nils])
theorem recsFit_nil : recsFit [] := ⟨by simp, fun y hy => by simp at hy⟩
theorem fitR : rulesFit [r0, r5] := ⟨by decide, fun y hy => by
  rcases List.mem_cons.1 hy with rfl | hy
  · exact ⟨rfl, by unfold strOk; decide, recsFit_nil⟩
  rcases List.mem_cons.1 hy with rfl | hy
  · exact ⟨rfl, by unfold strOk; decide, recsFit_nil⟩
  · simp at hy⟩
end
end Go.Proofs.YthhnnlipnpfkcaaDoor.Dn

