/- Policies: what ddiref26 and the law's own words answer. -/
import Derived.Test.YthhnnlipnpfkcaaDoorXaLw05
import Derived.Test.YthhnnlipnpfkcaaDoorXaLibC
set_option linter.all false
namespace Go.Proofs.YthhnnlipnpfkcaaDoor.Dn
open Go Go.Pev
set_option linter.unusedVariables false
set_option linter.unusedSimpArgs false
set_option maxRecDepth 4000
def strOk (x : List UInt8) : Prop := x.length ≤ 9223372036854775807
def recFit (y : AV) : Prop := fitC T_api_Record y.cells = true ∧ strOk (gS y.cells 0) ∧ strOk (gS y.cells 6) ∧ strOk (gS y.cells 7) ∧ strOk (gS y.cells 8)
def recsFit (l : List AV) : Prop := l.length ≤ 9223372036854775807 ∧ ∀ y, y ∈ l → recFit y
def ruleFit (y : AV) : Prop := fitC T_api_Rule y.cells = true ∧ strOk (gS y.cells 1) ∧ recsFit (gL y.cells 7)
def rulesFit (l : List AV) : Prop := l.length ≤ 9223372036854775807 ∧ ∀ y, y ∈ l → ruleFit y
def tyData : Ty := .st [.st [.bool, .int .u64, .int .u64], .str, .str, .str, .int .i64, .int .i64, .int .i64, .int .i64, .int .i64, .int .i64, .int .u64]
def tyRec : Ty := .st [.str, .int .i64, .int .i64, tyData]
theorem recFit_of {y : AV} (h1 : fitC tyRec.lts y.cells = true) (h2 : tyRec.good y.cells 0) : recFit y := by
  simp only [tyRec, tyData, Ty.good.goods, Ty.good, Ty.size, Ty.sizes, Nat.zero_add, Nat.reduceAdd, and_true, true_and] at h2
  exact ⟨h1, h2.1, h2.2.2.2.2.1, h2.2.2.2.2.2.1, h2.2.2.2.2.2.2.1⟩
theorem recsFit_of {l : List AV} (h : l.length ≤ 9223372036854775807 ∧ ∀ y, y ∈ l → fitC tyRec.lts y.cells = true ∧ tyRec.good y.cells 0) : recsFit l :=
  ⟨h.1, fun y hy => recFit_of (h.2 y hy).1 (h.2 y hy).2⟩
def recOkY (y : AV) : Bool := recOk (gS y.cells 0) (gI y.cells 1) (gI y.cells 2) (gB y.cells 3) (gI y.cells 4) (gI y.cells 5) (gS y.cells 6) (gS y.cells 7) (gS y.cells 8) (gI y.cells 9) (gI y.cells 10) (gI y.cells 11) (gI y.cells 12) (gI y.cells 13) (gI y.cells 14) (gI y.cells 15)
def localOk (l : List AV) : Bool := decide (1 ≤ l.length) && decide (l.length ≤ 64) && l.all (fun y => recOkY y && gS y.cells 0 == [46])
theorem p_local (l : List AV) (hl : recsFit l) : ddiref26_local l = some (localOk l) := by
  rw [ddiref26_local_eq]; unfold ddiref26_local_i
  rw [ddiref26_local_L14_eq, for_list0 l hl.1 (ddiref26_local_L14_i l fun _ => some true) (fun i nx => ddiref26_local_L14_b l i nx fun _ => some true) (fun _ _ => rfl) (fun r => some (r.all (fun y => recOkY y && gS y.cells 0 == [46])))]
  · unfold localOk
    by_cases h1 : l.length < 1
    · have a1 : (l.length : Int) < 1 := by omega
      have a2 : ¬ 1 ≤ l.length := by omega
      simp only [a1, a2, decide_true, decide_false, Bool.true_or, cond_t, Bool.false_and]
    · by_cases h2 : 64 < l.length
      · have a1 : (l.length : Int) > 64 := by omega
        have a2 : ¬ l.length ≤ 64 := by omega
        simp only [a1, a2, decide_true, decide_false, Bool.or_true, cond_t, Bool.false_and, Bool.and_false]
      · have a1 : ¬ (l.length : Int) < 1 := by omega
        have a2 : ¬ (l.length : Int) > 64 := by omega
        have a3 : 1 ≤ l.length := by omega
        have a4 : l.length ≤ 64 := by omega
        simp only [a1, a2, a3, a4, decide_true, decide_false, Bool.or_self, cond_f, Bool.true_and]
  · intro nx; simp [ddiref26_local_L14_b]
  · intro i y r nx h1 h2 h3 h4 h5
    have hy := hl.2 y (List.mem_of_getElem? h2)
    have h6 : (i : Int) < (l.length : Int) := by omega
    unfold ddiref26_local_L14_b
    simp only [h6, decide_true, cond_t, ixB_nat, h2, oB_s, hy.1, p_Valid07 _ _ _ _ _ _ _ _ _ _ _ _ _ _ _ _ hy.2.1 hy.2.2.1 hy.2.2.2.1, h4, h5]
    rw [show recOk (gS y.cells 0) (gI y.cells 1) (gI y.cells 2) (gB y.cells 3) (gI y.cells 4) (gI y.cells 5) (gS y.cells 6) (gS y.cells 7) (gS y.cells 8) (gI y.cells 9) (gI y.cells 10) (gI y.cells 11) (gI y.cells 12) (gI y.cells 13) (gI y.cells 14) (gI y.cells 15) = recOkY y from rfl, List.all_cons]
    cases recOkY y <;> cases (gS y.cells 0 == [46]) <;> rfl
def ruleE (on : Int) (name : List UInt8) (v6 : Bool) (hi lo bits act : Int) (l : List AV) : Int :=
  bif (((decide (on < 1) || decide (on > 3)) || decide (act < 1)) || decide (act > 5)) then 1
  else bif ((!(on != 3)) && (!(name == []))) then 1
  else bif ((on != 3) && (!((v6 == false) && ((hi == 0) && ((lo == 0) && ((bits == 0) && true)))))) then 1
  else bif ((act != 4) && decide ((l.length : Int) > 0)) then 1
  else bif ((on != 3) && !okName name) then 2
  else bif ((!(on != 3)) && !prefOk v6 hi lo bits) then 3
  else bif (act == 4) then (bif !localOk l then 5 else 0) else 0
theorem cond_some2 {α : Type} (p : Bool) (a b : α) : (bif p then some a else some b) = some (bif p then a else b) := by cases p <;> rfl
theorem p_rule (on : Int) (name : List UInt8) (v6 : Bool) (hi lo bits act : Int) (l : List AV) (hn : strOk name) (hl : recsFit l) : ddiref26_rule on name v6 hi lo bits act l = some (ruleE on name v6 hi lo bits act l) := by
  rw [ddiref26_rule_eq]; unfold ddiref26_rule_i ruleE
  simp only [ddiref26_rule_J38_eq, ddiref26_rule_J38_i, ddiref26_rule_J46_eq, ddiref26_rule_J46_i, p_Valid01 name hn, p_Valid03, p_local l hl, oB_s, cond_some2]
  cases (on != 3) <;> cases okName name <;> cases prefOk v6 hi lo bits <;> rfl
def ruleEY (y : AV) : Int := ruleE (gI y.cells 0) (gS y.cells 1) (gB y.cells 2) (gI y.cells 3) (gI y.cells 4) (gI y.cells 5) (gI y.cells 6) (gL y.cells 7)
def checkF : List AV → Int
  | [] => 0
  | y :: r => if ruleEY y = 0 then checkF r else ruleEY y
def checkE (l : List AV) : Int := if 64 < l.length then 9 else checkF l
theorem p_Check (l : List AV) (hl : rulesFit l) : ddiref26_Check l = some (checkE l) := by
  rw [ddiref26_Check_eq]; unfold ddiref26_Check_i
  rw [ddiref26_Check_L14_eq, for_list0 l hl.1 (ddiref26_Check_L14_i l fun _ => some 0) (fun i nx => ddiref26_Check_L14_b l i nx fun _ => some 0) (fun _ _ => rfl) (fun r => some (checkF r))]
  · unfold checkE
    by_cases h : 64 < l.length
    · have : (l.length : Int) > 64 := by omega
      simp [this, h]
    · have : ¬ (l.length : Int) > 64 := by omega
      simp only [this, decide_false, cond_f, if_neg h]
  · intro nx; simp [ddiref26_Check_L14_b, checkF]
  · intro i y r nx h1 h2 h3 h4 h5
    have hy := hl.2 y (List.mem_of_getElem? h2)
    have h6 : (i : Int) < (l.length : Int) := by omega
    unfold ddiref26_Check_L14_b
    simp only [h6, decide_true, cond_t, ixB_nat, h2, oB_s, hy.1, p_rule _ _ _ _ _ _ _ _ hy.2.1 hy.2.2, h4, h5, checkF]
    rw [show ruleE (gI y.cells 0) (gS y.cells 1) (gB y.cells 2) (gI y.cells 3) (gI y.cells 4) (gI y.cells 5) (gI y.cells 6) (gL y.cells 7) = ruleEY y from rfl]
    by_cases h : ruleEY y = 0
    · simp [h]
    · have hb : (ruleEY y != 0) = true := by simpa using h
      simp [h, hb]
def recSmall (y : AV) : Bool := !((((decide (((gS y.cells 0).length : Int) > (300 : Int))) || (decide (((gS y.cells 6).length : Int) > (300 : Int)))) || (decide (((gS y.cells 7).length : Int) > (300 : Int)))) || (decide (((gS y.cells 8).length : Int) > (300 : Int))))
def ruleSmall (y : AV) : Bool := decide ((gS y.cells 1).length ≤ 300) && decide ((gL y.cells 7).length ≤ 70) && (gL y.cells 7).all recSmall
def smallB (l : List AV) : Bool := decide (l.length ≤ 100) && l.all ruleSmall
theorem p_small (l : List AV) (hl : rulesFit l) : ddilaw26_small l = some (smallB l) := by
  rw [ddilaw26_small_eq]; unfold ddilaw26_small_i
  rw [ddilaw26_small_L14_eq, for_list0 l hl.1 (ddilaw26_small_L14_i l fun _ => some true) (fun i nx => ddilaw26_small_L14_b l i nx fun _ => some true) (fun _ _ => rfl) (fun r => some (r.all ruleSmall))]
  · unfold smallB
    by_cases h : 100 < l.length
    · have a1 : (l.length : Int) > 100 := by omega
      have a2 : ¬ l.length ≤ 100 := by omega
      simp [a1, a2]
    · have a1 : ¬ (l.length : Int) > 100 := by omega
      have a2 : l.length ≤ 100 := by omega
      simp only [a1, a2, decide_true, decide_false, cond_f, Bool.true_and]
  · intro nx; simp [ddilaw26_small_L14_b]
  · intro i y r nx h1 h2 h3 h4 h5
    have hy := hl.2 y (List.mem_of_getElem? h2)
    have h6 : (i : Int) < (l.length : Int) := by omega
    unfold ddilaw26_small_L14_b
    simp only [h6, decide_true, cond_t, ddilaw26_small_J25_eq, ddilaw26_small_J25_i, ixB_nat, h2, oB_s, hy.1, List.all_cons, ruleSmall]
    by_cases h7 : (gS y.cells 1).length ≤ 300
    · have a1 : ¬ ((gS y.cells 1).length : Int) > 300 := by omega
      by_cases h8 : (gL y.cells 7).length ≤ 70
      · have a2 : ¬ ((gL y.cells 7).length : Int) > 70 := by omega
        simp only [a1, a2, h7, h8, decide_true, decide_false, cond_f, Bool.true_and]
        rw [ddilaw26_small_L34_eq, for_list0 (gL y.cells 7) hy.2.2.1 (ddilaw26_small_L34_i l i fun _ => nx (IntKind.i64.wrap (i + 1))) (fun j nx' => ddilaw26_small_L34_b l i j nx' fun _ => nx (IntKind.i64.wrap (i + 1))) (fun _ _ => rfl) (fun q => some (q.all recSmall && r.all ruleSmall))]
        · intro nx'
          unfold ddilaw26_small_L34_b
          simp [h2, hy.1, h4]
          exact h5
        · intro j z q nx' g1 g2 g3 g4 g5
          have hz := hy.2.2.2 z (List.mem_of_getElem? g2)
          have g6 : (j : Int) < ((gL y.cells 7).length : Int) := by omega
          unfold ddilaw26_small_L34_b
          simp only [ixB_nat, h2, oB_s, hy.1, cond_t, g6, decide_true, g2, hz.1, g4, g5, List.all_cons]
          rw [show ((((decide (((gS z.cells 0).length : Int) > (300 : Int))) || (decide (((gS z.cells 6).length : Int) > (300 : Int)))) || (decide (((gS z.cells 7).length : Int) > (300 : Int)))) || (decide (((gS z.cells 8).length : Int) > (300 : Int)))) = !recSmall z by simp [recSmall]]
          cases recSmall z <;> simp
      · have a2 : ((gL y.cells 7).length : Int) > 70 := by omega
        simp [a1, a2, h7, h8]
    · have a1 : ((gS y.cells 1).length : Int) > 300 := by omega
      simp [a1, h7]
end Go.Proofs.YthhnnlipnpfkcaaDoor.Dn
