/- Policies: what an action needs (typed, local). -/
import Derived.Test.YthhnnlipnpfkcaaDoorXaLw26s
set_option linter.all false
namespace Go.Proofs.YthhnnlipnpfkcaaDoor.Dn
open Go Go.Pev
set_option linter.unusedVariables false
set_option linter.unusedSimpArgs false
theorem p_records (l : List AV) (hl : l.length ≤ 9223372036854775807) (hf : ∀ y, y ∈ l → fitC T_api_Record y.cells = true) : ddilaw26_records l l = some true := by
  rw [ddilaw26_records_eq]; unfold ddilaw26_records_i
  rw [ddilaw26_records_L14_eq, for_list0 l hl (ddilaw26_records_L14_i l l fun _ => some true) (fun i nx => ddilaw26_records_L14_b l l i nx fun _ => some true) (fun _ _ => rfl) (fun r => some true)]
  · simp
  · intro nx; simp [ddilaw26_records_L14_b]
  · intro i y r nx h1 h2 h3 h4 h5
    have hy := hf y (List.mem_of_getElem? h2)
    have h6 : (i : Int) < (l.length : Int) := by omega
    unfold ddilaw26_records_L14_b
    simp only [h6, decide_true, cond_t, ixB_nat, h2, oB_s, hy, h4, h5]
    simp
def named (n : List UInt8) (y : AV) : AV := .agg [(.str n), (.int .i64 (gI y.cells 1)), (.int .i64 (gI y.cells 2)), (.bool (gB y.cells 3)), (.int .u64 (gI y.cells 4)), (.int .u64 (gI y.cells 5)), (.str (gS y.cells 6)), (.str (gS y.cells 7)), (.str (gS y.cells 8)), (.int .i64 (gI y.cells 9)), (.int .i64 (gI y.cells 10)), (.int .i64 (gI y.cells 11)), (.int .i64 (gI y.cells 12)), (.int .i64 (gI y.cells 13)), (.int .i64 (gI y.cells 14)), (.int .u64 (gI y.cells 15))]
def ofType (t : Int) (y : AV) : Bool := (gI y.cells 1) == t || (t == 255)
def typedF (l : List AV) (t : Int) (n : List UInt8) : List AV := (l.filter (ofType t)).map (named n)
theorem typedF_len (l : List AV) (t : Int) (n : List UInt8) : (typedF l t n).length ≤ l.length := by unfold typedF; simp; exact List.length_filter_le _ _
theorem typedF_fit (l : List AV) (t : Int) (n : List UInt8) : ∀ y, y ∈ typedF l t n → fitC T_api_Record y.cells = true := by
  intro y hy
  simp only [typedF, List.mem_map] at hy
  obtain ⟨z, _, rfl⟩ := hy
  rfl
theorem p_typed (l : List AV) (t : Int) (n : List UInt8) (hl : recsFit l) (hb : l.length ≤ 70) : ddiref26_typed l t n = some (typedF l t n) := by
  rw [ddiref26_typed_eq]; unfold ddiref26_typed_i
  have key := for_list l hl.1 (fun k i s => ddiref26_typed_L8_i l t n (fun a0 => (bif hd a0 a0.length then (some a0) else none)) k i s) (fun i s nx => ddiref26_typed_L8_b l t n i s nx (fun a0 => (bif hd a0 a0.length then (some a0) else none))) (fun _ _ _ => rfl)
    (fun i s => s.length ≤ i) (fun r s => some (s ++ typedF r t n)) ?_ ?_ [] FU (by simp) (FU_big (by omega))
  · rw [ddiref26_typed_L8_eq, key]; simp
  · intro s nx _; simp [ddiref26_typed_L8_b, typedF]
  · intro i y r s nx h1 h2 h3 h4 hj h5
    have hy := hl.2 y (List.mem_of_getElem? h2)
    have h6 : (i : Int) < (l.length : Int) := by omega
    have hsz : (s.length + 1) * 160 ≤ 140737488355328 := by omega
    unfold ddiref26_typed_L8_b
    simp only [h6, decide_true, cond_t, ixB_nat, h2, oB_s, hy.1, hd_self, h4, List.length_singleton, hsz]
    rw [show ((gI y.cells 1) == t || (t == 255)) = ofType t y from rfl]
    unfold typedF
    cases ho : ofType t y
    · simp only [cond_f, List.filter_cons, ho, Bool.false_eq_true, if_false]
      rw [h5 s (by omega)]; rfl
    · simp only [cond_t, List.filter_cons, ho, if_true, List.map_cons]
      rw [h5 _ (by simp; omega)]
      simp [typedF, named]
theorem p_pick {R : Type} (t : Int) (l : List AV) (n : List UInt8) (qt : Int) (kr : List AV → List UInt8 → Int → List AV → Option R) (hl : recsFit l) (hb : l.length ≤ 70) : policy_local_1 t l n qt kr = kr l n qt (typedF l t n) := by
  rw [policy_local_1_eq]; unfold policy_local_1_i
  have key := for_list l hl.1 (fun k i s => policy_local_1_L8_i t l (l.length : Int) l n qt (fun a2 => kr l n qt a2) k i s) (fun i s nx => policy_local_1_L8_b t l (l.length : Int) i l n qt s nx (fun a2 => kr l n qt a2)) (fun _ _ _ => rfl)
    (fun i s => s.length ≤ i) (fun r s => kr l n qt (s ++ typedF r t n)) ?_ ?_ [] FU (by simp) (FU_big (by omega))
  · rw [policy_local_1_L8_eq, key]; simp
  · intro s nx _; simp [policy_local_1_L8_b, typedF]
  · intro i y r s nx h1 h2 h3 h4 hj h5
    have hy := hl.2 y (List.mem_of_getElem? h2)
    have h6 : (i : Int) < (l.length : Int) := by omega
    have hsz : (s.length + 1) * 160 ≤ 140737488355328 := by omega
    unfold policy_local_1_L8_b
    simp only [h6, decide_true, cond_t, ixB_nat, h2, oB_s, hy.1, hd_self, h4, List.length_singleton, hsz]
    rw [show ((gI y.cells 1) == t || (t == 255)) = ofType t y from rfl]
    unfold typedF
    cases ho : ofType t y
    · simp only [cond_f, List.filter_cons, ho, Bool.false_eq_true, if_false]
      rw [h5 s (by omega)]; rfl
    · simp only [cond_t, List.filter_cons, ho, if_true, List.map_cons]
      rw [h5 _ (by simp; omega)]
      simp [typedF, named]
def localF (l : List AV) (n : List UInt8) (t : Int) : List AV := if typedF l t n = [] then typedF l 5 n else typedF l t n
theorem p_plocal (l : List AV) (n : List UInt8) (t : Int) (hl : recsFit l) (hb : l.length ≤ 70) : policy_local l n t = some (localF l n t) := by
  rw [policy_local_eq]; unfold policy_local_i
  simp only [p_pick _ _ _ _ _ hl hb, hd_self, cond_t]
  unfold localF
  by_cases h : typedF l t n = []
  · simp [h]
  · have : 0 < (typedF l t n).length := List.length_pos_iff.2 h
    have e : ((typedF l t n).length : Int) > 0 := by omega
    simp only [e, decide_true, cond_t, if_neg h]
end Go.Proofs.YthhnnlipnpfkcaaDoor.Dn
