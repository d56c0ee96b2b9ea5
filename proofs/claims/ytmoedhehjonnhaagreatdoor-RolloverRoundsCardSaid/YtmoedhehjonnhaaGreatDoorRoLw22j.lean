/- The program's Safe. -/
import Derived.Test.YtmoedhehjonnhaaGreatDoorRoLw22i
set_option linter.all false
namespace Go.Proofs.YtmoedhehjonnhaaGreatDoor.Dn
open Go Go.Pev
set_option linter.unusedVariables false
set_option linter.unusedSimpArgs false
set_option maxRecDepth 8000
theorem q2l (z0 : List UInt8) : ∀ (L : List Mg) (tags : List Int), chkS z0 tags L = 0 → ∀ e, e ∈ L → errD e.z e.s = 0 ∧ e.z = z0 ∧ badT e = false
  | [], _, _, e, he => by simp at he
  | x :: L, tags, h, e, he => by
    unfold chkS at h
    cases h1 : errD x.z x.s != 0 || !(x.z == z0) with
    | true => rw [h1] at h; simp at h
    | false =>
      rw [h1, cond_f] at h
      cases h2 : tags.contains (tagM x) with
      | true => rw [h2] at h; simp at h
      | false =>
        rw [h2, cond_f] at h
        cases h3 : badT x with
        | true => rw [h3] at h; simp at h
        | false =>
          rw [h3, cond_f] at h
          rcases List.mem_cons.1 he with rfl | he
          · simp at h1
            exact ⟨h1.1, h1.2, h3⟩
          · exact q2l z0 L _ h e he
theorem q5k {L : List Mg} (h : chk L = 0) : L.length ≤ 16 ∧ ∀ e, e ∈ L → errD e.z e.s = 0 ∧ e.z = qwi L ∧ badT e = false := by
  unfold chk at h
  cases h1 : decide ((L.length : Int) > 16) with
  | true => rw [h1] at h; simp at h
  | false =>
    rw [h1, cond_f] at h
    simp only [decide_eq_false_iff_not] at h1
    exact ⟨by omega, q2l _ L [] h⟩
theorem qyr {e : Mg} (h : badT e = false) : 0 ≤ e.p ∧ e.p ≤ e.a ∧ e.a ≤ e.r ∧ e.r ≤ e.m ∧ e.m ≤ 4294967295 := by
  unfold badT at h
  simp only [Bool.or_eq_false_iff, decide_eq_false_iff_not] at h
  omega
theorem qbdd {L : List Mg} (h : chk L = 0) : inR L := by
  intro e he t ht
  have := qyr ((q5k h).2 e he).2.2
  simp only [Mg.ts, List.mem_cons, List.not_mem_nil, or_false] at ht
  rcases ht with rfl | rfl | rfl | rfl <;> omega
def qtf (w t1 t2 : Int) : Bool := decide ((if t2 > t1 then t2 else t1) - (if t2 < t1 then t2 else t1) ≤ w)
def qll (L : List Mg) (w t1 t2 : Int) : Bool := !qtf w t1 t2 || qgz L t1 t2
def qir (w f u : Int) : Bool := (decide (w < 0) || decide (f < 0)) || (decide (u < f) || decide (u > 4294967295))
def qp5 (L : List Mg) (w f u : Int) : Bool := bif chk L != 0 || qir w f u then false else (momS f u L).all fun t1 => (momS f u L).all fun t2 => qll L w t1 t2
theorem qbbm (L : List Mg) (hL : L.length ≤ 1000000) (w t1 : Int) (M : List Int) (hM : M.length ≤ 1000000) (hR : ∀ t, t ∈ M → 0 ≤ t ∧ t ≤ 4294967295) (h1 : 0 ≤ t1 ∧ t1 ≤ 4294967295) (v9 v38 : List AV) (v39 v40 : Int) (kx : Unit → Option Bool) :
    qjg (mgL L) w v9 t1 v38 v39 v40 (inL M) (M.length : Int) kx FU 0 = bif M.all (fun t2 => qll L w t1 t2) then kx () else some false := by
  rw [qsf]
  refine qvy M (by omega) (fun n i => qeh (mgL L) w v9 t1 v38 v39 v40 (inL M) (M.length : Int) kx n i) (fun i nx => qeg (mgL L) w v9 t1 v38 v39 v40 (inL M) (M.length : Int) i nx kx) (fun n i => rfl) (fun r => bif r.all (fun t2 => qll L w t1 t2) then kx () else some false) (fun nx => ?_) (fun i t2 r nx h2 h3 h4 h5 hnx => ?_)
  · unfold qeg
    rw [decide_eq_false (show ¬ (M.length : Int) < (M.length : Int) by omega), cond_f]
    rfl
  · have hg : (inL M)[i]? = some (.int .i64 t2) := by unfold inL; rw [List.getElem?_map, h3]; rfl
    have ht := hR t2 (List.mem_of_getElem? h3)
    unfold qeg
    rw [decide_eq_true (show (i : Int) < (M.length : Int) by omega), cond_t, ixB_nat, hg, oB_s]
    have e1 : fitC [(.i .i64)] (AV.int .i64 t2).cells = true := rfl
    have e2 : gI (AV.int .i64 t2).cells 0 = t2 := rfl
    rw [e1, cond_t, e2]
    have e3 : IntKind.i64.wrap ((if t2 > t1 then t2 else t1) - (if t2 < t1 then t2 else t1)) = (if t2 > t1 then t2 else t1) - (if t2 < t1 then t2 else t1) := w64 (by split <;> split <;> omega) (by split <;> split <;> omega)
    rw [e3, h5, qbbl L hL, oB_s, hnx]
    rw [List.all_cons]
    have hp : qll L w t1 t2 = (!qtf w t1 t2 || qgz L t1 t2) := rfl
    have hn : decide ((if t2 > t1 then t2 else t1) - (if t2 < t1 then t2 else t1) ≤ w) = qtf w t1 t2 := rfl
    rw [hn, hp]
    cases qtf w t1 t2 <;> cases qgz L t1 t2 <;> rfl
theorem q6g (zs : List Int) (x : Int) : x ∈ Lib.compact zs ↔ x ∈ zs := by
  unfold Lib.compact Lib.compactUpTo
  have hget : ∀ j, j < zs.length → zs.toArray[j]! = zs.getD j 0 := fun j hj => by
    simp [getElem!_def, hj]
  constructor
  · intro h
    obtain ⟨j, h1, rfl⟩ := List.mem_map.1 h
    have hj : j < zs.length := by
      have := (List.mem_filter.1 h1).1
      simpa using this
    rw [hget j hj, List.getD_eq_getElem?_getD, List.getElem?_eq_getElem hj]
    exact List.getElem_mem hj
  · intro h
    obtain ⟨j, hj, rfl⟩ := List.getElem_of_mem h
    have key : ∀ j (hj : j < zs.length), zs[j] ∈ ((List.range zs.length).filter (Lib.keeps zs.toArray)).map (zs.toArray[·]!) := by
      intro j
      induction j with
      | zero =>
        intro hj
        refine List.mem_map.2 ⟨0, List.mem_filter.2 ⟨by simpa using hj, Lib.keeps_lt_one _ 0 (by omega)⟩, ?_⟩
        rw [hget 0 hj, List.getD_eq_getElem?_getD, List.getElem?_eq_getElem hj]; rfl
      | succ j ih =>
        intro hj
        by_cases he : zs.toArray[j + 1]! = zs.toArray[j + 1 - 1]!
        · have h1 := ih (by omega)
          rw [Nat.add_sub_cancel, hget _ hj, hget _ (by omega), List.getD_eq_getElem?_getD, List.getD_eq_getElem?_getD, List.getElem?_eq_getElem hj, List.getElem?_eq_getElem (show j < zs.length by omega)] at he
          simp only [Option.getD_some] at he
          rw [he]
          exact h1
        · refine List.mem_map.2 ⟨j + 1, List.mem_filter.2 ⟨by simpa using hj, Lib.keeps_pos he⟩, ?_⟩
          rw [hget _ hj, List.getD_eq_getElem?_getD, List.getElem?_eq_getElem hj]; rfl
    exact key j hj
theorem ql6 (f u : Int) (L : List Mg) (x : Int) : x ∈ momS f u L ↔ x ∈ [f, u] ++ momL f u L := by
  unfold momS
  rw [q6g]
  exact (List.mergeSort_perm _ _).mem_iff
theorem q5l (f u : Int) (L : List Mg) (x : Int) (h : x ∈ momS f u L) : x ∈ [f, u] ++ momL f u L := (ql6 f u L x).1 h
theorem q5m (L : List Mg) (hL : L.length ≤ 1000) (hz : qjk L) (w f u : Int) : qc3 (mgL L) w f u = some (qp5 L w f u) := by
  rw [qyf]
  unfold qh7
  rw [qrq L (by omega) hz, oB_s]
  unfold qp5
  have hb : (((((chk L != 0) || (decide (w < 0))) || (decide (f < 0))) || (decide (u < f))) || (decide (u > (4294967295 : Int)))) = (chk L != 0 || qir w f u) := by
    unfold qir
    cases chk L != 0 <;> cases decide (w < 0) <;> cases decide (f < 0) <;> rfl
  rw [hb]
  cases h1 : (chk L != 0 || qir w f u) with
  | true => rfl
  | false =>
    simp only [cond_f]
    rw [Bool.or_eq_false_iff] at h1
    obtain ⟨h2, h3⟩ := h1
    have hc : chk L = 0 := by simpa using h2
    unfold qir at h3
    simp only [Bool.or_eq_false_iff, decide_eq_false_iff_not] at h3
    rw [q93 f u L hL (qbdd hc), oB_s]
    have hlen : (momS f u L).length ≤ 100000 := by
      have := qyq f u L
      unfold momS Lib.compact Lib.compactUpTo
      rw [List.length_map]
      refine Nat.le_trans (List.length_filter_le _ _) ?_
      simp
      omega
    have hR : ∀ t, t ∈ momS f u L → 0 ≤ t ∧ t ≤ 4294967295 := by
      intro t ht
      have := q5l f u L t ht
      rw [List.mem_append] at this
      rcases this with h | h
      · simp at h; omega
      · unfold momL at h
        obtain ⟨e, _, h⟩ := List.mem_flatMap.1 h
        obtain ⟨x, _, h⟩ := List.mem_flatMap.1 h
        unfold qlk at h
        have := (List.mem_filter.1 h).2
        simp at this
        omega
    rw [qrp, qsg]
    generalize hM : momS f u L = M at hlen hR ⊢
    have key := qvy M (by omega) (fun n i => qej (mgL L) w (inL M) (inL M) (M.length : Int) (fun (_ : Unit) => (some true)) n i) (fun i nx => qei (mgL L) w (inL M) (inL M) (M.length : Int) i nx (fun (_ : Unit) => (some true))) (fun n i => rfl) (fun r => some (r.all fun t1 => M.all fun t2 => qll L w t1 t2)) (fun nx => by
        unfold qei
        rw [decide_eq_false (show ¬ (M.length : Int) < (M.length : Int) by omega), cond_f]
        rfl)
      (fun i t1 r nx h4 h5 h6 h7 hnx => by
        have hg : (inL M)[i]? = some (.int .i64 t1) := by unfold inL; rw [List.getElem?_map, h5]; rfl
        unfold qei
        rw [decide_eq_true (show (i : Int) < (M.length : Int) by omega), cond_t, ixB_nat, hg, oB_s]
        have e1 : fitC [(.i .i64)] (AV.int .i64 t1).cells = true := rfl
        have e2 : gI (AV.int .i64 t1).cells 0 = t1 := rfl
        rw [e1, cond_t, e2, qrp]
        refine (qbbm L (by omega) w t1 M (by omega) hR (hR t1 (List.mem_of_getElem? h5)) _ _ _ _ _).trans ?_
        rw [h7, hnx, List.all_cons]
        cases M.all fun t2 => qll L w t1 t2 <;> rfl)
    exact key
end Go.Proofs.YtmoedhehjonnhaaGreatDoor.Dn
