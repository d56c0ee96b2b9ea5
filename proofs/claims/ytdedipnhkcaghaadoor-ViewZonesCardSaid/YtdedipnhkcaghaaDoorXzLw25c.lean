/- Views: the laws ViewMatches, ViewChecks, ViewSelects. -/
import Derived.Test.YtdedipnhkcaghaaDoorXzLw25b
set_option linter.all false
namespace Go.Proofs.YtdedipnhkcaghaaDoor.Dn
open Go Go.Pev
set_option linter.unusedVariables false
set_option linter.unusedSimpArgs false
set_option maxRecDepth 4000

theorem cut_min {α : Type} (l : List α) (n : Int) (k : Nat) (h : n = k) : cutI l none (some (if n < (l.length : Int) then n else (l.length : Int))) = some (l.take k) := by
  subst h
  split
  · exact cut_take l k (by omega)
  · rw [cut_take l l.length (by omega)]
    congr 1
    rw [List.take_length, List.take_of_length_le (by omega)]
def cutStr (y : AV) : AV := .str ((gS y.cells 0).take 300)
def zonesCut (l : List AV) : List AV := (l.take 40).map cutStr
def fewV (y : AV) : AV := .agg [(.str ((gS y.cells 0).take 300)), (.sl 6 ((gL y.cells 1).take 70)), (.sl 6 ((gL y.cells 2).take 70)), (.sl 6 ((gL y.cells 3).take 70)), (.sl 1 (zonesCut (gL y.cells 4))), .nils]
def fewF (l : List AV) : List AV := (l.take 10).map fewV
theorem p_L27 (l : List AV) (hl : zonesFit l) (v0 : List AV) (v4 : Int) (a0 : List AV) (nm : List UInt8) (a b c e : List AV) (kx : List AV → Option (List AV)) : ddilaw25_few_L27 v0 v4 a0 nm a b c l e kx FU 0 [] = kx (zonesCut l) := by
  have hbig := hl.1
  have hlen : (l.take 40).length = min 40 l.length := by simp
  rw [ddilaw25_few_L27_eq]
  have key := for_list (l.take 40) (by omega) (ddilaw25_few_L27_i v0 v4 a0 nm a b c l e kx) (fun i s nx => ddilaw25_few_L27_b v0 v4 i a0 nm a b c l e s nx kx) (fun _ _ _ => rfl)
    (fun i s => s.length = i) (fun r s => kx (s ++ r.map cutStr)) ?_ ?_ [] FU rfl (FU_big (by omega))
  · simpa [zonesCut] using key
  · intro s nx hs
    unfold ddilaw25_few_L27_b
    have : (decide (((l.take 40).length : Int) < (l.length : Int)) && decide (((l.take 40).length : Int) < 40)) = false := by
      rw [hlen, ← Bool.decide_and]
      exact decide_eq_false (by omega)
    rw [this]; simp
  · intro i y r s nx h1 h2 h3 h4 hs h5
    rw [hlen] at h3
    have h2' : l[i]? = some y := by rw [List.getElem?_take_of_lt (by omega)] at h2; exact h2
    have hy := hl.2 y (List.mem_of_getElem? h2')
    unfold ddilaw25_few_L27_b
    have g : (decide ((i : Int) < (l.length : Int)) && decide ((i : Int) < 40)) = true := by
      rw [← Bool.decide_and]
      exact decide_eq_true (by omega)
    have sz : decide ((s.length + ([(.str ((gS y.cells 0).take 300))] : List AV).length) * 16 ≤ 140737488355328) = true := decide_eq_true (by simp; omega)
    simp only [g, cond_t, ixB_nat, h2', oB_s, hy.1, cut_min _ 300 300 rfl, hd_self, sz, h4]
    rw [h5 _ (by simp; omega)]
    simp [cutStr]
theorem p_few (l : List AV) (hl : viewsFit l) : ddilaw25_few l = some (fewF l) := by
  have hbig := hl.1
  have hlen : (l.take 10).length = min 10 l.length := by simp
  rw [ddilaw25_few_eq]; unfold ddilaw25_few_i
  rw [ddilaw25_few_L8_eq]
  have key := for_list (l.take 10) (by omega) (ddilaw25_few_L8_i l fun a0 => (bif hd a0 a0.length then (some a0) else none)) (fun i s nx => ddilaw25_few_L8_b l i s nx fun a0 => (bif hd a0 a0.length then (some a0) else none)) (fun _ _ _ => rfl)
    (fun i s => s.length = i) (fun r s => some (s ++ r.map fewV)) ?_ ?_ [] FU rfl (FU_big (by omega))
  · simp only [hd_nil, hd_self, List.length_nil, Bool.and_self, cond_t]
    simpa [fewF] using key
  · intro s nx hs
    unfold ddilaw25_few_L8_b
    have : (decide (((l.take 10).length : Int) < (l.length : Int)) && decide (((l.take 10).length : Int) < 10)) = false := by
      rw [hlen, ← Bool.decide_and]
      exact decide_eq_false (by omega)
    rw [this]; simp
  · intro i y r s nx h1 h2 h3 h4 hs h5
    rw [hlen] at h3
    have h2' : l[i]? = some y := by rw [List.getElem?_take_of_lt (by omega)] at h2; exact h2
    have hy := hl.2 y (List.mem_of_getElem? h2')
    unfold ddilaw25_few_L8_b
    have g : (decide ((i : Int) < (l.length : Int)) && decide ((i : Int) < 10)) = true := by
      rw [← Bool.decide_and]
      exact decide_eq_true (by omega)
    have sz : ∀ q : AV, decide ((s.length + ([q] : List AV).length) * 136 ≤ 140737488355328) = true := fun q => decide_eq_true (by simp; omega)
    simp only [g, cond_t, ixB_nat, h2', oB_s, hy.1, cut_min _ 300 300 rfl, cut_min _ 70 70 rfl, hd_self, hd_nil, List.length_nil, Bool.and_self, p_L27 _ hy.2.2.2.2.2, sz, h4]
    rw [h5 _ (by simp; omega)]
    simp [fewV]
theorem matchesFit_take {l : List AV} (hl : matchesFit l) (i : Nat) : matchesFit (l.take i) := ⟨by have := hl.1; simp; omega, fun y hy => hl.2 y (List.mem_of_mem_take hy)⟩
theorem zonesCut_fit (l : List AV) (hl : zonesFit l) : zonesFit (zonesCut l) := by
  refine ⟨by have := hl.1; simp [zonesCut]; omega, fun y hy => ?_⟩
  unfold zonesCut at hy
  obtain ⟨z, _, rfl⟩ := List.mem_map.1 hy
  refine ⟨rfl, ?_⟩
  show ((gS z.cells 0).take 300).length ≤ _
  simp; omega
theorem few_fit (l : List AV) (hl : viewsFit l) : viewsFit (fewF l) := by
  refine ⟨by have := hl.1; simp [fewF]; omega, fun y hy => ?_⟩
  unfold fewF at hy
  obtain ⟨z, hz, rfl⟩ := List.mem_map.1 hy
  obtain ⟨_, h0, h1, h2, h3, h4⟩ := hl.2 z (List.mem_of_mem_take hz)
  refine ⟨rfl, ?_, matchesFit_take h1 70, matchesFit_take h2 70, matchesFit_take h3 70, zonesCut_fit _ h4⟩
  show ((gS z.cells 0).take 300).length ≤ _
  simp; omega

/-! ### awake -/
theorem matchesFit_nil : matchesFit [] := ⟨by simp, fun y hy => by simp at hy⟩
theorem zonesFit_nil : zonesFit [] := ⟨by simp, fun y hy => by simp at hy⟩
def mInside : AV := (.agg [(.bool false), (.int .u64 0), (.int .u64 (167772160 : Int)), (.int .i64 (8 : Int)), (.bool false), (.bool false)])
def mAll : AV := (.agg [(.bool false), (.int .u64 0), (.int .u64 0), (.int .i64 0), (.bool true), (.bool false)])
def mNot : AV := (.agg [(.bool false), (.int .u64 0), (.int .u64 (167772160 : Int)), (.int .i64 (8 : Int)), (.bool false), (.bool true)])
def vIn : AV := (.agg [(.str ([105, 110, 115, 105, 100, 101] : List UInt8)), (.sl 6 ([mInside] : List AV)), .nils, .nils, (.sl 1 ([(.str ([46] : List UInt8)), (.str ([101, 120, 97, 109, 112, 108, 101, 46] : List UInt8))] : List AV)), .nils])
def vAll : AV := (.agg [(.str ([97, 108, 108] : List UInt8)), (.sl 6 ([mAll] : List AV)), .nils, .nils, .nils, .nils])
def vBad : AV := (.agg [(.str ([73, 110, 115, 105, 100, 101] : List UInt8)), .nils, .nils, .nils, .nils, .nils])
theorem fit_one (m : AV) (h : fitC T_api_Match m.cells = true) : matchesFit [m] := ⟨by simp, fun y hy => by simp at hy; subst hy; exact h⟩
theorem fitIn : viewFit vIn := ⟨rfl, by decide, fit_one _ rfl, matchesFit_nil, matchesFit_nil, by
  refine ⟨by decide, fun y hy => ?_⟩
  rcases List.mem_cons.1 hy with rfl | hy
  · exact ⟨rfl, by decide⟩
  rcases List.mem_cons.1 hy with rfl | hy
  · exact ⟨rfl, by decide⟩
  · simp at hy⟩
theorem fitAll : viewFit vAll := ⟨rfl, by decide, fit_one _ rfl, matchesFit_nil, matchesFit_nil, zonesFit_nil⟩
theorem fitBad : viewFit vBad := ⟨rfl, by decide, matchesFit_nil, matchesFit_nil, matchesFit_nil, zonesFit_nil⟩
theorem fitL2 : viewsFit [vIn, vAll] := ⟨by decide, fun y hy => by
  rcases List.mem_cons.1 hy with rfl | hy
  · exact fitIn
  rcases List.mem_cons.1 hy with rfl | hy
  · exact fitAll
  · simp at hy⟩
theorem fitM2 : matchesFit [mNot, mAll] := ⟨by decide, fun y hy => by
  rcases List.mem_cons.1 hy with rfl | hy
  · rfl
  rcases List.mem_cons.1 hy with rfl | hy
  · rfl
  · simp at hy⟩
theorem fitB1 : viewsFit [vBad] := ⟨by decide, fun y hy => by simp at hy; subst hy; exact fitBad⟩
theorem p_awake : ddilaw25_awake = some true := by
  have e1 : view_Select [vIn, vAll] false 0 167772161 = some (0, true) := by rw [p_vSelect _ fitL2]; decide +kernel
  have e2 : view_Select [vIn, vAll] true 0 0 = some (1, true) := by rw [p_vSelect _ fitL2]; decide +kernel
  have e3 : rdE vIn 0 true 6 = some vIn := rfl
  have e3' : ([vIn, vAll] : List AV)[(0 : Int).toNat]? = some vIn := rfl
  have e3'' : decide ((0 : Int) ≤ 0 ∧ (0 : Int) < (([vIn, vAll] : List AV).length : Int)) = true := rfl
  have e4 : fitV (.st T_api_View) vIn = true := rfl
  have e5 : view_Zone (gS vIn.cells 0) (gL vIn.cells 1) (gL vIn.cells 2) (gL vIn.cells 3) (gL vIn.cells 4) (gL vIn.cells 5) ([97, 46, 101, 120, 97, 109, 112, 108, 101, 46] : List UInt8) = some ([101, 120, 97, 109, 112, 108, 101, 46], true) := by
    rw [p_vZone _ _ _ _ _ _ fitIn.2.2.2.2.2 _ (by decide)]; decide +kernel
  have e6 : view_Match [mNot, mAll] false 0 167772161 = some false := by rw [p_vMatch _ fitM2]; decide +kernel
  have e7 : view_Match [mNot, mAll] false 0 184549377 = some true := by rw [p_vMatch _ fitM2]; decide +kernel
  have e8 : view_Check [vIn, vAll] = some 0 := by rw [p_vCheck _ fitL2]; decide +kernel
  have e9 : view_Check [vBad] = some 2 := by rw [p_vCheck _ fitB1]; decide +kernel
  simp only [vIn, vAll, mInside, mAll, mNot, vBad] at e1 e2 e3 e3' e3'' e4 e5 e6 e7 e8 e9
  rw [ddilaw25_awake_eq]; unfold ddilaw25_awake_i
  simp only [hd_self, cond_t, e1, e2, e3, e3', e3'', e4, e5, e6, e7, e8, e9, oB_s, Bool.not_false]
  rfl

/-! ### What a law is handed -/
def tyMatch : Ty := .st [.st [.st [.bool, .int .u64, .int .u64], .int .i64], .bool, .bool]
theorem matchesFit_of {l : List AV} (h : l.length ≤ 9223372036854775807 ∧ ∀ y, y ∈ l → fitC tyMatch.lts y.cells = true ∧ tyMatch.good y.cells 0) : matchesFit l :=
  ⟨h.1, fun y hy => (h.2 y hy).1⟩
theorem zonesFit_of {l : List AV} (h : l.length ≤ 9223372036854775807 ∧ ∀ y, y ∈ l → fitC Ty.str.lts y.cells = true ∧ Ty.str.good y.cells 0) : zonesFit l :=
  ⟨h.1, fun y hy => ⟨(h.2 y hy).1, (h.2 y hy).2⟩⟩
end Go.Proofs.YtdedipnhkcaghaaDoor.Dn

