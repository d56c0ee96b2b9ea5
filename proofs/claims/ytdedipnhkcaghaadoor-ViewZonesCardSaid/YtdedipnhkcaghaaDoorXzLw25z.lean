/- Views: the law ViewZones. -/
import Derived.Test.YtdedipnhkcaghaaDoorXzLw25c
set_option linter.all false
namespace Go.Proofs.YtdedipnhkcaghaaDoor.Dn
open Go Go.Pev
set_option linter.unusedVariables false
set_option linter.unusedSimpArgs false
set_option maxRecDepth 4000

theorem zone_spec (name : List UInt8) : ∀ (l : List AV) (b : List UInt8) (m : Int), (m = -1 ∧ b = [] ∨ m = (labelsF b).length ∧ underB name b = true) →
    ((zoneF name b m l).2 = false → (zoneF name b m l).1 = [] ∧ m = -1 ∧ ∀ y, y ∈ l → underB name (gS y.cells 0) = false) ∧
    ((zoneF name b m l).2 = true → underB name (zoneF name b m l).1 = true ∧ (0 ≤ m → (labelsF b).length ≤ (labelsF (zoneF name b m l).1).length) ∧ (∀ y, y ∈ l → underB name (gS y.cells 0) = true → (labelsF (gS y.cells 0)).length ≤ (labelsF (zoneF name b m l).1).length) ∧
      ((0 ≤ m ∧ (zoneF name b m l).1 = b) ∨ ∃ y, y ∈ l ∧ gS y.cells 0 = (zoneF name b m l).1))
  | [], b, m, h => by
    simp only [zoneF]
    rcases h with ⟨rfl, rfl⟩ | ⟨rfl, h⟩
    · exact ⟨fun _ => ⟨rfl, by trivial, fun y hy => by simp at hy⟩, fun h => by simp at h⟩
    · refine ⟨fun h2 => ?_, fun _ => ⟨h, fun _ => Nat.le_refl _, fun y hy => by simp at hy, .inl ⟨by omega, by trivial⟩⟩⟩
      simp at h2
  | y :: r, b, m, h => by
    simp only [zoneF]
    split
    · rename_i hc
      have ih := zone_spec name r (gS y.cells 0) (labelsF (gS y.cells 0)).length (.inr ⟨rfl, hc.2⟩)
      refine ⟨fun h2 => ?_, fun h2 => ?_⟩
      · have := (ih.1 h2).2.1; omega
      · obtain ⟨a1, a2, a3, a4⟩ := ih.2 h2
        have a2' := a2 (by omega)
        refine ⟨a1, fun hm => ?_, fun z hz hu => ?_, ?_⟩
        · rcases h with ⟨rfl, _⟩ | ⟨rfl, _⟩
          · omega
          · omega
        · rcases List.mem_cons.1 hz with rfl | hz
          · exact a2'
          · exact a3 z hz hu
        · right
          rcases a4 with ⟨_, h4⟩ | ⟨z, hz, h4⟩
          · exact ⟨y, List.mem_cons_self, h4.symm⟩
          · exact ⟨z, List.mem_cons_of_mem _ hz, h4⟩
    · rename_i hc
      have ih := zone_spec name r b m h
      refine ⟨fun h2 => ?_, fun h2 => ?_⟩
      · obtain ⟨a1, a2, a3⟩ := ih.1 h2
        refine ⟨a1, a2, fun z hz => ?_⟩
        rcases List.mem_cons.1 hz with rfl | hz
        · cases hu : underB name (gS z.cells 0)
          · rfl
          · exact absurd ⟨by omega, hu⟩ hc
        · exact a3 z hz
      · obtain ⟨a1, a2, a3, a4⟩ := ih.2 h2
        refine ⟨a1, a2, fun z hz hu => ?_, ?_⟩
        · rcases List.mem_cons.1 hz with rfl | hz
          · have : ¬ m < ((labelsF (gS z.cells 0)).length : Int) := fun hlt => hc ⟨hlt, hu⟩
            rcases h with ⟨rfl, _⟩ | ⟨rfl, _⟩
            · omega
            · have := a2 (by omega); omega
          · exact a3 z hz hu
        · rcases a4 with h4 | ⟨z, hz, h4⟩
          · exact .inl h4
          · exact .inr ⟨z, List.mem_cons_of_mem _ hz, h4⟩
/-- Of two names at or above a name the longer one is under the other. -/
theorem under_chain {n x z : List UInt8} (h1 : underB n x = true) (h2 : underB n z = true) (h : (labelsF x).length ≤ (labelsF z).length) : underB z x = true := by
  obtain ⟨n1, x1⟩ := under_ok h1
  obtain ⟨_, z1⟩ := under_ok h2
  have e1 : labelsF x <:+ labelsF n := by
    rw [under_iff n1 x1]
    simp [underB, n1, x1] at h1
    simpa using h1
  have e2 : labelsF z <:+ labelsF n := by
    rw [under_iff n1 z1]
    simp [underB, n1, z1] at h2
    simpa using h2
  have e3 := List.suffix_of_suffix_length_le e1 e2 h
  rw [under_iff z1 x1] at e3
  unfold underB
  rw [z1, x1, e3]; rfl
theorem law_ViewZones (n : List UInt8) (a b c l d : List AV) (hn : n.length ≤ 9223372036854775807) (ha : matchesFit a) (hb : matchesFit b) (hc : matchesFit c) (hl : zonesFit l) (name : List UInt8) : ddilaw25_ViewZones n a b c l d name = some true := by
  rw [ddilaw25_ViewZones_eq]; unfold ddilaw25_ViewZones_i
  generalize hv : (AV.agg [(.str n), (.sl 6 a), (.sl 6 b), (.sl 6 c), (.sl 1 l), (.sl 8 d)]) = v
  have hvf : viewsFit [v] := by
    refine ⟨by simp, fun y hy => ?_⟩
    simp at hy; subst hy; subst hv
    exact ⟨rfl, hn, ha, hb, hc, hl⟩
  have hf := (few_fit [v] hvf).2 (fewV v) (by simp [fewF])
  have e0 : ixB (fewF [v]) 0 = some (fewV v) := by simp [fewF]
  obtain ⟨x1, _, x3⟩ := view_x hf.1
  have hnm : (name.take 300).length ≤ 9223372036854775807 := by simp; omega
  simp only [p_few _ hvf, oB_s, e0, x1, cond_t, cut_min _ 300 300 rfl, x3]
  generalize name.take 300 = nm at hnm
  have hzf : zonesFit (aL (gC (fewV v).cells 4)) := hf.2.2.2.2.2
  rw [p_vZone _ _ _ _ _ _ hzf _ hnm]
  generalize aL (gC (fewV v).cells 4) = L at hzf
  simp only [oB_s]
  have hs := zone_spec nm L [] (-1) (.inl ⟨rfl, rfl⟩)
  generalize hz : zoneF nm [] (-1) L = z at hs
  obtain ⟨zn, ok⟩ := z
  simp only at hs
  have hzl : zn.length ≤ 9223372036854775807 := by
    cases ok with
    | false => rw [(hs.1 rfl).1]; simp
    | true => have := okName_len (under_ok (hs.2 rfl).1).2; omega
  -- the loop finds nothing wrong
  have hloop : ∀ kx : Bool → Option Bool, ddilaw25_ViewZones_L12 nm zn ok L (L.length : Int) kx FU false 0 = kx (L.any fun y => gS y.cells 0 == zn) := by
    intro kx
    rw [ddilaw25_ViewZones_L12_eq]
    have key := for_list L hzf.1 (fun n i s => ddilaw25_ViewZones_L12_i nm zn ok L (L.length : Int) kx n s i) (fun i s nx => ddilaw25_ViewZones_L12_b nm zn ok s L (L.length : Int) i (fun p q => nx q p) kx) (fun _ _ _ => rfl)
      (fun _ _ => True) (fun r s => kx (s || r.any fun y => gS y.cells 0 == zn)) ?_ ?_ false FU trivial (FU_big (by have := hzf.1; omega))
    · simpa using key
    · intro s nx _; simp [ddilaw25_ViewZones_L12_b]
    · intro i y r s nx h1 h2 h3 h4 _ h5
      have hm := List.mem_of_getElem? h2
      obtain ⟨hy1, hy2⟩ := hzf.2 y hm
      have h6 : (i : Int) < (L.length : Int) := by omega
      unfold ddilaw25_ViewZones_L12_b
      simp only [h6, decide_true, cond_t, ixB_nat, h2, oB_s, hy1, ddilaw25_ViewZones_J26_eq, ddilaw25_ViewZones_J26_i, p_Under _ _ hnm hy2, p_Under _ _ hzl hy2, h4, h5 _ trivial, List.any_cons, Bool.or_assoc]
      cases hu : underB nm (gS y.cells 0)
      · rfl
      · cases ok with
        | false =>
          have := (hs.1 rfl).2.2 y hm
          rw [hu] at this; cases this
        | true =>
          have := under_chain hu (hs.2 rfl).1 ((hs.2 rfl).2.2.1 y hm hu)
          rw [this]; rfl
  rw [hloop]
  simp only [ddilaw25_ViewZones_J35_eq, ddilaw25_ViewZones_J35_i, p_Under _ _ hnm hzl, p_awake, oB_s]
  cases ok with
  | false =>
    rw [(hs.1 rfl).1]; rfl
  | true =>
    obtain ⟨a1, _, _, a4⟩ := hs.2 rfl
    have hany : (L.any fun y => gS y.cells 0 == zn) = true := by
      rcases a4 with ⟨h, _⟩ | ⟨y, hy, he⟩
      · omega
      · exact List.any_eq_true.2 ⟨y, hy, by simpa using he⟩
    rw [hany, a1]; rfl
end Go.Proofs.YtdedipnhkcaghaaDoor.Dn

