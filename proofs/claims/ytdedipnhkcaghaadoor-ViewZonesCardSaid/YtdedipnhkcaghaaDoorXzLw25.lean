/- Views: what the program's and ddiref25's Match answer. -/
import Derived.Test.YtdedipnhkcaghaaDoorXzLw01u
import Derived.Test.YtdedipnhkcaghaaDoorXzLw03p
import Derived.Test.YtdedipnhkcaghaaDoorXzLibC
set_option linter.all false
namespace Go.Proofs.YtdedipnhkcaghaaDoor.Dn
open Go Go.Pev
set_option linter.unusedVariables false
set_option linter.unusedSimpArgs false
set_option maxRecDepth 4000

def matchesFit (l : List AV) : Prop := l.length ≤ 9223372036854775807 ∧ ∀ y, y ∈ l → fitC T_api_Match y.cells = true
def hitB (y : AV) (v6 : Bool) (hi lo : Int) : Bool := gB y.cells 4 || contF (gB y.cells 0) (gI y.cells 1) (gI y.cells 2) (gI y.cells 3) v6 hi lo
def matchF (v6 : Bool) (hi lo : Int) : List AV → Bool
  | [] => false
  | y :: r => bif hitB y v6 hi lo then !(gB y.cells 5) else matchF v6 hi lo r
theorem p_vMatch (l : List AV) (hl : matchesFit l) (v6 : Bool) (hi lo : Int) : view_Match l v6 hi lo = some (matchF v6 hi lo l) := by
  rw [view_Match_eq]; unfold view_Match_i
  rw [view_Match_L6_eq, for_list0 l hl.1 (view_Match_L6_i l (l.length : Int) v6 hi lo fun _ => some false) (fun i nx => view_Match_L6_b l (l.length : Int) i v6 hi lo nx fun _ => some false) (fun _ _ => rfl) (fun r => some (matchF v6 hi lo r))]
  · intro nx; simp [view_Match_L6_b, matchF]
  · intro i y r nx h1 h2 h3 h4 h5
    have hy := hl.2 y (List.mem_of_getElem? h2)
    have h6 : (i : Int) < (l.length : Int) := by omega
    unfold view_Match_L6_b
    simp only [h6, decide_true, cond_t, ixB_nat, h2, oB_s, hy, p_pContains, h4, h5, matchF, hitB]
    cases gB y.cells 4 <;> cases contF (gB y.cells 0) (gI y.cells 1) (gI y.cells 2) (gI y.cells 3) v6 hi lo <;> rfl
def nameC (c : UInt8) : Bool := (decide (97 ≤ c.toNat) && decide (c.toNat ≤ 122)) || (decide (48 ≤ c.toNat) && decide (c.toNat ≤ 57)) || c.toNat == 45
def nameB (x : List UInt8) : Bool := decide (1 ≤ x.length) && decide (x.length ≤ 63) && x.all nameC
theorem p_called (x : List UInt8) (hx : x.length ≤ 9223372036854775807) : view_called x = some (nameB x) := by
  rw [view_called_eq]; unfold view_called_i
  rw [view_called_L14_eq, for_list0 x hx (view_called_L14_i x (x.length : Int) fun _ => some true) (fun i nx => view_called_L14_b x (x.length : Int) i nx fun _ => some true) (fun _ _ => rfl) (fun r => some (r.all nameC))]
  · unfold nameB
    by_cases h1 : x = []
    · subst h1; rfl
    · have e1 : (x == []) = false := by simpa using h1
      have h2 : 1 ≤ x.length := by
        cases x with
        | nil => exact absurd rfl h1
        | cons a r => simp
      by_cases h3 : x.length ≤ 63
      · have : ¬ (x.length : Int) > 63 := by omega
        simp only [e1, this, h2, h3, decide_true, decide_false, Bool.or_self, cond_f, Bool.true_and]
      · have : (x.length : Int) > 63 := by omega
        simp [e1, this, h3]
  · intro nx; simp [view_called_L14_b]
  · intro i a r nx h1 h2 h3 h4 h5
    have h6 : (i : Int) < (x.length : Int) := by omega
    have key : ∀ kn : Bool → Option Bool, view_called_J28 x (a.toNat : Int) (x.length : Int) i kn = kn (!nameC a) := by
      intro kn
      have co : ∀ (p a b : Bool), (bif p then kn a else kn b) = kn (bif p then a else b) := by intro p; cases p <;> intros <;> rfl
      rw [view_called_J28_eq]
      unfold view_called_J28_i nameC
      simp only [co]
      have fin : ∀ n : Fin 256, (bif ((decide ((n.val : Int) < (97 : Int))) || (decide ((n.val : Int) > (122 : Int)))) then (bif (decide ((n.val : Int) < (48 : Int))) then ((n.val : Int) != (45 : Int)) else ((decide ((n.val : Int) > (57 : Int))) && ((n.val : Int) != (45 : Int)))) else false) =
          !((decide (97 ≤ n.val) && decide (n.val ≤ 122)) || (decide (48 ≤ n.val) && decide (n.val ≤ 57)) || n.val == 45) := by decide +kernel
      exact congrArg kn (fin ⟨a.toNat, a.toNat_lt⟩)
    unfold view_called_L14_b
    simp only [h6, decide_true, cond_t, ixB_nat, h2, oB_s, key, h4]
    cases h7 : nameC a
    · simp [h7]
    · simp only [Bool.not_true, cond_t, cond_f, h5, List.all_cons, h7, Bool.true_and]

/-- What a list of strings is. -/
def zonesFit (l : List AV) : Prop := l.length ≤ 9223372036854775807 ∧ ∀ y, y ∈ l → fitC [.s] y.cells = true ∧ (gS y.cells 0).length ≤ 9223372036854775807
def viewFit (y : AV) : Prop := fitC T_api_View y.cells = true ∧ (gS y.cells 0).length ≤ 9223372036854775807 ∧ matchesFit (gL y.cells 1) ∧ matchesFit (gL y.cells 2) ∧ matchesFit (gL y.cells 3) ∧ zonesFit (gL y.cells 4)
def viewsFit (l : List AV) : Prop := l.length ≤ 9223372036854775807 ∧ ∀ y, y ∈ l → viewFit y
theorem view_x {y : AV} (h : fitC T_api_View y.cells = true) : fitC X_api_View y.cells = true ∧ (∀ k, k < 4 → fitV (.one (.sl 6)) (gC y.cells (if k = 0 then 1 else k)) = true) ∧ fitV (.st T_api_View) (.agg [(.str (gS y.cells 0)), (gC y.cells 1), (gC y.cells 2), (gC y.cells 3), (gC y.cells 4), (gC y.cells 5)]) = true := by
  unfold T_api_View at h
  obtain ⟨a, r1, e1, h1, h⟩ := fitC_cons h
  obtain ⟨b, r2, rfl, h2, h⟩ := fitC_cons h
  obtain ⟨c, r3, rfl, h3, h⟩ := fitC_cons h
  obtain ⟨d, r4, rfl, h4, h⟩ := fitC_cons h
  obtain ⟨e, r5, rfl, h5, h⟩ := fitC_cons h
  obtain ⟨f, r6, rfl, h6, h⟩ := fitC_cons h
  obtain rfl := fitC_nil h
  rw [e1]
  refine ⟨?_, ?_, ?_⟩
  · unfold X_api_View
    exact fitC_mk h1 (fitC_mk (fitL_op_sl h2) (fitC_mk (fitL_op_sl h3) (fitC_mk (fitL_op_sl h4) (fitC_mk (fitL_op_sl h5) (fitC_mk (fitL_op_sl h6) rfl)))))
  · intro k hk
    match k, hk with
    | 0, _ => exact h2
    | 1, _ => exact h2
    | 2, _ => exact h3
    | 3, _ => exact h4
  · refine fitV_st ?_
    unfold T_api_View
    exact fitC_mk rfl (fitC_mk h2 (fitC_mk h3 (fitC_mk h4 (fitC_mk h5 (fitC_mk h6 rfl)))))

def selectF (v6 : Bool) (hi lo : Int) : Nat → List AV → Int × Bool
  | _, [] => (0, false)
  | i, y :: r => bif matchF v6 hi lo (gL y.cells 1) then ((i : Int), true) else selectF v6 hi lo (i + 1) r
theorem p_vSelect (l : List AV) (hl : viewsFit l) (v6 : Bool) (hi lo : Int) : view_Select l v6 hi lo = some (selectF v6 hi lo 0 l) := by
  rw [view_Select_eq]; unfold view_Select_i
  rw [view_Select_L6_eq, for_idx l hl.1 (view_Select_L6_i l (l.length : Int) v6 hi lo fun _ => some (0, false)) (fun i nx => view_Select_L6_b l (l.length : Int) i v6 hi lo nx fun _ => some (0, false)) (fun _ _ => rfl) (fun i r => some (selectF v6 hi lo i r))]
  · intro nx; simp [view_Select_L6_b, selectF]
  · intro i y r nx h1 h2 h3 h4 h5
    have hy := hl.2 y (List.mem_of_getElem? h2)
    have h6 : (i : Int) < (l.length : Int) := by omega
    unfold view_Select_L6_b
    simp only [h6, decide_true, cond_t, ixB_nat, h2, oB_s, hy.1, p_vMatch _ hy.2.2.1, h4, h5, selectF]
    cases matchF v6 hi lo (gL y.cells 1) <;> rfl
def zoneF (name : List UInt8) : List UInt8 → Int → List AV → List UInt8 × Bool
  | b, m, [] => (b, decide (m ≥ 0))
  | b, m, z :: r => if m < (labelsF (gS z.cells 0)).length ∧ underB name (gS z.cells 0) = true then zoneF name (gS z.cells 0) (labelsF (gS z.cells 0)).length r else zoneF name b m r
theorem p_vZone (n : List UInt8) (a b c l d : List AV) (hl : zonesFit l) (name : List UInt8) (hn : name.length ≤ 9223372036854775807) : view_Zone n a b c l d name = some (zoneF name [] (-1) l) := by
  rw [view_Zone_eq]; unfold view_Zone_i
  have := for_list l hl.1 (fun k i (s : List UInt8 × Int) => view_Zone_L8_i name l (l.length : Int) (fun v6 v7 => (some (v6, (decide (v7 ≥ 0))))) k s.1 s.2 i) (fun i s nx => view_Zone_L8_b name s.1 s.2 l (l.length : Int) i (fun p q j => nx j (p, q)) (fun v6 v7 => (some (v6, (decide (v7 ≥ 0)))))) (fun _ _ _ => rfl)
    (fun _ _ => True) (fun r s => some (zoneF name s.1 s.2 r)) ?_ ?_ ([], -1) FU trivial (FU_big (by have := hl.1; omega))
  · rw [view_Zone_L8_eq]; exact this
  · intro s nx _; simp [view_Zone_L8_b, zoneF]
  · intro i y r s nx h1 h2 h3 h4 _ h5
    obtain ⟨hy1, hy2⟩ := hl.2 y (List.mem_of_getElem? h2)
    have h6 : (i : Int) < (l.length : Int) := by omega
    have ll : (avS (labelsF (gS y.cells 0))).length = (labelsF (gS y.cells 0)).length := by simp [avS]
    unfold view_Zone_L8_b
    simp only [h6, decide_true, cond_t, ixB_nat, h2, oB_s, hy1, p_Labels _ hy2, ll, p_Under _ _ hn hy2, h4]
    unfold zoneF
    by_cases c1 : s.2 < ((labelsF (gS y.cells 0)).length : Int)
    · have e1 : decide (((labelsF (gS y.cells 0)).length : Int) > s.2) = true := decide_eq_true c1
      simp only [e1, cond_t, c1, true_and]
      cases hu : underB name (gS y.cells 0)
      · simp only [cond_f, h5 _ trivial]; simp
      · simp only [cond_t, h5 _ trivial]; simp
    · have e1 : decide (((labelsF (gS y.cells 0)).length : Int) > s.2) = false := decide_eq_false (by omega)
      simp only [e1, cond_f, h5 _ trivial]
      rw [if_neg (fun h => c1 h.1)]
theorem under_ok {x y : List UInt8} (h : underB x y = true) : okName x = true ∧ okName y = true := by
  simp [underB] at h; exact ⟨h.1, h.2.1⟩
theorem okName_nn {x : List UInt8} (h : okName x = true) : x ≠ [] := by
  rintro rfl
  simp [okName, splitW, endsOk] at h
end Go.Proofs.YtdedipnhkcaghaaDoor.Dn

