/- Tables of blocks: what ddiref46's Check and Find, and the program's Find, answer. -/
import Derived.Test.YtmfghgaboaocgaaLw03p
import Derived.Test.YtmfghgaboaocgaaLibC
set_option linter.all false
namespace Go.Proofs.Ytmfghgaboaocgaa.Dn
open Go Go.Pev
set_option linter.unusedVariables false
set_option linter.unusedSimpArgs false
set_option maxRecDepth 4000

def blkFit (y : AV) : Prop := fitC T_api_Block y.cells = true ∧ uok (gI y.cells 1) ∧ uok (gI y.cells 2) ∧ (gS y.cells 5).length ≤ 9223372036854775807 ∧ (gS y.cells 6).length ≤ 9223372036854775807
def blksFit (l : List AV) : Prop := l.length ≤ 9223372036854775807 ∧ ∀ y, y ∈ l → blkFit y
def tyAddr : Ty := .st [.bool, .int .u64, .int .u64]
def tyPref : Ty := .st [tyAddr, .int .i64]
def tyBlk : Ty := .st [tyPref, .int .i64, .str, .str, .int .i64]
theorem blksFit_of {l : List AV} (h : l.length ≤ 9223372036854775807 ∧ ∀ y, y ∈ l → fitC tyBlk.lts y.cells = true ∧ tyBlk.good y.cells 0) : blksFit l :=
  ⟨h.1, fun y hy => by
    obtain ⟨h1, h2⟩ := h.2 y hy
    simp only [tyBlk, tyPref, tyAddr, Ty.good.goods, Ty.good, Ty.size, Ty.sizes, Nat.zero_add, Nat.reduceAdd, and_true, true_and] at h2
    obtain ⟨⟨⟨h3, h4⟩, h5⟩, h6, h7, h8, h9⟩ := h2
    exact ⟨h1, h3, h4, h7, h8⟩⟩

/-! ### Texts, kinds -/
def printB (s : List UInt8) : Bool := s.all fun c => decide (33 ≤ c.toNat) && decide (c.toNat ≤ 126)
theorem p_printable (s : List UInt8) (hs : s.length ≤ 9223372036854775807) : ddiref46_printable s = some (printB s) := by
  rw [ddiref46_printable_eq]; unfold ddiref46_printable_i
  rw [ddiref46_printable_L6_eq, for_list0 s hs (ddiref46_printable_L6_i s fun _ => some true) (fun i nx => ddiref46_printable_L6_b s i nx fun _ => some true) (fun _ _ => rfl) (fun r => some (printB r))]
  · intro nx; simp [ddiref46_printable_L6_b, printB]
  · intro i y r nx h1 h2 h3 h4 h5
    have h6 : (i : Int) < (s.length : Int) := by omega
    unfold ddiref46_printable_L6_b
    simp only [h6, decide_true, cond_t, ixB_nat, h2, oB_s, h4, h5, printB, List.all_cons]
    by_cases a1 : (y.toNat : Int) < 33
    · have : ¬ 33 ≤ y.toNat := by omega
      simp [a1, this]
    · have b1 : 33 ≤ y.toNat := by omega
      by_cases a2 : (y.toNat : Int) > 126
      · have : ¬ y.toNat ≤ 126 := by omega
        simp [a1, a2, this]
      · have b2 : y.toNat ≤ 126 := by omega
        simp only [a1, a2, b1, b2, decide_true, decide_false, cond_f, Bool.true_and]
def mayB (y : AV) : Bool :=
  bif (bif decide (gI y.cells 4 < 1) then true else bif decide (gI y.cells 4 > 3) then true else bif gI y.cells 4 == 3 then gI y.cells 3 != longOf (gB y.cells 0) else false) then false
  else bif (decide (((gS y.cells 5).length : Int) ≥ 1) && decide (((gS y.cells 5).length : Int) ≤ 63)) then (bif (printB (gS y.cells 5) && decide (((gS y.cells 6).length : Int) ≤ 32)) then ((printB (gS y.cells 6) && decide (gI y.cells 7 ≥ 0)) && decide (gI y.cells 7 ≤ 4294967295)) else false) else false
theorem mayB_host {y : AV} (h : mayB y = true) (hk : gI y.cells 4 = 3) : gI y.cells 3 = longOf (gB y.cells 0) := by
  unfold mayB at h
  rw [hk] at h
  cases hq : gI y.cells 3 == longOf (gB y.cells 0) with
  | true => simpa using hq
  | false => simp [bne, hq] at h
theorem cond_some2 {α : Type} (p : Bool) (a b : α) : (bif p then some a else some b) = some (bif p then a else b) := by cases p <;> rfl
theorem p_may (y : AV) (hy : blkFit y) : ddiref46_may (gB y.cells 0) (gI y.cells 1) (gI y.cells 2) (gI y.cells 3) (gI y.cells 4) (gS y.cells 5) (gS y.cells 6) (gI y.cells 7) = some (mayB y) := by
  have hw : ddiref46_whole (gB y.cells 0) (gI y.cells 1) (gI y.cells 2) (gI y.cells 3) = some (longOf (gB y.cells 0)) := by
    rw [ddiref46_whole_eq]; unfold ddiref46_whole_i longOf; cases gB y.cells 0 <;> rfl
  rw [ddiref46_may_eq]; unfold ddiref46_may_i mayB
  simp only [ddiref46_may_J4_eq, ddiref46_may_J4_i, p_printable _ hy.2.2.2.1, p_printable _ hy.2.2.2.2, hw, oB_s]
  cases decide (gI y.cells 4 < 1) <;> cases decide (gI y.cells 4 > 3) <;> cases (gI y.cells 4 == 3) <;> simp only [cond_t, cond_f, cond_some2]

/-! ### Order -/
def cmpA (v6 : Bool) (hi lo : Int) (w6 : Bool) (whi wlo : Int) : Int :=
  bif (!((v6 == w6) && true)) then (bif w6 then -1 else 1) else bif (hi != whi) then (bif decide (hi < whi) then -1 else 1) else bif decide (lo < wlo) then -1 else bif decide (lo > wlo) then 1 else 0
theorem p_rCmpA (v6 : Bool) (hi lo : Int) (w6 : Bool) (whi wlo : Int) : ddiref02_Compare v6 hi lo w6 whi wlo = some (cmpA v6 hi lo w6 whi wlo) := by
  rw [ddiref02_Compare_eq]; unfold ddiref02_Compare_i cmpA
  simp only [cond_some2]
def cmpP (v6 : Bool) (hi lo bits : Int) (w6 : Bool) (whi wlo wbits : Int) : Int :=
  bif (cmpA v6 hi lo w6 whi wlo != 0) then cmpA v6 hi lo w6 whi wlo else bif decide (bits < wbits) then -1 else bif decide (bits > wbits) then 1 else 0
theorem p_rCmp (v6 : Bool) (hi lo bits : Int) (w6 : Bool) (whi wlo wbits : Int) : ddiref03_Compare v6 hi lo bits w6 whi wlo wbits = some (cmpP v6 hi lo bits w6 whi wlo wbits) := by
  rw [ddiref03_Compare_eq]; unfold ddiref03_Compare_i cmpP
  simp only [p_rCmpA, oB_s, cond_some2]
/-- One prefix comes before another one. -/
def ltP (v6 : Bool) (hi lo bits : Int) (w6 : Bool) (whi wlo wbits : Int) : Prop :=
  (v6 = false ∧ w6 = true) ∨ (v6 = w6 ∧ (hi < whi ∨ (hi = whi ∧ (lo < wlo ∨ (lo = wlo ∧ bits < wbits)))))
theorem ltP_trans {a : Bool} {b c d : Int} {a' : Bool} {b' c' d' : Int} {a2 : Bool} {b2 c2 d2 : Int} (h1 : ltP a b c d a' b' c' d') (h2 : ltP a' b' c' d' a2 b2 c2 d2) : ltP a b c d a2 b2 c2 d2 := by
  unfold ltP at *
  rcases h1 with ⟨rfl, rfl⟩ | ⟨rfl, h1⟩
  · rcases h2 with ⟨h, _⟩ | ⟨rfl, _⟩
    · cases h
    · exact .inl ⟨rfl, rfl⟩
  · rcases h2 with ⟨rfl, rfl⟩ | ⟨rfl, h2⟩
    · exact .inl ⟨rfl, rfl⟩
    · exact .inr ⟨rfl, by omega⟩
theorem ltP_irrefl {a : Bool} {b c d : Int} : ¬ ltP a b c d a b c d := by
  unfold ltP
  rintro (⟨rfl, h⟩ | ⟨_, h⟩)
  · cases h
  · omega
theorem ltP_of {v6 : Bool} {hi lo bits : Int} {w6 : Bool} {whi wlo wbits : Int} (h : ¬ cmpP v6 hi lo bits w6 whi wlo wbits > 0) (hne : ¬ (v6 = w6 ∧ hi = whi ∧ lo = wlo ∧ bits = wbits)) : ltP v6 hi lo bits w6 whi wlo wbits := by
  unfold cmpP cmpA at h
  unfold ltP
  by_cases h1 : v6 = w6
  · subst h1
    refine .inr ⟨rfl, ?_⟩
    by_cases h2 : hi = whi
    · subst h2
      by_cases h3 : lo < wlo
      · exact .inr ⟨rfl, .inl h3⟩
      · by_cases h4 : lo > wlo
        · simp [h3, h4] at h
        · have : lo = wlo := by omega
          subst this
          by_cases h5 : bits < wbits
          · exact .inr ⟨rfl, .inr ⟨rfl, h5⟩⟩
          · by_cases h6 : bits > wbits
            · simp [h5, h6] at h
            · exact absurd ⟨rfl, rfl, rfl, by omega⟩ hne
    · by_cases h3 : hi < whi
      · exact .inl h3
      · have h2' : (hi != whi) = true := by simpa using h2
        simp [h2', h3] at h
  · cases v6 <;> cases w6 <;> simp at h1 h ⊢

/-! ### A block's prefix -/
def atP (v6 : Bool) (hi lo bits : Int) (y : AV) : Bool := (gB y.cells 0 == v6) && ((gI y.cells 1 == hi) && ((gI y.cells 2 == lo) && ((gI y.cells 3 == bits) && true)))
theorem atP_iff {v6 : Bool} {hi lo bits : Int} {y : AV} : atP v6 hi lo bits y = true ↔ gB y.cells 0 = v6 ∧ gI y.cells 1 = hi ∧ gI y.cells 2 = lo ∧ gI y.cells 3 = bits := by simp [atP]
def ltY (y z : AV) : Prop := ltP (gB y.cells 0) (gI y.cells 1) (gI y.cells 2) (gI y.cells 3) (gB z.cells 0) (gI z.cells 1) (gI z.cells 2) (gI z.cells 3)
def prefY (y : AV) : Bool := prefOk (gB y.cells 0) (gI y.cells 1) (gI y.cells 2) (gI y.cells 3)
def withinY (y z : AV) : Bool := withinF (gB y.cells 0) (gI y.cells 1) (gI y.cells 2) (gI y.cells 3) (gB z.cells 0) (gI z.cells 1) (gI z.cells 2) (gI z.cells 3)
def barredB (y z : AV) : Bool := bif (withinY y z && decide (gI y.cells 3 > gI z.cells 3)) then (bif gI z.cells 4 == 3 then true else bif gI z.cells 4 == 2 then gI y.cells 4 != 3 else false) else false
theorem p_barred (y z : AV) (hy : blkFit y) : ddiref46_barred (gB y.cells 0) (gI y.cells 1) (gI y.cells 2) (gI y.cells 3) (gI y.cells 4) (gS y.cells 5) (gS y.cells 6) (gI y.cells 7) (gB z.cells 0) (gI z.cells 1) (gI z.cells 2) (gI z.cells 3) (gI z.cells 4) (gS z.cells 5) (gS z.cells 6) (gI z.cells 7) = some (barredB y z) := by
  rw [ddiref46_barred_eq]; unfold ddiref46_barred_i barredB
  rw [ddiref46_in_eq]; unfold ddiref46_in_i
  simp only [p_rWithin _ _ _ _ _ _ _ _ hy.2.1 hy.2.2.1, oB_s, cond_some2]
  rfl

/-! ### Check -/
/-- What holds of the j-th block of a table. -/
structure Row (l : List AV) (j : Nat) (y : AV) : Prop where
  p : prefY y = true
  may : mayB y = true
  lt : ∀ i z, j = i + 1 → l[i]? = some z → ltY z y
  bar : ∀ k z, k < j → l[k]? = some z → barredB y z = false
def Table (l : List AV) : Prop := ∀ j y, l[j]? = some y → Row l j y

theorem p_rCheck (l : List AV) (hl : blksFit l) : ∃ e, ddiref46_Check l = some e ∧ (e = 0 → Table l) := by
  rw [ddiref46_Check_eq]; unfold ddiref46_Check_i
  by_cases hlen : (l.length : Int) > 512
  · refine ⟨9, by simp [hlen], fun h => by cases h⟩
  · have key := loop_rel (fun n (s : Int) => ddiref46_Check_L14_i l (fun _ => some 0) n s) (fun s nx => ddiref46_Check_L14_b l s nx fun _ => some 0) (fun _ _ => rfl)
      (fun s => ∃ i : Nat, s = i ∧ i ≤ l.length) (fun s => l.length - s.toNat) (fun s r => ∃ e, r = some e ∧ (e = 0 → ∀ (j : Nat) y, s ≤ (j : Int) → l[j]? = some y → Row l j y)) ?_ FU 0 ⟨0, rfl, by simp⟩ (FU_big (by have := hl.1; omega))
    · obtain ⟨e, h1, h2⟩ := key
      refine ⟨e, ?_, fun he j y hy => h2 he j y (by omega) hy⟩
      rw [ddiref46_Check_L14_eq]
      simpa [hlen] using h1
    · rintro _ ⟨i, rfl, hi⟩ nx hnx
      have hw : IntKind.i64.wrap ((i : Int) + 1) = ((i + 1 : Nat) : Int) := w64 (by omega) (by have := hl.1; omega)
      unfold ddiref46_Check_L14_b
      by_cases hil : i < l.length
      · have h6 : (i : Int) < (l.length : Int) := by omega
        have h2 : l[i]? = some l[i] := by simp [hil]
        generalize l[i] = y at h2
        have hy := hl.2 y (List.mem_of_getElem? h2)
        simp only [h6, decide_true, cond_t, ixB_nat, h2, oB_s, hy.1, p_Valid03, p_may y hy]
        cases hp : prefY y with
        | false =>
          have hp' : prefOk (gB y.cells 0) (gI y.cells 1) (gI y.cells 2) (gI y.cells 3) = false := hp
          exact ⟨3, by simp [hp'], fun h => by cases h⟩
        | true =>
          have hp' : prefOk (gB y.cells 0) (gI y.cells 1) (gI y.cells 2) (gI y.cells 3) = true := hp
          cases hm : mayB y with
          | false => exact ⟨1, by simp [hp'], fun h => by cases h⟩
          | true =>
            simp only [hp', Bool.not_true, cond_f]
            -- the loop over the blocks ahead
            have inner : ddiref46_Check_L58 l (i : Int) (fun _ => nx (IntKind.i64.wrap ((i : Int) + 1))) FU 0 = if (l.take i).any (barredB y) then some 24 else nx ((i + 1 : Nat) : Int) := by
              have hti : (l.take i).length = i := by simp; omega
              rw [ddiref46_Check_L58_eq, for_list0 (l.take i) (by have := hl.1; omega) (ddiref46_Check_L58_i l (i : Int) fun _ => nx (IntKind.i64.wrap ((i : Int) + 1))) (fun k nx' => ddiref46_Check_L58_b l (i : Int) k nx' fun _ => nx (IntKind.i64.wrap ((i : Int) + 1))) (fun _ _ => rfl) (fun r => if r.any (barredB y) then some 24 else nx ((i + 1 : Nat) : Int))]
              · intro nx'
                unfold ddiref46_Check_L58_b
                rw [hti]
                simp [hw]
              · intro k z r nx' g1 g2 g3 g4 g5
                have g6 : (k : Int) < (i : Int) := by omega
                have g7 : l[k]? = some z := by rw [List.getElem?_take] at g2; split at g2; exact g2; cases g2
                have hz := hl.2 z (List.mem_of_getElem? g7)
                unfold ddiref46_Check_L58_b
                simp only [g6, decide_true, cond_t, ixB_nat, h2, g7, oB_s, hy.1, hz.1, p_barred y z hy, g4, g5, List.any_cons]
                by_cases hb : barredB y z = true <;> simp [hb]
            by_cases hi0 : i = 0
            · subst hi0
              obtain ⟨e, he1, he2⟩ := hnx ((0 + 1 : Nat) : Int) ⟨1, rfl, by omega⟩ (by simp; omega)
              refine ⟨e, ?_, fun h0 j z hj hz => ?_⟩
              · simp only [ddiref46_Check_J41_eq, ddiref46_Check_J41_i, ddiref46_Check_J49_eq, ddiref46_Check_J49_i]
                have := inner
                simp at this
                simp [this]
                simpa using he1
              · by_cases hj0 : j = 0
                · subst hj0
                  rw [h2] at hz; cases hz
                  exact ⟨hp, hm, fun i z h => by omega, fun k z h => by omega⟩
                · exact he2 h0 j z (by omega) hz
            · obtain ⟨i', rfl⟩ : ∃ i', i = i' + 1 := ⟨i - 1, by omega⟩
              have hpos : ((i' + 1 : Nat) : Int) > 0 := by omega
              have hwp : IntKind.i64.wrap (((i' + 1 : Nat) : Int) - 1) = ((i' : Nat) : Int) := by rw [w64 (by omega) (by have := hl.1; omega)]; omega
              have h2p : l[i']? = some (l[i']'(by omega)) := by simp <;> omega
              generalize l[i']'(by omega) = x at h2p
              have hx := hl.2 x (List.mem_of_getElem? h2p)
              simp only [ddiref46_Check_J41_eq, ddiref46_Check_J41_i, ddiref46_Check_J49_eq, ddiref46_Check_J49_i, hpos, decide_true, cond_t, hwp, ixB_nat, h2p, h2, oB_s, hx.1, hy.1, p_rCmp]
              by_cases hc : cmpP (gB x.cells 0) (gI x.cells 1) (gI x.cells 2) (gI x.cells 3) (gB y.cells 0) (gI y.cells 1) (gI y.cells 2) (gI y.cells 3) > 0
              · exact ⟨7, by simp [hc], fun h => by cases h⟩
              · simp only [hc, decide_false, cond_f]
                by_cases hq : (gB x.cells 0 = gB y.cells 0 ∧ gI x.cells 1 = gI y.cells 1 ∧ gI x.cells 2 = gI y.cells 2 ∧ gI x.cells 3 = gI y.cells 3)
                · exact ⟨12, by simp [hq.1, hq.2.1, hq.2.2.1, hq.2.2.2], fun h => by cases h⟩
                · have hq' : ((gB x.cells 0) == (gB y.cells 0) && (((gI x.cells 1) == (gI y.cells 1)) && (((gI x.cells 2) == (gI y.cells 2)) && (((gI x.cells 3) == (gI y.cells 3)) && true)))) = false := by
                    rw [Bool.eq_false_iff]
                    intro h
                    simp at h
                    exact hq h
                  simp only [hq', cond_f, inner]
                  have hlt : ltY x y := ltP_of hc hq
                  cases hb : (l.take (i' + 1)).any (barredB y) with
                  | true => exact ⟨24, by simp, fun h => by cases h⟩
                  | false =>
                    obtain ⟨e, he1, he2⟩ := hnx ((i' + 1 + 1 : Nat) : Int) ⟨i' + 1 + 1, rfl, by omega⟩ (by simp; omega)
                    refine ⟨e, by simpa using he1, fun h0 j z hj hz => ?_⟩
                    by_cases hjj : j = i' + 1
                    · subst hjj
                      rw [h2] at hz; cases hz
                      refine ⟨hp, hm, fun i2 z2 h h' => ?_, fun k z2 hk hz2 => ?_⟩
                      · have : i2 = i' := by omega
                        subst this
                        rw [h2p] at h'; cases h'
                        exact hlt
                      · rw [List.any_eq_false] at hb
                        have := hb z2 (List.mem_of_getElem? (i := k) (by rw [List.getElem?_take, if_pos hk]; exact hz2))
                        simpa using this
                    · exact he2 h0 j z (by omega) hz
      · have : i = l.length := by omega
        subst this
        refine ⟨0, by simp, fun _ j y hj hy => ?_⟩
        have := (List.getElem?_eq_some_iff.1 hy).1
        omega

/-! ### Find -/
def blkV (y : AV) : AV := .agg [(.bool (gB y.cells 0)), (.int .u64 (gI y.cells 1)), (.int .u64 (gI y.cells 2)), (.int .i64 (gI y.cells 3)), (.int .i64 (gI y.cells 4)), (.str (gS y.cells 5)), (.str (gS y.cells 6)), (.int .i64 (gI y.cells 7))]
def blk0 : AV := .agg [(.bool false), (.int .u64 0), (.int .u64 0), (.int .i64 0), (.int .i64 0), (.str []), (.str []), (.int .i64 0)]
def findF (l : List AV) (v6 : Bool) (hi lo bits : Int) : AV × Bool := match l.find? (atP v6 hi lo bits) with
  | some y => (blkV y, true)
  | none => (blk0, false)
theorem p_rFind (l : List AV) (hl : blksFit l) (v6 : Bool) (hi lo bits : Int) : ddiref46_Find l v6 hi lo bits = some (findF l v6 hi lo bits) := by
  rw [ddiref46_Find_eq]; unfold ddiref46_Find_i
  show ddiref46_Find_L6 l v6 hi lo bits false 0 0 0 0 [] [] 0 (fun _ => some (blk0, false)) FU 0 = _
  rw [ddiref46_Find_L6_eq, for_list0 l hl.1 (ddiref46_Find_L6_i l v6 hi lo bits false 0 0 0 0 [] [] 0 fun _ => some (blk0, false)) (fun i nx => ddiref46_Find_L6_b l i v6 hi lo bits false 0 0 0 0 [] [] 0 nx fun _ => some (blk0, false)) (fun _ _ => rfl) (fun r => some (findF r v6 hi lo bits))]
  · intro nx; simp [ddiref46_Find_L6_b, findF]
  · intro i y r nx h1 h2 h3 h4 h5
    have hy := hl.2 y (List.mem_of_getElem? h2)
    have h6 : (i : Int) < (l.length : Int) := by omega
    unfold ddiref46_Find_L6_b
    simp only [h6, decide_true, cond_t, ixB_nat, h2, oB_s, hy.1, h4, h5, findF, List.find?_cons]
    rw [show ((gB y.cells 0 == v6) && ((gI y.cells 1 == hi) && ((gI y.cells 2 == lo) && ((gI y.cells 3 == bits) && true)))) = atP v6 hi lo bits y from rfl]
    cases atP v6 hi lo bits y <;> rfl

def idxO (q : AV → Bool) : List AV → Option Nat
  | [] => none
  | y :: r => if q y then some 0 else (idxO q r).map (· + 1)
theorem idxO_some {q : AV → Bool} : ∀ (l : List AV) (k : Nat), idxO q l = some k → ∃ y, l[k]? = some y ∧ l.find? q = some y
  | y :: r, k, h => by
    unfold idxO at h
    cases hq : q y with
    | true => simp [hq] at h; subst h; exact ⟨y, rfl, by simp [hq]⟩
    | false =>
      simp [hq] at h
      obtain ⟨k', h1, rfl⟩ := h
      obtain ⟨z, h2, h3⟩ := idxO_some r k' h1
      exact ⟨z, by simpa using h2, by simp [hq, h3]⟩
theorem idxO_none {q : AV → Bool} : ∀ (l : List AV), idxO q l = none → l.find? q = none
  | [], _ => rfl
  | y :: r, h => by
    unfold idxO at h
    cases hq : q y with
    | true => simp [hq] at h
    | false => simp [hq] at h; simp [List.find?_cons, hq]; simpa using idxO_none r h
def idxI (q : AV → Bool) (l : List AV) : Int := match idxO q l with
  | some k => (k : Int)
  | none => -1
theorem p_pIndex (l : List AV) (hl : blksFit l) (v6 : Bool) (hi lo bits : Int) : blocks_index l v6 hi lo bits = some (idxI (atP v6 hi lo bits) l) := by
  rw [blocks_index_eq]; unfold blocks_index_i
  rw [slices_IndexFunc_api_Block_api_Block__blocks_index_1_eq]; unfold slices_IndexFunc_api_Block_api_Block__blocks_index_1_i
  rw [slices_IndexFunc_api_Block_api_Block__blocks_index_1_L6_eq]
  have key := for_list l hl.1 (fun n i (s : Bool × Int × Int × Int) => slices_IndexFunc_api_Block_api_Block__blocks_index_1_L6_i l (l.length : Int) (fun b0_0 b0_1 b0_2 b0_3 => some (-1 : Int)) (fun v4q1 b0_0q2 b0_1q3 b0_2q4 b0_3q5 => some v4q1) n i s.1 s.2.1 s.2.2.1 s.2.2.2)
    (fun i s nx => slices_IndexFunc_api_Block_api_Block__blocks_index_1_L6_b l (l.length : Int) i s.1 s.2.1 s.2.2.1 s.2.2.2 (fun a b c d e => nx a (b, c, d, e)) (fun b0_0 b0_1 b0_2 b0_3 => some (-1 : Int)) (fun v4q1 b0_0q2 b0_1q3 b0_2q4 b0_3q5 => some v4q1)) (fun _ _ _ => rfl)
    (fun i s => s = (v6, hi, lo, bits)) (fun r s => some (match idxO (atP v6 hi lo bits) r with | some k => ((l.length - r.length + k : Nat) : Int) | none => -1)) ?_ ?_ (v6, hi, lo, bits) FU rfl (FU_big (by have := hl.1; omega))
  · refine key.trans ?_
    unfold idxI
    cases idxO (atP v6 hi lo bits) l <;> simp
  · intro s nx hs
    simp [slices_IndexFunc_api_Block_api_Block__blocks_index_1_L6_b, idxO]
  · rintro i y r _ nx h1 h2 h3 h4 rfl h5
    have hy := hl.2 y (List.mem_of_getElem? h2)
    have h6 : (i : Int) < (l.length : Int) := by omega
    have hr : r.length = l.length - (i + 1) := by
      have := congrArg List.length h1
      simp at this
      omega
    unfold slices_IndexFunc_api_Block_api_Block__blocks_index_1_L6_b
    simp only [h6, decide_true, cond_t, ixB_nat, h2, oB_s, hy.1, blocks_index_1_eq, blocks_index_1_i, h4]
    rw [show ((gB y.cells 0 == v6) && ((gI y.cells 1 == hi) && ((gI y.cells 2 == lo) && ((gI y.cells 3 == bits) && true)))) = atP v6 hi lo bits y from rfl]
    unfold idxO
    cases hq : atP v6 hi lo bits y with
    | true =>
      simp
      omega
    | false =>
      simp only [cond_f, Bool.false_eq_true, if_false]
      rw [h5 _ rfl]
      cases idxO (atP v6 hi lo bits) r with
      | none => rfl
      | some k => simp; omega
theorem p_pFind (l : List AV) (hl : blksFit l) (v6 : Bool) (hi lo bits : Int) : blocks_Find l v6 hi lo bits = some (findF l v6 hi lo bits) := by
  rw [blocks_Find_eq]; unfold blocks_Find_i findF
  simp only [p_pIndex l hl, oB_s]
  unfold idxI
  cases hq : idxO (atP v6 hi lo bits) l with
  | none =>
    rw [idxO_none l hq]
    rfl
  | some k =>
    obtain ⟨y, h1, h2⟩ := idxO_some l k hq
    have hy := hl.2 y (List.mem_of_getElem? h1)
    have h3 : (k : Int) ≥ 0 := by omega
    rw [h2]
    simp only [h3, decide_true, cond_t, ixB_nat, h1, oB_s, hy.1]
    rfl

end Go.Proofs.Ytmfghgaboaocgaa.Dn
