/- Tables of blocks: what ddiref46's Check and Find, and the program's Find, answer. -/
import Derived.Test.YtmfghgaboaocgaaFrLw03w
import Derived.Test.YtmfghgaboaocgaaFrLibD
set_option linter.all false
namespace Go.Proofs.Ytmfghgaboaocgaa.Dn
open Go Go.Pev
set_option linter.unusedVariables false
set_option linter.unusedSimpArgs false
set_option maxRecDepth 4000
def qu9 (y : AV) : Prop := fitC qj y.cells = true ∧ uok (gI y.cells 1) ∧ uok (gI y.cells 2) ∧ (gS y.cells 5).length ≤ 9223372036854775807 ∧ (gS y.cells 6).length ≤ 9223372036854775807
def qc4 (l : List AV) : Prop := l.length ≤ 9223372036854775807 ∧ ∀ y, y ∈ l → qu9 y
def qboh : Ty := .st [.bool, .int .u64, .int .u64]
def qboi : Ty := .st [qboh, .int .i64]
def qbna : Ty := .st [qboi, .int .i64, .str, .str, .int .i64]
theorem blksFit_of {l : List AV} (h : l.length ≤ 9223372036854775807 ∧ ∀ y, y ∈ l → fitC qbna.lts y.cells = true ∧ qbna.good y.cells 0) : qc4 l :=
  ⟨h.1, fun y hy => by
    obtain ⟨h1, h2⟩ := h.2 y hy
    simp only [qbna, qboi, qboh, Ty.good.goods, Ty.good, Ty.size, Ty.sizes, Nat.zero_add, Nat.reduceAdd, and_true, true_and] at h2
    obtain ⟨⟨⟨h3, h4⟩, h5⟩, h6, h7, h8, h9⟩ := h2
    exact ⟨h1, h3, h4, h7, h8⟩⟩
def qva (s : List UInt8) : Bool := s.all fun c => decide (33 ≤ c.toNat) && decide (c.toNat ≤ 126)
def mayB (y : AV) : Bool :=
  bif (bif decide (gI y.cells 4 < 1) then true else bif decide (gI y.cells 4 > 3) then true else bif gI y.cells 4 == 3 then gI y.cells 3 != qt (gB y.cells 0) else false) then false
  else bif (decide (((gS y.cells 5).length : Int) ≥ 1) && decide (((gS y.cells 5).length : Int) ≤ 63)) then (bif (qva (gS y.cells 5) && decide (((gS y.cells 6).length : Int) ≤ 32)) then ((qva (gS y.cells 6) && decide (gI y.cells 7 ≥ 0)) && decide (gI y.cells 7 ≤ 4294967295)) else false) else false
theorem q5a {α : Type} (p : Bool) (a b : α) : (bif p then some a else some b) = some (bif p then a else b) := by cases p <;> rfl
def cmpA (v6 : Bool) (hi lo : Int) (w6 : Bool) (whi wlo : Int) : Int :=
  bif (!((v6 == w6) && true)) then (bif w6 then -1 else 1) else bif (hi != whi) then (bif decide (hi < whi) then -1 else 1) else bif decide (lo < wlo) then -1 else bif decide (lo > wlo) then 1 else 0
def cmpP (v6 : Bool) (hi lo bits : Int) (w6 : Bool) (whi wlo wbits : Int) : Int :=
  bif (cmpA v6 hi lo w6 whi wlo != 0) then cmpA v6 hi lo w6 whi wlo else bif decide (bits < wbits) then -1 else bif decide (bits > wbits) then 1 else 0
def ltP (v6 : Bool) (hi lo bits : Int) (w6 : Bool) (whi wlo wbits : Int) : Prop :=
  (v6 = false ∧ w6 = true) ∨ (v6 = w6 ∧ (hi < whi ∨ (hi = whi ∧ (lo < wlo ∨ (lo = wlo ∧ bits < wbits)))))
theorem q89 {a : Bool} {b c d : Int} {a' : Bool} {b' c' d' : Int} {a2 : Bool} {b2 c2 d2 : Int} (h1 : ltP a b c d a' b' c' d') (h2 : ltP a' b' c' d' a2 b2 c2 d2) : ltP a b c d a2 b2 c2 d2 := by
  unfold ltP at *
  rcases h1 with ⟨rfl, rfl⟩ | ⟨rfl, h1⟩
  · rcases h2 with ⟨h, _⟩ | ⟨rfl, _⟩
    · cases h
    · exact .inl ⟨rfl, rfl⟩
  · rcases h2 with ⟨rfl, rfl⟩ | ⟨rfl, h2⟩
    · exact .inl ⟨rfl, rfl⟩
    · exact .inr ⟨rfl, by omega⟩
theorem qkx {a : Bool} {b c d : Int} : ¬ ltP a b c d a b c d := by
  unfold ltP
  rintro (⟨rfl, h⟩ | ⟨_, h⟩)
  · cases h
  · omega
def atP (v6 : Bool) (hi lo bits : Int) (y : AV) : Bool := (gB y.cells 0 == v6) && ((gI y.cells 1 == hi) && ((gI y.cells 2 == lo) && ((gI y.cells 3 == bits) && true)))
theorem qt2 {v6 : Bool} {hi lo bits : Int} {y : AV} : atP v6 hi lo bits y = true ↔ gB y.cells 0 = v6 ∧ gI y.cells 1 = hi ∧ gI y.cells 2 = lo ∧ gI y.cells 3 = bits := by simp [atP]
def ltY (y z : AV) : Prop := ltP (gB y.cells 0) (gI y.cells 1) (gI y.cells 2) (gI y.cells 3) (gB z.cells 0) (gI z.cells 1) (gI z.cells 2) (gI z.cells 3)
def qpu (y : AV) : Bool := qf2 (gB y.cells 0) (gI y.cells 1) (gI y.cells 2) (gI y.cells 3)
def qbgv (y z : AV) : Bool := qm8 (gB y.cells 0) (gI y.cells 1) (gI y.cells 2) (gI y.cells 3) (gB z.cells 0) (gI z.cells 1) (gI z.cells 2) (gI z.cells 3)
def qda (y z : AV) : Bool := bif (qbgv y z && decide (gI y.cells 3 > gI z.cells 3)) then (bif gI z.cells 4 == 3 then true else bif gI z.cells 4 == 2 then gI y.cells 4 != 3 else false) else false
structure Row (l : List AV) (j : Nat) (y : AV) : Prop where
  p : qpu y = true
  may : mayB y = true
  lt : ∀ i z, j = i + 1 → l[i]? = some z → ltY z y
  bar : ∀ k z, k < j → l[k]? = some z → qda y z = false
def qg2 (l : List AV) : Prop := ∀ j y, l[j]? = some y → Row l j y
def blkV (y : AV) : AV := .agg [(.bool (gB y.cells 0)), (.int .u64 (gI y.cells 1)), (.int .u64 (gI y.cells 2)), (.int .i64 (gI y.cells 3)), (.int .i64 (gI y.cells 4)), (.str (gS y.cells 5)), (.str (gS y.cells 6)), (.int .i64 (gI y.cells 7))]
def blk0 : AV := .agg [(.bool false), (.int .u64 0), (.int .u64 0), (.int .i64 0), (.int .i64 0), (.str []), (.str []), (.int .i64 0)]
def q5b (l : List AV) (v6 : Bool) (hi lo bits : Int) : AV × Bool := match l.find? (atP v6 hi lo bits) with
  | some y => (blkV y, true)
  | none => (blk0, false)
def idxO (q : AV → Bool) : List AV → Option Nat
  | [] => none
  | y :: r => if q y then some 0 else (idxO q r).map (· + 1)
theorem q1r {q : AV → Bool} : ∀ (l : List AV) (k : Nat), idxO q l = some k → ∃ y, l[k]? = some y ∧ l.find? q = some y
  | y :: r, k, h => by
    unfold idxO at h
    cases hq : q y with
    | true => simp [hq] at h; subst h; exact ⟨y, rfl, by simp [hq]⟩
    | false =>
      simp [hq] at h
      obtain ⟨k', h1, rfl⟩ := h
      obtain ⟨z, h2, h3⟩ := q1r r k' h1
      exact ⟨z, by simpa using h2, by simp [hq, h3]⟩
theorem qbhw {q : AV → Bool} : ∀ (l : List AV), idxO q l = none → l.find? q = none
  | [], _ => rfl
  | y :: r, h => by
    unfold idxO at h
    cases hq : q y with
    | true => simp [hq] at h
    | false => simp [hq] at h; simp [List.find?_cons, hq]; simpa using qbhw r h
def idxI (q : AV → Bool) (l : List AV) : Int := match idxO q l with
  | some k => (k : Int)
  | none => -1
theorem qbc5 (l : List AV) (hl : qc4 l) (v6 : Bool) (hi lo bits : Int) : qk8 l v6 hi lo bits = some (idxI (atP v6 hi lo bits) l) := by
  rw [q02]; unfold qvy
  rw [qex]; unfold qc5
  rw [qek]
  have key := qkl l hl.1 (fun n i (s : Bool × Int × Int × Int) => qb7 l (l.length : Int) (fun b0_0 b0_1 b0_2 b0_3 => some (-1 : Int)) (fun v4q1 b0_0q2 b0_1q3 b0_2q4 b0_3q5 => some v4q1) n i s.1 s.2.1 s.2.2.1 s.2.2.2)
    (fun i s nx => qbf l (l.length : Int) i s.1 s.2.1 s.2.2.1 s.2.2.2 (fun a b c d e => nx a (b, c, d, e)) (fun b0_0 b0_1 b0_2 b0_3 => some (-1 : Int)) (fun v4q1 b0_0q2 b0_1q3 b0_2q4 b0_3q5 => some v4q1)) (fun _ _ _ => rfl)
    (fun i s => s = (v6, hi, lo, bits)) (fun r s => some (match idxO (atP v6 hi lo bits) r with | some k => ((l.length - r.length + k : Nat) : Int) | none => -1)) ?_ ?_ (v6, hi, lo, bits) FU rfl (qou (by have := hl.1; omega))
  · refine key.trans ?_
    unfold idxI
    cases idxO (atP v6 hi lo bits) l <;> simp
  · intro s nx hs
    simp [qbf, idxO]
  · rintro i y r _ nx h1 h2 h3 h4 rfl h5
    have hy := hl.2 y (List.mem_of_getElem? h2)
    have h6 : (i : Int) < (l.length : Int) := by omega
    have hr : r.length = l.length - (i + 1) := by
      have := congrArg List.length h1
      simp at this
      omega
    unfold qbf
    simp only [h6, decide_true, cond_t, ixB_nat, h2, oB_s, hy.1, qyn, qsx, h4]
    rw [show ((gB y.cells 0 == v6) && ((gI y.cells 1 == hi) && ((gI y.cells 2 == lo) && ((gI y.cells 3 == bits) && true)))) = atP v6 hi lo bits y from rfl]
    unfold idxO
    cases hq : atP v6 hi lo bits y with
    | true =>
      simp
      omega
    | false =>
      simp only [cond_f, Bool.false_eq_true, if_false]
      rw [h5 _ rfl]
      cases idxO (atP v6 hi lo bits) r with
      | none => rfl
      | some k => simp; omega
theorem q9r (l : List AV) (hl : qc4 l) (v6 : Bool) (hi lo bits : Int) : qky l v6 hi lo bits = some (q5b l v6 hi lo bits) := by
  rw [q2c]; unfold qx9 q5b
  simp only [qbc5 l hl, oB_s]
  unfold idxI
  cases hq : idxO (atP v6 hi lo bits) l with
  | none =>
    rw [qbhw l hq]
    rfl
  | some k =>
    obtain ⟨y, h1, h2⟩ := q1r l k hq
    have hy := hl.2 y (List.mem_of_getElem? h1)
    have h3 : (k : Int) ≥ 0 := by omega
    rw [h2]
    simp only [h3, decide_true, cond_t, ixB_nat, h1, oB_s, hy.1]
    rfl
end Go.Proofs.Ytmfghgaboaocgaa.Dn
