/- The parent of a prefix, the holder of an address, the children of a block. -/
import Derived.Test.YtmjdngnagiloeaaBfLw46p
set_option linter.all false
namespace Go.Proofs.Ytmjdngnagiloeaa.Dn
open Go Go.Pev
set_option linter.unusedVariables false
set_option linter.unusedSimpArgs false
set_option maxRecDepth 4000
def mkA (b0 : Bool) (b1 b2 : Int) : AV := .agg [(.bool b0), (.int .u64 b1), (.int .u64 b2)]
def qxl (q : AV → Bool) : Option AV → List AV → Option AV
  | b, [] => b
  | b, y :: r => qxl q (bif q y && (match b with | none => true | some x => decide (gI y.cells 3 > gI x.cells 3)) then some y else b) r
def outC : Option AV → AV × Bool
  | some y => (y, true)
  | none => (blk0, false)
def qpx (q : AV → Bool) (l : List AV) : AV × Bool := outC (qxl q none l)
theorem qb07 (l : List AV) (hl : qbo l) (v : Bool) (hi lo bits : Int) : qmi l v hi lo bits = some (qpx (fun y => qd2 v hi lo bits (gB y.cells 0) (gI y.cells 1) (gI y.cells 2) (gI y.cells 3)) l) := by
  rw [q79]; unfold q0h
  rw [qmq]; unfold qg6
  rw [qkm]
  have key : ∀ kx : Bool → Bool → Int → Int → Int → Int → List UInt8 → List UInt8 → Int → Bool → Int → Int → Int → Bool → Int → Int → Int → Int → List UInt8 → List UInt8 → Int → Bool → Int → Int → Int → Int → List UInt8 → List UInt8 → Int → Option (AV × Bool), (∀ (e : Bool) (a0 : Bool) (a1 a2 a3 a4 : Int) (a5 a6 : List UInt8) (a7 : Int) (b0 : Bool) (b1 b2 b3 : Int) (c0 : Bool) (c1 c2 c3 c4 : Int) (c5 c6 : List UInt8) (c7 : Int) (d0 : Bool) (d1 d2 d3 d4 : Int) (d5 d6 : List UInt8) (d7 : Int), kx e a0 a1 a2 a3 a4 a5 a6 a7 b0 b1 b2 b3 c0 c1 c2 c3 c4 c5 c6 c7 d0 d1 d2 d3 d4 d5 d6 d7 = some (mkB d0 d1 d2 d3 d4 d5 d6 d7, e)) →
      qdf l (l.length : Int) kx FU false 0 false 0 0 0 0 [] [] 0 v hi lo bits false 0 0 0 0 [] [] 0 false 0 0 0 0 [] [] 0 = some (qpx (fun y => qd2 v hi lo bits (gB y.cells 0) (gI y.cells 1) (gI y.cells 2) (gI y.cells 3)) l) := by
    intro kx hkx
    have key := qfw (σ := Bool × AV × AV × AV × AV) l hl.1 (fun n i s => qdf l (l.length : Int) kx n s.1 i (gB s.2.1.cells 0) (gI s.2.1.cells 1) (gI s.2.1.cells 2) (gI s.2.1.cells 3) (gI s.2.1.cells 4) (gS s.2.1.cells 5) (gS s.2.1.cells 6) (gI s.2.1.cells 7) (gB s.2.2.1.cells 0) (gI s.2.2.1.cells 1) (gI s.2.2.1.cells 2) (gI s.2.2.1.cells 3) (gB s.2.2.2.1.cells 0) (gI s.2.2.2.1.cells 1) (gI s.2.2.2.1.cells 2) (gI s.2.2.2.1.cells 3) (gI s.2.2.2.1.cells 4) (gS s.2.2.2.1.cells 5) (gS s.2.2.2.1.cells 6) (gI s.2.2.2.1.cells 7) (gB s.2.2.2.2.cells 0) (gI s.2.2.2.2.cells 1) (gI s.2.2.2.2.cells 2) (gI s.2.2.2.2.cells 3) (gI s.2.2.2.2.cells 4) (gS s.2.2.2.2.cells 5) (gS s.2.2.2.2.cells 6) (gI s.2.2.2.2.cells 7)) (fun i s nx => qcl s.1 l (l.length : Int) i (gB s.2.1.cells 0) (gI s.2.1.cells 1) (gI s.2.1.cells 2) (gI s.2.1.cells 3) (gI s.2.1.cells 4) (gS s.2.1.cells 5) (gS s.2.1.cells 6) (gI s.2.1.cells 7) (gB s.2.2.1.cells 0) (gI s.2.2.1.cells 1) (gI s.2.2.1.cells 2) (gI s.2.2.1.cells 3) (gB s.2.2.2.1.cells 0) (gI s.2.2.2.1.cells 1) (gI s.2.2.2.1.cells 2) (gI s.2.2.2.1.cells 3) (gI s.2.2.2.1.cells 4) (gS s.2.2.2.1.cells 5) (gS s.2.2.2.1.cells 6) (gI s.2.2.2.1.cells 7) (gB s.2.2.2.2.cells 0) (gI s.2.2.2.2.cells 1) (gI s.2.2.2.2.cells 2) (gI s.2.2.2.2.cells 3) (gI s.2.2.2.2.cells 4) (gS s.2.2.2.2.cells 5) (gS s.2.2.2.2.cells 6) (gI s.2.2.2.2.cells 7) (fun e i a0 a1 a2 a3 a4 a5 a6 a7 b0 b1 b2 b3 c0 c1 c2 c3 c4 c5 c6 c7 d0 d1 d2 d3 d4 d5 d6 d7 => nx i (e, mkB a0 a1 a2 a3 a4 a5 a6 a7, mkP b0 b1 b2 b3, mkB c0 c1 c2 c3 c4 c5 c6 c7, mkB d0 d1 d2 d3 d4 d5 d6 d7)) kx) (fun _ _ _ => rfl)
      (fun i s => s.2.1 = blk0 ∧ s.2.2.1 = mkP v hi lo bits ∧ s.2.2.2.1 = blk0 ∧ (s.1 = false → s.2.2.2.2 = blk0) ∧ (s.1 = true → fitC qa s.2.2.2.2.cells = true)) (fun r s => some (outC (qxl (fun y => qd2 v hi lo bits (gB y.cells 0) (gI y.cells 1) (gI y.cells 2) (gI y.cells 3)) (bif s.1 then some s.2.2.2.2 else none) r))) ?_ ?_ (false, blk0, mkP v hi lo bits, blk0, blk0) FU ⟨rfl, rfl, rfl, fun _ => rfl, fun h => by cases h⟩ (qhz (by have := hl.1; omega))
    · exact key
    · rintro ⟨e, s1, s2, s3, s4⟩ nx ⟨h1, h2, h3, h4, h5⟩
      simp only at h1 h2 h3 h4 h5
      subst h1 h2 h3
      unfold qcl
      simp only [Int.lt_irrefl, decide_false, cond_f, hkx]
      cases e with
      | false => rw [h4 rfl]; rfl
      | true => rw [qhh (h5 rfl)]; rfl
    · rintro i y r ⟨e, s1, s2, s3, s4⟩ nx g1 g2 g3 g4 ⟨h1, h2, h3, h4, h5⟩ hn
      simp only at h1 h2 h3 h4 h5
      subst h1 h2 h3
      have hy := hl.2 y (List.mem_of_getElem? g2)
      have h6 : (i : Int) < (l.length : Int) := by omega
      unfold qcl
      simp only [h6, decide_true, cond_t, ixB_nat, g2, oB_s, hy.1, g4, qkl, qfy, q4f, qv3, qbdj]
      rw [qhh hy.1]
      have n1 := hn (true, blk0, mkP v hi lo bits, blk0, y) ⟨rfl, rfl, rfl, fun h => (by cases h), fun _ => hy.1⟩
      have n2 := hn (e, blk0, mkP v hi lo bits, blk0, s4) ⟨rfl, rfl, rfl, h4, h5⟩
      have hs : mkB (gB s4.cells 0) (gI s4.cells 1) (gI s4.cells 2) (gI s4.cells 3) (gI s4.cells 4) (gS s4.cells 5) (gS s4.cells 6) (gI s4.cells 7) = s4 := by
        cases e with
        | false => rw [h4 rfl]; rfl
        | true => exact qhh (h5 rfl)
      rw [hs]
      unfold qxl
      show (bif qd2 v hi lo bits (gB y.cells 0) (gI y.cells 1) (gI y.cells 2) (gI y.cells 3) then _ else _) = _
      cases hq : qd2 v hi lo bits (gB y.cells 0) (gI y.cells 1) (gI y.cells 2) (gI y.cells 3) with
      | false => exact n2
      | true =>
        cases e with
        | false => exact n1
        | true =>
          simp only [cond_t, Bool.not_true, cond_f, Bool.true_and]
          cases hc : decide (gI y.cells 3 > gI s4.cells 3) with
          | true => exact n1
          | false => exact n2
  exact key _ (fun _ _ _ _ _ _ _ _ _ _ _ _ _ _ _ _ _ _ _ _ _ _ _ _ _ _ _ _ _ => rfl)
theorem qb08 (l : List AV) (hl : qbo l) (v : Bool) (ahi alo : Int) : qmj l v ahi alo = some (qpx (fun y => qnc (gB y.cells 0) (gI y.cells 1) (gI y.cells 2) (gI y.cells 3) v ahi alo) l) := by
  rw [q8a]; unfold q0j
  rw [qms]; unfold qg7
  rw [qkp]
  have key : ∀ kx : Bool → Bool → Int → Int → Int → Int → List UInt8 → List UInt8 → Int → Bool → Int → Int → Bool → Int → Int → Int → Int → List UInt8 → List UInt8 → Int → Bool → Int → Int → Int → Int → List UInt8 → List UInt8 → Int → Option (AV × Bool), (∀ (e : Bool) (a0 : Bool) (a1 a2 a3 a4 : Int) (a5 a6 : List UInt8) (a7 : Int) (b0 : Bool) (b1 b2 : Int) (c0 : Bool) (c1 c2 c3 c4 : Int) (c5 c6 : List UInt8) (c7 : Int) (d0 : Bool) (d1 d2 d3 d4 : Int) (d5 d6 : List UInt8) (d7 : Int), kx e a0 a1 a2 a3 a4 a5 a6 a7 b0 b1 b2 c0 c1 c2 c3 c4 c5 c6 c7 d0 d1 d2 d3 d4 d5 d6 d7 = some (mkB d0 d1 d2 d3 d4 d5 d6 d7, e)) →
      qdg l (l.length : Int) kx FU false 0 false 0 0 0 0 [] [] 0 v ahi alo false 0 0 0 0 [] [] 0 false 0 0 0 0 [] [] 0 = some (qpx (fun y => qnc (gB y.cells 0) (gI y.cells 1) (gI y.cells 2) (gI y.cells 3) v ahi alo) l) := by
    intro kx hkx
    have key := qfw (σ := Bool × AV × AV × AV × AV) l hl.1 (fun n i s => qdg l (l.length : Int) kx n s.1 i (gB s.2.1.cells 0) (gI s.2.1.cells 1) (gI s.2.1.cells 2) (gI s.2.1.cells 3) (gI s.2.1.cells 4) (gS s.2.1.cells 5) (gS s.2.1.cells 6) (gI s.2.1.cells 7) (gB s.2.2.1.cells 0) (gI s.2.2.1.cells 1) (gI s.2.2.1.cells 2) (gB s.2.2.2.1.cells 0) (gI s.2.2.2.1.cells 1) (gI s.2.2.2.1.cells 2) (gI s.2.2.2.1.cells 3) (gI s.2.2.2.1.cells 4) (gS s.2.2.2.1.cells 5) (gS s.2.2.2.1.cells 6) (gI s.2.2.2.1.cells 7) (gB s.2.2.2.2.cells 0) (gI s.2.2.2.2.cells 1) (gI s.2.2.2.2.cells 2) (gI s.2.2.2.2.cells 3) (gI s.2.2.2.2.cells 4) (gS s.2.2.2.2.cells 5) (gS s.2.2.2.2.cells 6) (gI s.2.2.2.2.cells 7)) (fun i s nx => qcn s.1 l (l.length : Int) i (gB s.2.1.cells 0) (gI s.2.1.cells 1) (gI s.2.1.cells 2) (gI s.2.1.cells 3) (gI s.2.1.cells 4) (gS s.2.1.cells 5) (gS s.2.1.cells 6) (gI s.2.1.cells 7) (gB s.2.2.1.cells 0) (gI s.2.2.1.cells 1) (gI s.2.2.1.cells 2) (gB s.2.2.2.1.cells 0) (gI s.2.2.2.1.cells 1) (gI s.2.2.2.1.cells 2) (gI s.2.2.2.1.cells 3) (gI s.2.2.2.1.cells 4) (gS s.2.2.2.1.cells 5) (gS s.2.2.2.1.cells 6) (gI s.2.2.2.1.cells 7) (gB s.2.2.2.2.cells 0) (gI s.2.2.2.2.cells 1) (gI s.2.2.2.2.cells 2) (gI s.2.2.2.2.cells 3) (gI s.2.2.2.2.cells 4) (gS s.2.2.2.2.cells 5) (gS s.2.2.2.2.cells 6) (gI s.2.2.2.2.cells 7) (fun e i a0 a1 a2 a3 a4 a5 a6 a7 b0 b1 b2 c0 c1 c2 c3 c4 c5 c6 c7 d0 d1 d2 d3 d4 d5 d6 d7 => nx i (e, mkB a0 a1 a2 a3 a4 a5 a6 a7, mkA b0 b1 b2, mkB c0 c1 c2 c3 c4 c5 c6 c7, mkB d0 d1 d2 d3 d4 d5 d6 d7)) kx) (fun _ _ _ => rfl)
      (fun i s => s.2.1 = blk0 ∧ s.2.2.1 = mkA v ahi alo ∧ s.2.2.2.1 = blk0 ∧ (s.1 = false → s.2.2.2.2 = blk0) ∧ (s.1 = true → fitC qa s.2.2.2.2.cells = true)) (fun r s => some (outC (qxl (fun y => qnc (gB y.cells 0) (gI y.cells 1) (gI y.cells 2) (gI y.cells 3) v ahi alo) (bif s.1 then some s.2.2.2.2 else none) r))) ?_ ?_ (false, blk0, mkA v ahi alo, blk0, blk0) FU ⟨rfl, rfl, rfl, fun _ => rfl, fun h => by cases h⟩ (qhz (by have := hl.1; omega))
    · exact key
    · rintro ⟨e, s1, s2, s3, s4⟩ nx ⟨h1, h2, h3, h4, h5⟩
      simp only at h1 h2 h3 h4 h5
      subst h1 h2 h3
      unfold qcn
      simp only [Int.lt_irrefl, decide_false, cond_f, hkx]
      cases e with
      | false => rw [h4 rfl]; rfl
      | true => rw [qhh (h5 rfl)]; rfl
    · rintro i y r ⟨e, s1, s2, s3, s4⟩ nx g1 g2 g3 g4 ⟨h1, h2, h3, h4, h5⟩ hn
      simp only at h1 h2 h3 h4 h5
      subst h1 h2 h3
      have hy := hl.2 y (List.mem_of_getElem? g2)
      have h6 : (i : Int) < (l.length : Int) := by omega
      unfold qcn
      simp only [h6, decide_true, cond_t, ixB_nat, g2, oB_s, hy.1, g4, qko, qfz, q4h, qv7, qbov]
      rw [qhh hy.1]
      have n1 := hn (true, blk0, mkA v ahi alo, blk0, y) ⟨rfl, rfl, rfl, fun h => (by cases h), fun _ => hy.1⟩
      have n2 := hn (e, blk0, mkA v ahi alo, blk0, s4) ⟨rfl, rfl, rfl, h4, h5⟩
      have hs : mkB (gB s4.cells 0) (gI s4.cells 1) (gI s4.cells 2) (gI s4.cells 3) (gI s4.cells 4) (gS s4.cells 5) (gS s4.cells 6) (gI s4.cells 7) = s4 := by
        cases e with
        | false => rw [h4 rfl]; rfl
        | true => exact qhh (h5 rfl)
      rw [hs]
      unfold qxl
      show (bif qnc (gB y.cells 0) (gI y.cells 1) (gI y.cells 2) (gI y.cells 3) v ahi alo then _ else _) = _
      cases hq : qnc (gB y.cells 0) (gI y.cells 1) (gI y.cells 2) (gI y.cells 3) v ahi alo with
      | false => exact n2
      | true =>
        cases e with
        | false => exact n1
        | true =>
          simp only [cond_t, Bool.not_true, cond_f, Bool.true_and]
          cases hc : decide (gI y.cells 3 > gI s4.cells 3) with
          | true => exact n1
          | false => exact n2
  exact key _ (fun _ _ _ _ _ _ _ _ _ _ _ _ _ _ _ _ _ _ _ _ _ _ _ _ _ _ _ _ => rfl)
theorem qb4s (l : List AV) (hl : qbo l) (v : Bool) (hi lo bits : Int) (u1 : uok hi) (u2 : uok lo) : qpc l v hi lo bits = some (qpx (fun y => qd2 v hi lo bits (gB y.cells 0) (gI y.cells 1) (gI y.cells 2) (gI y.cells 3)) l) := by
  rw [q4o]; unfold qwk
  rw [qy1]
  have key : ∀ kx : Int → Option (AV × Bool), (∀ j : Int, kx j = (match (if j < 0 then none else l[j.toNat]?) with | some y => some (y, true) | none => if j < 0 then some (blk0, false) else none)) → qi3 l v hi lo bits false 0 0 0 0 [] [] 0 kx FU (-1) 0 = some (qpx (fun y => qd2 v hi lo bits (gB y.cells 0) (gI y.cells 1) (gI y.cells 2) (gI y.cells 3)) l) := by
    intro kx hkx
    have key := qfw (σ := Int) l hl.1 (fun n i s => qi3 l v hi lo bits false 0 0 0 0 [] [] 0 kx n s i) (fun i s nx => qgm l s i v hi lo bits false 0 0 0 0 [] [] 0 (fun s i => nx i s) kx) (fun _ _ _ => rfl)
      (fun i s => s = -1 ∨ ∃ (j : Nat) (x : AV), s = j ∧ l[j]? = some x) (fun r s => some (outC (qxl (fun y => qd2 v hi lo bits (gB y.cells 0) (gI y.cells 1) (gI y.cells 2) (gI y.cells 3)) (bif decide (s < 0) then none else l[s.toNat]?) r))) ?_ ?_ (-1) FU (.inl rfl) (qhz (by have := hl.1; omega))
    · exact key
    · rintro s nx hJ
      unfold qgm
      simp only [Int.lt_irrefl, decide_false, cond_f, hkx]
      rcases hJ with rfl | ⟨j, x, rfl, hx⟩
      · rfl
      · have h0 : ¬ (j : Int) < 0 := by omega
        simp only [h0, if_false, decide_false, cond_f, Int.toNat_natCast, hx]
        rfl
    · rintro i y r s nx g1 g2 g3 g4 hJ hn
      have hy := hl.2 y (List.mem_of_getElem? g2)
      have h6 : (i : Int) < (l.length : Int) := by omega
      have hi0 : ¬ (i : Int) < 0 := by omega
      have n1 := hn (i : Int) (.inr ⟨i, y, rfl, g2⟩)
      have n2 := hn s hJ
      simp only [hi0, decide_false, cond_f, Int.toNat_natCast, g2] at n1
      unfold qgm
      simp only [h6, decide_true, cond_t, ixB_nat, g2, oB_s, hy.1, g4, qw5, qqx, qbza _ _ _ _ _ _ _ _ u1 u2]
      rcases hJ with rfl | ⟨j, x, rfl, hx⟩
      · have e1 : decide ((-1 : Int) < 0) = true := by decide
        simp only [e1, cond_t] at n2 ⊢
        unfold qxl
        simp only [Bool.and_true]
        cases hq : qd2 v hi lo bits (gB y.cells 0) (gI y.cells 1) (gI y.cells 2) (gI y.cells 3) with
        | false => exact n2
        | true => exact n1
      · have h0 : ¬ (j : Int) < 0 := by omega
        have hxf := hl.2 x (List.mem_of_getElem? hx)
        simp only [h0, decide_false, cond_f, Int.toNat_natCast, hx, ixB_nat, oB_s, hxf.1, cond_t] at n2 ⊢
        unfold qxl
        cases hq : qd2 v hi lo bits (gB y.cells 0) (gI y.cells 1) (gI y.cells 2) (gI y.cells 3) with
        | false => exact n2
        | true =>
          simp only [cond_t, Bool.true_and]
          cases decide (gI y.cells 3 > gI x.cells 3) with
          | true => exact n1
          | false => exact n2
  refine key _ fun j => ?_
  by_cases hj : j < 0
  · simp only [hj, decide_true, cond_t, if_true]; rfl
  · simp only [hj, decide_false, cond_f, if_false]
    have : ixB l j = l[j.toNat]? := by unfold ixB; rw [if_pos (by omega)]
    rw [this]
    cases hx : l[j.toNat]? with
    | none => rfl
    | some y =>
      have hy := hl.2 y (List.mem_of_getElem? hx)
      simp only [oB_s, hy.1, cond_t]
      rw [show (AV.agg [(.bool (gB y.cells 0)), (.int .u64 (gI y.cells 1)), (.int .u64 (gI y.cells 2)), (.int .i64 (gI y.cells 3)), (.int .i64 (gI y.cells 4)), (.str (gS y.cells 5)), (.str (gS y.cells 6)), (.int .i64 (gI y.cells 7))]) = y from qhh hy.1]
theorem qb4t (l : List AV) (hl : qbo l) (v : Bool) (ahi alo : Int) (u1 : uok ahi) (u2 : uok alo) : qpe l v ahi alo = some (qpx (fun y => qnc (gB y.cells 0) (gI y.cells 1) (gI y.cells 2) (gI y.cells 3) v ahi alo) l) := by
  rw [q4p]; unfold qwm
  rw [qy3]
  have key : ∀ kx : Int → Option (AV × Bool), (∀ j : Int, kx j = (match (if j < 0 then none else l[j.toNat]?) with | some y => some (y, true) | none => if j < 0 then some (blk0, false) else none)) → qi4 l v ahi alo false 0 0 0 0 [] [] 0 kx FU (-1) 0 = some (qpx (fun y => qnc (gB y.cells 0) (gI y.cells 1) (gI y.cells 2) (gI y.cells 3) v ahi alo) l) := by
    intro kx hkx
    have key := qfw (σ := Int) l hl.1 (fun n i s => qi4 l v ahi alo false 0 0 0 0 [] [] 0 kx n s i) (fun i s nx => qgo l s i v ahi alo false 0 0 0 0 [] [] 0 (fun s i => nx i s) kx) (fun _ _ _ => rfl)
      (fun i s => s = -1 ∨ ∃ (j : Nat) (x : AV), s = j ∧ l[j]? = some x) (fun r s => some (outC (qxl (fun y => qnc (gB y.cells 0) (gI y.cells 1) (gI y.cells 2) (gI y.cells 3) v ahi alo) (bif decide (s < 0) then none else l[s.toNat]?) r))) ?_ ?_ (-1) FU (.inl rfl) (qhz (by have := hl.1; omega))
    · exact key
    · rintro s nx hJ
      unfold qgo
      simp only [Int.lt_irrefl, decide_false, cond_f, hkx]
      rcases hJ with rfl | ⟨j, x, rfl, hx⟩
      · rfl
      · have h0 : ¬ (j : Int) < 0 := by omega
        simp only [h0, if_false, decide_false, cond_f, Int.toNat_natCast, hx]
        rfl
    · rintro i y r s nx g1 g2 g3 g4 hJ hn
      have hy := hl.2 y (List.mem_of_getElem? g2)
      have h6 : (i : Int) < (l.length : Int) := by omega
      have hi0 : ¬ (i : Int) < 0 := by omega
      have n1 := hn (i : Int) (.inr ⟨i, y, rfl, g2⟩)
      have n2 := hn s hJ
      simp only [hi0, decide_false, cond_f, Int.toNat_natCast, g2] at n1
      unfold qgo
      simp only [h6, decide_true, cond_t, ixB_nat, g2, oB_s, hy.1, g4, qw7, qq0, qbow _ _ _ _ _ _ _ u1 u2]
      rcases hJ with rfl | ⟨j, x, rfl, hx⟩
      · have e1 : decide ((-1 : Int) < 0) = true := by decide
        simp only [e1, cond_t] at n2 ⊢
        unfold qxl
        simp only [Bool.and_true]
        cases hq : qnc (gB y.cells 0) (gI y.cells 1) (gI y.cells 2) (gI y.cells 3) v ahi alo with
        | false => exact n2
        | true => exact n1
      · have h0 : ¬ (j : Int) < 0 := by omega
        have hxf := hl.2 x (List.mem_of_getElem? hx)
        simp only [h0, decide_false, cond_f, Int.toNat_natCast, hx, ixB_nat, oB_s, hxf.1, cond_t] at n2 ⊢
        unfold qxl
        cases hq : qnc (gB y.cells 0) (gI y.cells 1) (gI y.cells 2) (gI y.cells 3) v ahi alo with
        | false => exact n2
        | true =>
          simp only [cond_t, Bool.true_and]
          cases decide (gI y.cells 3 > gI x.cells 3) with
          | true => exact n1
          | false => exact n2
  refine key _ fun j => ?_
  by_cases hj : j < 0
  · simp only [hj, decide_true, cond_t, if_true]; rfl
  · simp only [hj, decide_false, cond_f, if_false]
    have : ixB l j = l[j.toNat]? := by unfold ixB; rw [if_pos (by omega)]
    rw [this]
    cases hx : l[j.toNat]? with
    | none => rfl
    | some y =>
      have hy := hl.2 y (List.mem_of_getElem? hx)
      simp only [oB_s, hy.1, cond_t]
      rw [show (AV.agg [(.bool (gB y.cells 0)), (.int .u64 (gI y.cells 1)), (.int .u64 (gI y.cells 2)), (.int .i64 (gI y.cells 3)), (.int .i64 (gI y.cells 4)), (.str (gS y.cells 5)), (.str (gS y.cells 6)), (.int .i64 (gI y.cells 7))]) = y from qhh hy.1]
def q3m (l : List AV) (v : Bool) (hi lo bits : Int) (y : AV) : Bool := qd2 (gB y.cells 0) (gI y.cells 1) (gI y.cells 2) (gI y.cells 3) v hi lo bits && !(l.any fun o => qd2 (gB o.cells 0) (gI o.cells 1) (gI o.cells 2) (gI o.cells 3) v hi lo bits && qxk y o)
def qr7 (l : List AV) (v : Bool) (hi lo bits : Int) : List AV := l.filter (q3m l v hi lo bits)
theorem qbdk {R : Type} (l : List AV) (hl : qbo l) (a0 : Bool) (a1 : Int) (a2 : Int) (a3 : Int) (x : List AV) (b0 : Bool) (b1 : Int) (b2 : Int) (b3 : Int) (b4 : Int) (b5 : List UInt8) (b6 : List UInt8) (b7 : Int) (kr : Int → Bool → Int → Int → Int → List AV → Bool → Int → Int → Int → Int → List UInt8 → List UInt8 → Int → Option R) (q : AV → Bool) (hq : ∀ y, qmt y → ∀ kr : Bool → Bool → Int → Int → Int → List AV → Bool → Int → Int → Int → Int → List UInt8 → List UInt8 → Int → Option R, qkq (gB y.cells 0) (gI y.cells 1) (gI y.cells 2) (gI y.cells 3) (gI y.cells 4) (gS y.cells 5) (gS y.cells 6) (gI y.cells 7) a0 a1 a2 a3 x b0 b1 b2 b3 b4 b5 b6 b7 kr = kr (q y) a0 a1 a2 a3 x b0 b1 b2 b3 b4 b5 b6 b7) :
    qbm l a0 a1 a2 a3 x b0 b1 b2 b3 b4 b5 b6 b7 kr = kr (idxI q l) a0 a1 a2 a3 x b0 b1 b2 b3 b4 b5 b6 b7 := by
  rw [qec]; unfold qc4
  rw [qdq]
  have key := qfw l hl.1 (fun n i (s : Bool × Int × Int × Int × (List AV) × Bool × Int × Int × Int × Int × (List UInt8) × (List UInt8) × Int) => qbx l (l.length : Int) (fun c0 c1 c2 c3 c4 c5 c6 c7 c8 c9 c10 c11 c12 => kr (-1 : Int) c0 c1 c2 c3 c4 c5 c6 c7 c8 c9 c10 c11 c12) kr n i s.1 s.2.1 s.2.2.1 s.2.2.2.1 s.2.2.2.2.1 s.2.2.2.2.2.1 s.2.2.2.2.2.2.1 s.2.2.2.2.2.2.2.1 s.2.2.2.2.2.2.2.2.1 s.2.2.2.2.2.2.2.2.2.1 s.2.2.2.2.2.2.2.2.2.2.1 s.2.2.2.2.2.2.2.2.2.2.2.1 s.2.2.2.2.2.2.2.2.2.2.2.2)
    (fun i s nx => qr l (l.length : Int) i s.1 s.2.1 s.2.2.1 s.2.2.2.1 s.2.2.2.2.1 s.2.2.2.2.2.1 s.2.2.2.2.2.2.1 s.2.2.2.2.2.2.2.1 s.2.2.2.2.2.2.2.2.1 s.2.2.2.2.2.2.2.2.2.1 s.2.2.2.2.2.2.2.2.2.2.1 s.2.2.2.2.2.2.2.2.2.2.2.1 s.2.2.2.2.2.2.2.2.2.2.2.2 (fun i c0 c1 c2 c3 c4 c5 c6 c7 c8 c9 c10 c11 c12 => nx i (c0, c1, c2, c3, c4, c5, c6, c7, c8, c9, c10, c11, c12)) (fun c0 c1 c2 c3 c4 c5 c6 c7 c8 c9 c10 c11 c12 => kr (-1 : Int) c0 c1 c2 c3 c4 c5 c6 c7 c8 c9 c10 c11 c12) kr) (fun _ _ _ => rfl)
    (fun i s => s = (a0, a1, a2, a3, x, b0, b1, b2, b3, b4, b5, b6, b7)) (fun r s => kr (match idxO q r with | some k => ((l.length - r.length + k : Nat) : Int) | none => -1) a0 a1 a2 a3 x b0 b1 b2 b3 b4 b5 b6 b7) ?_ ?_ (a0, a1, a2, a3, x, b0, b1, b2, b3, b4, b5, b6, b7) FU rfl (qhz (by have := hl.1; omega))
  · refine key.trans ?_
    unfold idxI
    cases idxO q l <;> simp
  · intro s nx hs
    subst hs
    simp [qr, idxO]
  · rintro i y r _ nx h1 h2 h3 h4 rfl h5
    have hy := hl.2 y (List.mem_of_getElem? h2)
    have h6 : (i : Int) < (l.length : Int) := by omega
    have hr : r.length = l.length - (i + 1) := by
      have := congrArg List.length h1
      simp at this
      omega
    unfold qr
    simp only [h6, decide_true, cond_t, ixB_nat, h2, oB_s, hy.1, hq y hy, h4]
    unfold idxO
    cases hqq : q y with
    | true =>
      simp only [cond_t, if_true]
      congr 1
      simp
      omega
    | false =>
      simp only [cond_f, Bool.false_eq_true, if_false]
      rw [h5 _ rfl]
      cases idxO q r with
      | none => rfl
      | some k =>
        simp
        congr 1
        omega
theorem qbuj (l : List AV) (hl : qbo l) (hn : l.length ≤ 100000) (v : Bool) (hi lo bits : Int) : qi2 l v hi lo bits = some (qr7 l v hi lo bits) := by
  rw [q4i]; unfold qwb
  simp only [hd_nil, List.length_nil, Bool.and_self, cond_t]
  rw [qyx]
  have key := qfw (σ := AV × List AV) l hl.1 (fun n i s => qm3 l l (l.length : Int) (fun a0q1 => bif hd a0q1 a0q1.length then some a0q1 else none) n i (gB s.1.cells 0) (gI s.1.cells 1) (gI s.1.cells 2) (gI s.1.cells 3) s.2) (fun i s nx => qgk l l (l.length : Int) i (gB s.1.cells 0) (gI s.1.cells 1) (gI s.1.cells 2) (gI s.1.cells 3) s.2 (fun i a b c d x => nx i (mkP a b c d, x)) (fun a0q1 => bif hd a0q1 a0q1.length then some a0q1 else none)) (fun _ _ _ => rfl)
    (fun i s => s.1 = mkP v hi lo bits ∧ s.2.length ≤ i) (fun r s => some (s.2 ++ r.filter (q3m l v hi lo bits))) ?_ ?_ (mkP v hi lo bits, []) FU ⟨rfl, by simp⟩ (qhz (by have := hl.1; omega))
  · exact key
  · rintro ⟨s1, a⟩ nx ⟨h1, h2⟩
    simp [qgk]
  · rintro i y r ⟨s1, a⟩ nx g1 g2 g3 g4 ⟨h1, h2⟩ h5
    simp only at h1 h2
    subst h1
    have hy := hl.2 y (List.mem_of_getElem? g2)
    have h6 : (i : Int) < (l.length : Int) := by omega
    have n1 := h5 (mkP v hi lo bits, a ++ [y]) ⟨rfl, by simp; omega⟩
    have n2 := h5 (mkP v hi lo bits, a) ⟨rfl, by simp only; omega⟩
    have hyy := qhh hy.1
    unfold mkB at hyy
    have hJ : ∀ kn : Bool → Bool → Int → Int → Int → List AV → Bool → Int → Int → Int → Int → List UInt8 → List UInt8 → Int → Option (List AV), qkr l l (l.length : Int) (i : Int) v hi lo bits a (gB y.cells 0) (gI y.cells 1) (gI y.cells 2) (gI y.cells 3) (gI y.cells 4) (gS y.cells 5) (gS y.cells 6) (gI y.cells 7) kn = kn (q3m l v hi lo bits y) v hi lo bits a (gB y.cells 0) (gI y.cells 1) (gI y.cells 2) (gI y.cells 3) (gI y.cells 4) (gS y.cells 5) (gS y.cells 6) (gI y.cells 7) := by
      intro kn
      rw [qw3]; unfold qqs
      rw [qds]; unfold qct
      simp only [qbdj, oB_s]
      rw [qbdk l hl _ _ _ _ _ _ _ _ _ _ _ _ _ _ (fun o => qd2 (gB o.cells 0) (gI o.cells 1) (gI o.cells 2) (gI o.cells 3) v hi lo bits && qxk y o), qyj]
      · simp only [hd_self, cond_t]
        unfold q3m
        cases qd2 (gB y.cells 0) (gI y.cells 1) (gI y.cells 2) (gI y.cells 3) v hi lo bits <;> rfl
      · intro z hz kr
        rw [qw1]; unfold qqr
        simp only [qbdj, oB_s]
        rw [show qd2 (gB y.cells 0) (gI y.cells 1) (gI y.cells 2) (gI y.cells 3) (gB z.cells 0) (gI z.cells 1) (gI z.cells 2) (gI z.cells 3) = qxk y z from rfl]
        cases qd2 (gB z.cells 0) (gI z.cells 1) (gI z.cells 2) (gI z.cells 3) v hi lo bits <;> rfl
    unfold qgk
    simp only [h6, decide_true, cond_t, ixB_nat, g2, oB_s, hy.1, g4, hd_self, Bool.and_self]
    rw [show (gB (mkP v hi lo bits).cells 0) = v from rfl, show (gI (mkP v hi lo bits).cells 1) = hi from rfl, show (gI (mkP v hi lo bits).cells 2) = lo from rfl, show (gI (mkP v hi lo bits).cells 3) = bits from rfl]
    rw [hJ]
    simp only [hd_self, cond_t, hyy]
    rw [qblf y (a := a) (by omega), List.filter_cons]
    cases q3m l v hi lo bits y with
    | true =>
      simp only [cond_t, if_true]
      rw [show nx ((i + 1 : Nat) : Int) (mkP v hi lo bits, a ++ [y]) = _ from n1]
      simp
    | false => exact n2
theorem qboz (l : List AV) (hl : qbo l) (hn : l.length ≤ 100000) (v : Bool) (hi lo bits : Int) : qjg l v hi lo bits = some (qr7 l v hi lo bits) := by
  rw [q0z]; unfold qs8
  simp only [hd_nil, List.length_nil, Bool.and_self, cond_t]
  rw [qvm]
  have key := qfw (σ := List AV) l hl.1 (fun n i s => qlk l v hi lo bits (fun a0q1 => bif hd a0q1 a0q1.length then some a0q1 else none) n i s) (fun i s nx => qfm l i v hi lo bits s nx (fun a0q1 => bif hd a0q1 a0q1.length then some a0q1 else none)) (fun _ _ _ => rfl)
    (fun i s => s.length ≤ i) (fun r s => some (s ++ r.filter (q3m l v hi lo bits))) ?_ ?_ [] FU (by simp) (qhz (by have := hl.1; omega))
  · exact key
  · intro a nx h2; simp [qfm]
  · intro i y r a nx g1 g2 g3 g4 h2 h5
    have hy := hl.2 y (List.mem_of_getElem? g2)
    have h6 : (i : Int) < (l.length : Int) := by omega
    have n1 := h5 (a ++ [y]) (by simp; omega)
    have n2 := h5 a (by omega)
    have hyy := qhh hy.1
    unfold mkB at hyy
    have inner : ∀ kx : Bool → Option (List AV), qhu l (i : Int) v hi lo bits a kx FU true 0 = kx (!(l.any fun o => qd2 (gB o.cells 0) (gI o.cells 1) (gI o.cells 2) (gI o.cells 3) v hi lo bits && qxk y o)) := by
      intro kx
      rw [quv]
      have key := qfw (σ := Bool) l hl.1 (fun n k s => qj8 l (i : Int) v hi lo bits a kx n s k) (fun k s nx => qfd l (i : Int) s k v hi lo bits a (fun s k => nx k s) kx) (fun _ _ _ => rfl)
        (fun _ _ => True) (fun r s => kx (s && !(r.any fun o => qd2 (gB o.cells 0) (gI o.cells 1) (gI o.cells 2) (gI o.cells 3) v hi lo bits && qxk y o))) ?_ ?_ true FU trivial (qhz (by have := hl.1; omega))
      · exact key
      · intro s nx _; simp [qfd]
      · intro k z r s nx f1 f2 f3 f4 _ f5
        have hz := hl.2 z (List.mem_of_getElem? f2)
        have f6 : (k : Int) < (l.length : Int) := by omega
        unfold qfd
        simp only [f6, decide_true, cond_t, ixB_nat, f2, g2, oB_s, hz.1, hy.1, f4, qbza _ _ _ _ _ _ _ _ hz.2.1 hz.2.2.1, qbza _ _ _ _ _ _ _ _ hy.2.1 hy.2.2.1, f5 _ trivial]
        rw [show qd2 (gB y.cells 0) (gI y.cells 1) (gI y.cells 2) (gI y.cells 3) (gB z.cells 0) (gI z.cells 1) (gI z.cells 2) (gI z.cells 3) = qxk y z from rfl, List.any_cons]
        cases qd2 (gB z.cells 0) (gI z.cells 1) (gI z.cells 2) (gI z.cells 3) v hi lo bits <;> cases qxk y z <;> simp
    unfold qfm
    simp only [h6, decide_true, cond_t, ixB_nat, g2, oB_s, hy.1, g4, hd_self, Bool.and_self, qbza _ _ _ _ _ _ _ _ hy.2.1 hy.2.2.1, inner, hyy]
    rw [qblf y (a := a) (by omega), List.filter_cons, n2, n1]
    unfold q3m
    cases qd2 (gB y.cells 0) (gI y.cells 1) (gI y.cells 2) (gI y.cells 3) v hi lo bits <;> cases (l.any fun o => qd2 (gB o.cells 0) (gI o.cells 1) (gI o.cells 2) (gI o.cells 3) v hi lo bits && qxk y o) <;> simp
end Go.Proofs.Ytmjdngnagiloeaa.Dn
