/- The parent of a prefix, the holder of an address, the children of a block. -/
import Derived.Test.YtmjdngnagiloeaaBlLw46p
set_option linter.all false
namespace Go.Proofs.Ytmjdngnagiloeaa.Dn
open Go Go.Pev
set_option linter.unusedVariables false
set_option linter.unusedSimpArgs false
set_option maxRecDepth 4000
def mkA (b0 : Bool) (b1 b2 : Int) : AV := .agg [(.bool b0), (.int .u64 b1), (.int .u64 b2)]
def qbbw (q : AV → Bool) : Option AV → List AV → Option AV
  | b, [] => b
  | b, y :: r => qbbw q (bif q y && (match b with | none => true | some x => decide (gI y.cells 3 > gI x.cells 3)) then some y else b) r
def outC : Option AV → AV × Bool
  | some y => (y, true)
  | none => (blk0, false)
def qxv (q : AV → Bool) (l : List AV) : AV × Bool := outC (qbbw q none l)
theorem qbtw (l : List AV) (hl : qbz l) (v : Bool) (hi lo bits : Int) : qm6 l v hi lo bits = some (qxv (fun y => qit v hi lo bits (gB y.cells 0) (gI y.cells 1) (gI y.cells 2) (gI y.cells 3)) l) := by
  rw [q2n]; unfold qvl
  rw [ql1]; unfold qg0
  rw [qj2]
  have key : ∀ kx : Bool → Bool → Int → Int → Int → Int → List UInt8 → List UInt8 → Int → Bool → Int → Int → Int → Bool → Int → Int → Int → Int → List UInt8 → List UInt8 → Int → Bool → Int → Int → Int → Int → List UInt8 → List UInt8 → Int → Option (AV × Bool), (∀ (e : Bool) (a0 : Bool) (a1 a2 a3 a4 : Int) (a5 a6 : List UInt8) (a7 : Int) (b0 : Bool) (b1 b2 b3 : Int) (c0 : Bool) (c1 c2 c3 c4 : Int) (c5 c6 : List UInt8) (c7 : Int) (d0 : Bool) (d1 d2 d3 d4 : Int) (d5 d6 : List UInt8) (d7 : Int), kx e a0 a1 a2 a3 a4 a5 a6 a7 b0 b1 b2 b3 c0 c1 c2 c3 c4 c5 c6 c7 d0 d1 d2 d3 d4 d5 d6 d7 = some (mkB d0 d1 d2 d3 d4 d5 d6 d7, e)) →
      qdd l (l.length : Int) kx FU false 0 false 0 0 0 0 [] [] 0 v hi lo bits false 0 0 0 0 [] [] 0 false 0 0 0 0 [] [] 0 = some (qxv (fun y => qit v hi lo bits (gB y.cells 0) (gI y.cells 1) (gI y.cells 2) (gI y.cells 3)) l) := by
    intro kx hkx
    have key := qgl (σ := Bool × AV × AV × AV × AV) l hl.1 (fun n i s => qdd l (l.length : Int) kx n s.1 i (gB s.2.1.cells 0) (gI s.2.1.cells 1) (gI s.2.1.cells 2) (gI s.2.1.cells 3) (gI s.2.1.cells 4) (gS s.2.1.cells 5) (gS s.2.1.cells 6) (gI s.2.1.cells 7) (gB s.2.2.1.cells 0) (gI s.2.2.1.cells 1) (gI s.2.2.1.cells 2) (gI s.2.2.1.cells 3) (gB s.2.2.2.1.cells 0) (gI s.2.2.2.1.cells 1) (gI s.2.2.2.1.cells 2) (gI s.2.2.2.1.cells 3) (gI s.2.2.2.1.cells 4) (gS s.2.2.2.1.cells 5) (gS s.2.2.2.1.cells 6) (gI s.2.2.2.1.cells 7) (gB s.2.2.2.2.cells 0) (gI s.2.2.2.2.cells 1) (gI s.2.2.2.2.cells 2) (gI s.2.2.2.2.cells 3) (gI s.2.2.2.2.cells 4) (gS s.2.2.2.2.cells 5) (gS s.2.2.2.2.cells 6) (gI s.2.2.2.2.cells 7)) (fun i s nx => qcl s.1 l (l.length : Int) i (gB s.2.1.cells 0) (gI s.2.1.cells 1) (gI s.2.1.cells 2) (gI s.2.1.cells 3) (gI s.2.1.cells 4) (gS s.2.1.cells 5) (gS s.2.1.cells 6) (gI s.2.1.cells 7) (gB s.2.2.1.cells 0) (gI s.2.2.1.cells 1) (gI s.2.2.1.cells 2) (gI s.2.2.1.cells 3) (gB s.2.2.2.1.cells 0) (gI s.2.2.2.1.cells 1) (gI s.2.2.2.1.cells 2) (gI s.2.2.2.1.cells 3) (gI s.2.2.2.1.cells 4) (gS s.2.2.2.1.cells 5) (gS s.2.2.2.1.cells 6) (gI s.2.2.2.1.cells 7) (gB s.2.2.2.2.cells 0) (gI s.2.2.2.2.cells 1) (gI s.2.2.2.2.cells 2) (gI s.2.2.2.2.cells 3) (gI s.2.2.2.2.cells 4) (gS s.2.2.2.2.cells 5) (gS s.2.2.2.2.cells 6) (gI s.2.2.2.2.cells 7) (fun e i a0 a1 a2 a3 a4 a5 a6 a7 b0 b1 b2 b3 c0 c1 c2 c3 c4 c5 c6 c7 d0 d1 d2 d3 d4 d5 d6 d7 => nx i (e, mkB a0 a1 a2 a3 a4 a5 a6 a7, mkP b0 b1 b2 b3, mkB c0 c1 c2 c3 c4 c5 c6 c7, mkB d0 d1 d2 d3 d4 d5 d6 d7)) kx) (fun _ _ _ => rfl)
      (fun i s => s.2.1 = blk0 ∧ s.2.2.1 = mkP v hi lo bits ∧ s.2.2.2.1 = blk0 ∧ (s.1 = false → s.2.2.2.2 = blk0) ∧ (s.1 = true → fitC qa s.2.2.2.2.cells = true)) (fun r s => some (outC (qbbw (fun y => qit v hi lo bits (gB y.cells 0) (gI y.cells 1) (gI y.cells 2) (gI y.cells 3)) (bif s.1 then some s.2.2.2.2 else none) r))) ?_ ?_ (false, blk0, mkP v hi lo bits, blk0, blk0) FU ⟨rfl, rfl, rfl, fun _ => rfl, fun h => by cases h⟩ (ql4 (by have := hl.1; omega))
    · exact key
    · rintro ⟨e, s1, s2, s3, s4⟩ nx ⟨h1, h2, h3, h4, h5⟩
      simp only at h1 h2 h3 h4 h5
      subst h1 h2 h3
      unfold qcl
      simp only [Int.lt_irrefl, decide_false, cond_f, hkx]
      cases e with
      | false => rw [h4 rfl]; rfl
      | true => rw [qlw (h5 rfl)]; rfl
    · rintro i y r ⟨e, s1, s2, s3, s4⟩ nx g1 g2 g3 g4 ⟨h1, h2, h3, h4, h5⟩ hn
      simp only at h1 h2 h3 h4 h5
      subst h1 h2 h3
      have hy := hl.2 y (List.mem_of_getElem? g2)
      have h6 : (i : Int) < (l.length : Int) := by omega
      unfold qcl
      simp only [h6, decide_true, cond_t, ixB_nat, g2, oB_s, hy.1, g4, qj1, qfr, qyr, qsl, q59]
      rw [qlw hy.1]
      have n1 := hn (true, blk0, mkP v hi lo bits, blk0, y) ⟨rfl, rfl, rfl, fun h => (by cases h), fun _ => hy.1⟩
      have n2 := hn (e, blk0, mkP v hi lo bits, blk0, s4) ⟨rfl, rfl, rfl, h4, h5⟩
      have hs : mkB (gB s4.cells 0) (gI s4.cells 1) (gI s4.cells 2) (gI s4.cells 3) (gI s4.cells 4) (gS s4.cells 5) (gS s4.cells 6) (gI s4.cells 7) = s4 := by
        cases e with
        | false => rw [h4 rfl]; rfl
        | true => exact qlw (h5 rfl)
      rw [hs]
      unfold qbbw
      show (bif qit v hi lo bits (gB y.cells 0) (gI y.cells 1) (gI y.cells 2) (gI y.cells 3) then _ else _) = _
      cases hq : qit v hi lo bits (gB y.cells 0) (gI y.cells 1) (gI y.cells 2) (gI y.cells 3) with
      | false => exact n2
      | true =>
        cases e with
        | false => exact n1
        | true =>
          simp only [cond_t, Bool.not_true, cond_f, Bool.true_and]
          cases hc : decide (gI y.cells 3 > gI s4.cells 3) with
          | true => exact n1
          | false => exact n2
  exact key _ (fun _ _ _ _ _ _ _ _ _ _ _ _ _ _ _ _ _ _ _ _ _ _ _ _ _ _ _ _ _ => rfl)
theorem qbtx (l : List AV) (hl : qbz l) (v : Bool) (ahi alo : Int) : qm7 l v ahi alo = some (qxv (fun y => qph (gB y.cells 0) (gI y.cells 1) (gI y.cells 2) (gI y.cells 3) v ahi alo) l) := by
  rw [q2o]; unfold qvn
  rw [ql3]; unfold qg1
  rw [qj5]
  have key : ∀ kx : Bool → Bool → Int → Int → Int → Int → List UInt8 → List UInt8 → Int → Bool → Int → Int → Bool → Int → Int → Int → Int → List UInt8 → List UInt8 → Int → Bool → Int → Int → Int → Int → List UInt8 → List UInt8 → Int → Option (AV × Bool), (∀ (e : Bool) (a0 : Bool) (a1 a2 a3 a4 : Int) (a5 a6 : List UInt8) (a7 : Int) (b0 : Bool) (b1 b2 : Int) (c0 : Bool) (c1 c2 c3 c4 : Int) (c5 c6 : List UInt8) (c7 : Int) (d0 : Bool) (d1 d2 d3 d4 : Int) (d5 d6 : List UInt8) (d7 : Int), kx e a0 a1 a2 a3 a4 a5 a6 a7 b0 b1 b2 c0 c1 c2 c3 c4 c5 c6 c7 d0 d1 d2 d3 d4 d5 d6 d7 = some (mkB d0 d1 d2 d3 d4 d5 d6 d7, e)) →
      qde l (l.length : Int) kx FU false 0 false 0 0 0 0 [] [] 0 v ahi alo false 0 0 0 0 [] [] 0 false 0 0 0 0 [] [] 0 = some (qxv (fun y => qph (gB y.cells 0) (gI y.cells 1) (gI y.cells 2) (gI y.cells 3) v ahi alo) l) := by
    intro kx hkx
    have key := qgl (σ := Bool × AV × AV × AV × AV) l hl.1 (fun n i s => qde l (l.length : Int) kx n s.1 i (gB s.2.1.cells 0) (gI s.2.1.cells 1) (gI s.2.1.cells 2) (gI s.2.1.cells 3) (gI s.2.1.cells 4) (gS s.2.1.cells 5) (gS s.2.1.cells 6) (gI s.2.1.cells 7) (gB s.2.2.1.cells 0) (gI s.2.2.1.cells 1) (gI s.2.2.1.cells 2) (gB s.2.2.2.1.cells 0) (gI s.2.2.2.1.cells 1) (gI s.2.2.2.1.cells 2) (gI s.2.2.2.1.cells 3) (gI s.2.2.2.1.cells 4) (gS s.2.2.2.1.cells 5) (gS s.2.2.2.1.cells 6) (gI s.2.2.2.1.cells 7) (gB s.2.2.2.2.cells 0) (gI s.2.2.2.2.cells 1) (gI s.2.2.2.2.cells 2) (gI s.2.2.2.2.cells 3) (gI s.2.2.2.2.cells 4) (gS s.2.2.2.2.cells 5) (gS s.2.2.2.2.cells 6) (gI s.2.2.2.2.cells 7)) (fun i s nx => qcn s.1 l (l.length : Int) i (gB s.2.1.cells 0) (gI s.2.1.cells 1) (gI s.2.1.cells 2) (gI s.2.1.cells 3) (gI s.2.1.cells 4) (gS s.2.1.cells 5) (gS s.2.1.cells 6) (gI s.2.1.cells 7) (gB s.2.2.1.cells 0) (gI s.2.2.1.cells 1) (gI s.2.2.1.cells 2) (gB s.2.2.2.1.cells 0) (gI s.2.2.2.1.cells 1) (gI s.2.2.2.1.cells 2) (gI s.2.2.2.1.cells 3) (gI s.2.2.2.1.cells 4) (gS s.2.2.2.1.cells 5) (gS s.2.2.2.1.cells 6) (gI s.2.2.2.1.cells 7) (gB s.2.2.2.2.cells 0) (gI s.2.2.2.2.cells 1) (gI s.2.2.2.2.cells 2) (gI s.2.2.2.2.cells 3) (gI s.2.2.2.2.cells 4) (gS s.2.2.2.2.cells 5) (gS s.2.2.2.2.cells 6) (gI s.2.2.2.2.cells 7) (fun e i a0 a1 a2 a3 a4 a5 a6 a7 b0 b1 b2 c0 c1 c2 c3 c4 c5 c6 c7 d0 d1 d2 d3 d4 d5 d6 d7 => nx i (e, mkB a0 a1 a2 a3 a4 a5 a6 a7, mkA b0 b1 b2, mkB c0 c1 c2 c3 c4 c5 c6 c7, mkB d0 d1 d2 d3 d4 d5 d6 d7)) kx) (fun _ _ _ => rfl)
      (fun i s => s.2.1 = blk0 ∧ s.2.2.1 = mkA v ahi alo ∧ s.2.2.2.1 = blk0 ∧ (s.1 = false → s.2.2.2.2 = blk0) ∧ (s.1 = true → fitC qa s.2.2.2.2.cells = true)) (fun r s => some (outC (qbbw (fun y => qph (gB y.cells 0) (gI y.cells 1) (gI y.cells 2) (gI y.cells 3) v ahi alo) (bif s.1 then some s.2.2.2.2 else none) r))) ?_ ?_ (false, blk0, mkA v ahi alo, blk0, blk0) FU ⟨rfl, rfl, rfl, fun _ => rfl, fun h => by cases h⟩ (ql4 (by have := hl.1; omega))
    · exact key
    · rintro ⟨e, s1, s2, s3, s4⟩ nx ⟨h1, h2, h3, h4, h5⟩
      simp only at h1 h2 h3 h4 h5
      subst h1 h2 h3
      unfold qcn
      simp only [Int.lt_irrefl, decide_false, cond_f, hkx]
      cases e with
      | false => rw [h4 rfl]; rfl
      | true => rw [qlw (h5 rfl)]; rfl
    · rintro i y r ⟨e, s1, s2, s3, s4⟩ nx g1 g2 g3 g4 ⟨h1, h2, h3, h4, h5⟩ hn
      simp only at h1 h2 h3 h4 h5
      subst h1 h2 h3
      have hy := hl.2 y (List.mem_of_getElem? g2)
      have h6 : (i : Int) < (l.length : Int) := by omega
      unfold qcn
      simp only [h6, decide_true, cond_t, ixB_nat, g2, oB_s, hy.1, g4, qj4, qfs, qyt, qso, qx4]
      rw [qlw hy.1]
      have n1 := hn (true, blk0, mkA v ahi alo, blk0, y) ⟨rfl, rfl, rfl, fun h => (by cases h), fun _ => hy.1⟩
      have n2 := hn (e, blk0, mkA v ahi alo, blk0, s4) ⟨rfl, rfl, rfl, h4, h5⟩
      have hs : mkB (gB s4.cells 0) (gI s4.cells 1) (gI s4.cells 2) (gI s4.cells 3) (gI s4.cells 4) (gS s4.cells 5) (gS s4.cells 6) (gI s4.cells 7) = s4 := by
        cases e with
        | false => rw [h4 rfl]; rfl
        | true => exact qlw (h5 rfl)
      rw [hs]
      unfold qbbw
      show (bif qph (gB y.cells 0) (gI y.cells 1) (gI y.cells 2) (gI y.cells 3) v ahi alo then _ else _) = _
      cases hq : qph (gB y.cells 0) (gI y.cells 1) (gI y.cells 2) (gI y.cells 3) v ahi alo with
      | false => exact n2
      | true =>
        cases e with
        | false => exact n1
        | true =>
          simp only [cond_t, Bool.not_true, cond_f, Bool.true_and]
          cases hc : decide (gI y.cells 3 > gI s4.cells 3) with
          | true => exact n1
          | false => exact n2
  exact key _ (fun _ _ _ _ _ _ _ _ _ _ _ _ _ _ _ _ _ _ _ _ _ _ _ _ _ _ _ _ => rfl)
def q1s (l : List AV) (v : Bool) (hi lo bits : Int) (y : AV) : Bool := qit (gB y.cells 0) (gI y.cells 1) (gI y.cells 2) (gI y.cells 3) v hi lo bits && !(l.any fun o => qit (gB o.cells 0) (gI o.cells 1) (gI o.cells 2) (gI o.cells 3) v hi lo bits && q7v y o)
def qg7 (l : List AV) (v : Bool) (hi lo bits : Int) : List AV := l.filter (q1s l v hi lo bits)
theorem q6b {R : Type} (l : List AV) (hl : qbz l) (a0 : Bool) (a1 : Int) (a2 : Int) (a3 : Int) (x : List AV) (b0 : Bool) (b1 : Int) (b2 : Int) (b3 : Int) (b4 : Int) (b5 : List UInt8) (b6 : List UInt8) (b7 : Int) (kr : Int → Bool → Int → Int → Int → List AV → Bool → Int → Int → Int → Int → List UInt8 → List UInt8 → Int → Option R) (q : AV → Bool) (hq : ∀ y, qj8 y → ∀ kr : Bool → Bool → Int → Int → Int → List AV → Bool → Int → Int → Int → Int → List UInt8 → List UInt8 → Int → Option R, qj6 (gB y.cells 0) (gI y.cells 1) (gI y.cells 2) (gI y.cells 3) (gI y.cells 4) (gS y.cells 5) (gS y.cells 6) (gI y.cells 7) a0 a1 a2 a3 x b0 b1 b2 b3 b4 b5 b6 b7 kr = kr (q y) a0 a1 a2 a3 x b0 b1 b2 b3 b4 b5 b6 b7) :
    qbm l a0 a1 a2 a3 x b0 b1 b2 b3 b4 b5 b6 b7 kr = kr (idxI q l) a0 a1 a2 a3 x b0 b1 b2 b3 b4 b5 b6 b7 := by
  rw [qed]; unfold qc3
  rw [qdo]
  have key := qgl l hl.1 (fun n i (s : Bool × Int × Int × Int × (List AV) × Bool × Int × Int × Int × Int × (List UInt8) × (List UInt8) × Int) => qbv l (l.length : Int) (fun c0 c1 c2 c3 c4 c5 c6 c7 c8 c9 c10 c11 c12 => kr (-1 : Int) c0 c1 c2 c3 c4 c5 c6 c7 c8 c9 c10 c11 c12) kr n i s.1 s.2.1 s.2.2.1 s.2.2.2.1 s.2.2.2.2.1 s.2.2.2.2.2.1 s.2.2.2.2.2.2.1 s.2.2.2.2.2.2.2.1 s.2.2.2.2.2.2.2.2.1 s.2.2.2.2.2.2.2.2.2.1 s.2.2.2.2.2.2.2.2.2.2.1 s.2.2.2.2.2.2.2.2.2.2.2.1 s.2.2.2.2.2.2.2.2.2.2.2.2)
    (fun i s nx => qq l (l.length : Int) i s.1 s.2.1 s.2.2.1 s.2.2.2.1 s.2.2.2.2.1 s.2.2.2.2.2.1 s.2.2.2.2.2.2.1 s.2.2.2.2.2.2.2.1 s.2.2.2.2.2.2.2.2.1 s.2.2.2.2.2.2.2.2.2.1 s.2.2.2.2.2.2.2.2.2.2.1 s.2.2.2.2.2.2.2.2.2.2.2.1 s.2.2.2.2.2.2.2.2.2.2.2.2 (fun i c0 c1 c2 c3 c4 c5 c6 c7 c8 c9 c10 c11 c12 => nx i (c0, c1, c2, c3, c4, c5, c6, c7, c8, c9, c10, c11, c12)) (fun c0 c1 c2 c3 c4 c5 c6 c7 c8 c9 c10 c11 c12 => kr (-1 : Int) c0 c1 c2 c3 c4 c5 c6 c7 c8 c9 c10 c11 c12) kr) (fun _ _ _ => rfl)
    (fun i s => s = (a0, a1, a2, a3, x, b0, b1, b2, b3, b4, b5, b6, b7)) (fun r s => kr (match idxO q r with | some k => ((l.length - r.length + k : Nat) : Int) | none => -1) a0 a1 a2 a3 x b0 b1 b2 b3 b4 b5 b6 b7) ?_ ?_ (a0, a1, a2, a3, x, b0, b1, b2, b3, b4, b5, b6, b7) FU rfl (ql4 (by have := hl.1; omega))
  · refine key.trans ?_
    unfold idxI
    cases idxO q l <;> simp
  · intro s nx hs
    subst hs
    simp [qq, idxO]
  · rintro i y r _ nx h1 h2 h3 h4 rfl h5
    have hy := hl.2 y (List.mem_of_getElem? h2)
    have h6 : (i : Int) < (l.length : Int) := by omega
    have hr : r.length = l.length - (i + 1) := by
      have := congrArg List.length h1
      simp at this
      omega
    unfold qq
    simp only [h6, decide_true, cond_t, ixB_nat, h2, oB_s, hy.1, hq y hy, h4]
    unfold idxO
    cases hqq : q y with
    | true =>
      simp only [cond_t, if_true]
      congr 1
      simp
      omega
    | false =>
      simp only [cond_f, Bool.false_eq_true, if_false]
      rw [h5 _ rfl]
      cases idxO q r with
      | none => rfl
      | some k =>
        simp
        congr 1
        omega
theorem q7z (l : List AV) (hl : qbz l) (hn : l.length ≤ 100000) (v : Bool) (hi lo bits : Int) : qfc l v hi lo bits = some (qg7 l v hi lo bits) := by
  rw [qyu]; unfold qsr
  simp only [hd_nil, List.length_nil, Bool.and_self, cond_t]
  rw [quj]
  have key := qgl (σ := AV × List AV) l hl.1 (fun n i s => ql8 l l (l.length : Int) (fun a0q1 => bif hd a0q1 a0q1.length then some a0q1 else none) n i (gB s.1.cells 0) (gI s.1.cells 1) (gI s.1.cells 2) (gI s.1.cells 3) s.2) (fun i s nx => qf8 l l (l.length : Int) i (gB s.1.cells 0) (gI s.1.cells 1) (gI s.1.cells 2) (gI s.1.cells 3) s.2 (fun i a b c d x => nx i (mkP a b c d, x)) (fun a0q1 => bif hd a0q1 a0q1.length then some a0q1 else none)) (fun _ _ _ => rfl)
    (fun i s => s.1 = mkP v hi lo bits ∧ s.2.length ≤ i) (fun r s => some (s.2 ++ r.filter (q1s l v hi lo bits))) ?_ ?_ (mkP v hi lo bits, []) FU ⟨rfl, by simp⟩ (ql4 (by have := hl.1; omega))
  · exact key
  · rintro ⟨s1, a⟩ nx ⟨h1, h2⟩
    simp [qf8]
  · rintro i y r ⟨s1, a⟩ nx g1 g2 g3 g4 ⟨h1, h2⟩ h5
    simp only at h1 h2
    subst h1
    have hy := hl.2 y (List.mem_of_getElem? g2)
    have h6 : (i : Int) < (l.length : Int) := by omega
    have n1 := h5 (mkP v hi lo bits, a ++ [y]) ⟨rfl, by simp; omega⟩
    have n2 := h5 (mkP v hi lo bits, a) ⟨rfl, by simp only; omega⟩
    have hyy := qlw hy.1
    unfold mkB at hyy
    have hJ : ∀ kn : Bool → Bool → Int → Int → Int → List AV → Bool → Int → Int → Int → Int → List UInt8 → List UInt8 → Int → Option (List AV), qj7 l l (l.length : Int) (i : Int) v hi lo bits a (gB y.cells 0) (gI y.cells 1) (gI y.cells 2) (gI y.cells 3) (gI y.cells 4) (gS y.cells 5) (gS y.cells 6) (gI y.cells 7) kn = kn (q1s l v hi lo bits y) v hi lo bits a (gB y.cells 0) (gI y.cells 1) (gI y.cells 2) (gI y.cells 3) (gI y.cells 4) (gS y.cells 5) (gS y.cells 6) (gI y.cells 7) := by
      intro kn
      rw [qta]; unfold qoi
      rw [qdq]; unfold qct
      simp only [q59, oB_s]
      rw [q6b l hl _ _ _ _ _ _ _ _ _ _ _ _ _ _ (fun o => qit (gB o.cells 0) (gI o.cells 1) (gI o.cells 2) (gI o.cells 3) v hi lo bits && q7v y o), quc]
      · simp only [hd_self, cond_t]
        unfold q1s
        cases qit (gB y.cells 0) (gI y.cells 1) (gI y.cells 2) (gI y.cells 3) v hi lo bits <;> rfl
      · intro z hz kr
        rw [qs8]; unfold qoh
        simp only [q59, oB_s]
        rw [show qit (gB y.cells 0) (gI y.cells 1) (gI y.cells 2) (gI y.cells 3) (gB z.cells 0) (gI z.cells 1) (gI z.cells 2) (gI z.cells 3) = q7v y z from rfl]
        cases qit (gB z.cells 0) (gI z.cells 1) (gI z.cells 2) (gI z.cells 3) v hi lo bits <;> rfl
    unfold qf8
    simp only [h6, decide_true, cond_t, ixB_nat, g2, oB_s, hy.1, g4, hd_self, Bool.and_self]
    rw [show (gB (mkP v hi lo bits).cells 0) = v from rfl, show (gI (mkP v hi lo bits).cells 1) = hi from rfl, show (gI (mkP v hi lo bits).cells 2) = lo from rfl, show (gI (mkP v hi lo bits).cells 3) = bits from rfl]
    rw [hJ]
    simp only [hd_self, cond_t, hyy]
    rw [qbik y (a := a) (by omega), List.filter_cons]
    cases q1s l v hi lo bits y with
    | true =>
      simp only [cond_t, if_true]
      rw [show nx ((i + 1 : Nat) : Int) (mkP v hi lo bits, a ++ [y]) = _ from n1]
      simp
    | false => exact n2
end Go.Proofs.Ytmjdngnagiloeaa.Dn
