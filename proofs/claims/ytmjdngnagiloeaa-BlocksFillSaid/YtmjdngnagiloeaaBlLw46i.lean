/- Tables of blocks: the examples of the chapter; BlocksChecks, BlocksChanges, BlocksFinds. -/
import Derived.Test.YtmjdngnagiloeaaBlLw46h
set_option linter.all false
namespace Go.Proofs.Ytmjdngnagiloeaa.Dn
open Go Go.Pev
set_option linter.unusedVariables false
set_option linter.unusedSimpArgs false
set_option maxRecDepth 4000
def qbbj (y : AV) : AV := mkB (gB y.cells 0) (gI y.cells 1) (gI y.cells 2) (gI y.cells 3) (gI y.cells 4) ((gS y.cells 5).take 100) ((gS y.cells 6).take 100) (gI y.cells 7)
theorem qbsn (s : List UInt8) : cutI s none (some (if (100 : Int) < (s.length : Int) then (100 : Int) else (s.length : Int))) = some (s.take 100) := by
  by_cases h : (100 : Int) < (s.length : Int)
  · rw [if_pos h]
    exact qze s 100 (by omega)
  · rw [if_neg h, qze s s.length (Nat.le_refl _), List.take_of_length_le (Nat.le_refl _), List.take_of_length_le (by omega)]
theorem qbvb (b0 : Bool) (b1 b2 b3 b4 : Int) (b5 b6 : List UInt8) (b7 : Int) : qob b0 b1 b2 b3 b4 b5 b6 b7 = some (qbbj (mkB b0 b1 b2 b3 b4 b5 b6 b7)) := by
  rw [q0b]; unfold qtn
  rw [qbsn, qbsn]
  rfl
theorem qbls {y : AV} (hy : qj8 y) : qj8 (qbbj y) := by
  refine ⟨rfl, hy.2.1, hy.2.2.1, ?_, ?_⟩
  · show ((gS y.cells 5).take 100).length ≤ _
    have := hy.2.2.2.1
    simp; omega
  · show ((gS y.cells 6).take 100).length ≤ _
    have := hy.2.2.2.2
    simp; omega
def fewF (l : List AV) : List AV := (l.take 30).map qbbj
theorem qbvc {l : List AV} (hl : qbz l) : qbz (fewF l) := ⟨by simp [fewF]; omega, fun y hy => by
  unfold fewF at hy
  obtain ⟨z, hz, rfl⟩ := List.mem_map.1 hy
  exact qbls (hl.2 z (List.mem_of_mem_take hz))⟩
theorem qbvd (l : List AV) : (fewF l).length ≤ 30 := by simp [fewF]; omega
theorem qbwm (l : List AV) (hl : qbz l) : qrc l = some (fewF l) := by
  rw [q3k]; unfold qwu
  simp only [hd_nil, List.length_nil, Bool.and_self, cond_t]
  rw [qx9]
  have key := qgl (σ := List AV) (l.take 30) (by simp; omega) (fun n i s => qnx l (fun a0q1 => bif hd a0q1 a0q1.length then some a0q1 else none) n i s) (fun i s nx => qiv l i s nx (fun a0q1 => bif hd a0q1 a0q1.length then some a0q1 else none)) (fun _ _ _ => rfl)
    (fun i s => s.length ≤ i) (fun r s => some (s ++ r.map qbbj)) ?_ ?_ [] FU (by simp) (ql4 (by simp; omega))
  · exact key
  · intro s nx _
    unfold qiv
    have : ((decide (((l.take 30).length : Int) < (l.length : Int))) && (decide (((l.take 30).length : Int) < (30 : Int)))) = false := by
      rw [Bool.and_eq_false_iff]
      simp only [List.length_take, decide_eq_false_iff_not]
      omega
    rw [this]
    simp
  · intro i y r s nx g1 g2 g3 g4 h2 h5
    have hi : i < 30 ∧ i < l.length := by simp at g3; omega
    have g2' : l[i]? = some y := by rw [List.getElem?_take, if_pos hi.1] at g2; exact g2
    have hy := hl.2 y (List.mem_of_getElem? g2')
    have h6 : (i : Int) < (l.length : Int) := by omega
    have h7 : (i : Int) < 30 := by omega
    have n1 := h5 (s ++ [qbbj y]) (by simp; omega)
    unfold qiv
    simp only [h6, h7, decide_true, Bool.and_self, cond_t, ixB_nat, g2', oB_s, hy.1, g4, qbvb, hd_self, qlw hy.1]
    have e := qlw (qbls hy).1
    unfold mkB at e
    rw [e, qbik _ (a := s) (by omega), n1]
    simp
theorem qbso (l : List AV) (hn : l.length ≤ 100000) (hl : ∀ y, y ∈ l → fitC qa y.cells = true) : qlo l l = some true := by
  rw [q2q]; unfold qvt
  simp only [bne_self_eq_false, cond_f]
  rw [qvs, q4a l (by omega) (qm0 l l (l.length : Int) fun _ => some true) (fun i nx => qgv l l (l.length : Int) i nx fun _ => some true) (fun _ _ => rfl) (fun _ => some true)]
  · intro nx; simp [qgv]
  · intro i y r nx g1 g2 g3 g4 h5
    have hy := hl y (List.mem_of_getElem? g2)
    have h6 : (i : Int) < (l.length : Int) := by omega
    unfold qgv
    simp only [h6, decide_true, cond_t, ixB_nat, g2, oB_s, hy, g4, h5, beq_self_eq_true, Bool.and_self, Bool.not_true, cond_f]
theorem qbt2 {l : List AV} (hl : qbz l) (hn : l.length ≤ 100000) : qlo l l = some true := qbso l hn fun y hy => (hl.2 y hy).1
def ex0 : AV := mkB false 0 167772160 8 1 [97, 108, 108] [] 0
def ex1 : AV := mkB false 0 167772160 24 2 [110, 101, 116] [] 0
def ex2 : AV := mkB false 0 167772165 32 3 [104, 111, 115, 116] [] 0
def ex3 : AV := mkB false 0 167837696 16 2 [120] [] 0
def ex4 : AV := mkB false 0 167837696 17 2 [120, 45, 48] [] 0
def ex5 : AV := mkB false 0 167870464 17 2 [120, 45, 49] [] 0
def exL : List AV := [ex0, ex1, ex2]
def exX : List AV := [ex0, ex1, ex2, ex3]
def exY : List AV := [ex0, ex1, ex2, ex4, ex5]
theorem qbm5 : ∀ y, y ∈ [ex0, ex1, ex2, ex3, ex4, ex5] → qj8 y := by
  intro y hy
  simp only [List.mem_cons, List.not_mem_nil, or_false] at hy
  rcases hy with rfl | rfl | rfl | rfl | rfl | rfl <;> refine ⟨rfl, ⟨?_, ?_⟩, ⟨?_, ?_⟩, ?_, ?_⟩ <;> decide +kernel
theorem exLf : qbz exL := ⟨by decide, fun y hy => qbm5 y (by simp only [exL, List.mem_cons, List.not_mem_nil, or_false] at hy ⊢; rcases hy with h | h | h <;> simp [h])⟩
theorem exXf : qbz exX := ⟨by decide, fun y hy => qbm5 y (by simp only [exX, List.mem_cons, List.not_mem_nil, or_false] at hy ⊢; rcases hy with h | h | h | h <;> simp [h])⟩
theorem exYf : qbz exY := ⟨by decide, fun y hy => qbm5 y (by simp only [exY, List.mem_cons, List.not_mem_nil, or_false] at hy ⊢; rcases hy with h | h | h | h | h <;> simp [h])⟩
theorem exLc : qwe exL = 0 := by decide +kernel
theorem exXc : qwe exX = 0 := by decide +kernel
theorem exYc : qwe exY = 0 := by decide +kernel
theorem exLt : qfq exL := (q4e (by decide)).1 exLc
theorem exXt : qfq exX := (q4e (by decide)).1 exXc
theorem exYt : qfq exY := (q4e (by decide)).1 exYc
theorem p_p4 (a b : Int) : qgz a b = some (mkP false 0 a b) := by rw [q45]; rfl
theorem qbwn (a b : Int) : qnr a b = some (mkP false 0 a b) := by rw [q43]; rfl
theorem qbsp : qmr = some exL := by
  rw [qwn]; unfold qrl
  simp only [qbwn, oB_s]
  rfl
theorem qbv4 : qbkk exL false 0 167772160 24 = ([], 25) := by kernel_rfl
theorem qbv5 : addF exL ex3 = (exX, 0) := by kernel_rfl
theorem qbt3 : qbo3 exX ⟨false, 0, 167837696, 16⟩ = (exY, 0) := by kernel_rfl
theorem qbve : qbrb exY ⟨false, 0, 167837696, 16⟩ = (exX, 0) := by kernel_rfl
theorem qbsq : qxv (fun y => qit false 0 167772166 32 (gB y.cells 0) (gI y.cells 1) (gI y.cells 2) (gI y.cells 3)) exL = (ex1, true) := by kernel_rfl
theorem qbsr : qxv (fun y => qph (gB y.cells 0) (gI y.cells 1) (gI y.cells 2) (gI y.cells 3) false 0 168361984) exL = (ex0, true) := by kernel_rfl
theorem qbvf : qg7 exL false 0 167772160 8 = [ex1] := by kernel_rfl
def qwg : List AV := qbm4 exL ⟨false, 0, 167772160, 8⟩
theorem qbvg : qwg.length = 16 ∧ qwg[0]? = some (mkP false 0 167772416 24) ∧ qwg[15]? = some (mkP false 0 176160768 9) := ⟨by kernel_rfl, by kernel_rfl, by kernel_rfl⟩
theorem qbby : qhk = some true := by
  have e1 : qm5 exL (gB ex1.cells 0) (gI ex1.cells 1) (gI ex1.cells 2) (gI ex1.cells 3) = some ([], 25) := by
    rw [← qbv4]; exact qbtq exL exLf (by decide) exLt _ _ _ _
  have e2 : qr3 exL (gB (mkP false 0 167837696 16).cells 0) (gI (mkP false 0 167837696 16).cells 1) (gI (mkP false 0 167837696 16).cells 2) (gI (mkP false 0 167837696 16).cells 3) 2 [120] [] 0 = some (exX, 0) := by
    rw [← qbv5]; exact qbwk exL exLf (by decide) exLt _ _ _ _ _ _ _ _ (qbm5 ex3 (by simp))
  have e3 : qog exX (gB (mkP false 0 167837696 16).cells 0) (gI (mkP false 0 167837696 16).cells 1) (gI (mkP false 0 167837696 16).cells 2) (gI (mkP false 0 167837696 16).cells 3) = some (exY, 0) := by
    rw [← qbt3]; exact qbu9 exX exXf (by decide) exXt ⟨false, 0, 167837696, 16⟩
  have e4 : qp6 exY (gB (mkP false 0 167837696 16).cells 0) (gI (mkP false 0 167837696 16).cells 1) (gI (mkP false 0 167837696 16).cells 2) (gI (mkP false 0 167837696 16).cells 3) = some (exX, 0) := by
    rw [← qbve]; exact qbv3 exY exYf (by decide) exYt ⟨false, 0, 167837696, 16⟩ ⟨by decide, by decide⟩ ⟨by decide, by decide⟩
  have e5 : qm6 exL (gB (mkP false 0 167772166 32).cells 0) (gI (mkP false 0 167772166 32).cells 1) (gI (mkP false 0 167772166 32).cells 2) (gI (mkP false 0 167772166 32).cells 3) = some (ex1, true) := by
    rw [← qbsq]; exact qbtw exL exLf _ _ _ _
  have e6 : qm7 exL false 0 168361984 = some (ex0, true) := by
    rw [← qbsr]; exact qbtx exL exLf _ _ _
  have e7 : qfc exL (gB ex0.cells 0) (gI ex0.cells 1) (gI ex0.cells 2) (gI ex0.cells 3) = some [ex1] := by
    rw [← qbvf]; exact q7z exL exLf (by decide) _ _ _ _
  have e8 : qkx exL (gB ex0.cells 0) (gI ex0.cells 1) (gI ex0.cells 2) (gI ex0.cells 3) = some qwg :=
    qbsm exL exLf (qsb exLf exLt) (by decide) ⟨false, 0, 167772160, 8⟩
  have e9 : qmq exL = some 0 := by rw [← exLc]; exact qbow exL exLf
  have e10 : qlo exX exX = some true := qbt2 exXf (by decide)
  obtain ⟨f1, f2, f3⟩ := qbvg
  have i0 : ixB exL 0 = some ex0 := rfl
  have i1 : ixB exL 1 = some ex1 := rfl
  have i3 : ixB exX 3 = some ex3 := rfl
  have i4 : ixB exY 3 = some ex4 := rfl
  have i5 : ixB exY 4 = some ex5 := rfl
  have i6 : ixB qwg 0 = some (mkP false 0 167772416 24) := by rw [ixB_zero]; exact f2
  have i7 : ixB qwg 15 = some (mkP false 0 176160768 9) := by
    have : ixB qwg ((15 : Nat) : Int) = qwg[15]? := ixB_nat _ _
    rw [← f3, ← this]; rfl
  have k0 : fitC qa ex0.cells = true := rfl
  have k1 : fitC qa ex1.cells = true := rfl
  have k3 : fitC qa ex3.cells = true := rfl
  have k4 : fitC qa ex4.cells = true := rfl
  have k5 : fitC qa ex5.cells = true := rfl
  have k6 : fitC qe (mkP false 0 167772416 24).cells = true := rfl
  have k7 : fitC qe (mkP false 0 176160768 9).cells = true := rfl
  rw [q01]; unfold qt6
  simp only [qbsp, oB_s, i1, k1, cond_t, e1, p_p4, e2, e3, e4, e5, e6, i0, k0, e7, e8]
  rw [qul]; unfold qpa
  simp only [e9, oB_s, i3, k3, cond_t, i4, k4, i5, k5, p_p4, e10, Bool.not_true]
  rw [show ((0 : Int) != 0) = false from rfl, show ((25 : Int) != 25) = false from rfl, show ((exX.length : Int) != 4) = false from rfl, show ((exY.length : Int) != 5) = false from rfl]
  simp only [cond_f]
  rw [show (!(gS ex3.cells 5 == [120])) = false from rfl, show (!(gS ex4.cells 5 == [120, 45, 48])) = false from rfl]
  simp only [cond_f]
  rw [show (!(gB ex5.cells 0 == gB (mkP false 0 167870464 17).cells 0 && (gI ex5.cells 1 == gI (mkP false 0 167870464 17).cells 1 && (gI ex5.cells 2 == gI (mkP false 0 167870464 17).cells 2 && (gI ex5.cells 3 == gI (mkP false 0 167870464 17).cells 3 && true))))) = false from rfl]
  simp only [cond_f, beq_self_eq_true, Bool.and_self, cond_t]
  rw [show ixB [ex1] 0 = some ex1 from rfl]
  simp only [oB_s, k1, cond_t, beq_self_eq_true, Bool.and_self]
  rw [show (((([ex1] : List AV).length : Int)) == 1) = true from rfl, show ((qwg.length : Int) == 16) = true by rw [f1]; rfl]
  simp only [cond_t, i6, i7, oB_s, k6, k7, beq_self_eq_true, Bool.and_self]
end Go.Proofs.Ytmjdngnagiloeaa.Dn
