/- Tables of blocks: the examples of the chapter; BlocksChecks, BlocksChanges, BlocksFinds. -/
import Derived.Test.YtmjdngnagiloeaaBhLw46h
set_option linter.all false
namespace Go.Proofs.Ytmjdngnagiloeaa.Dn
open Go Go.Pev
set_option linter.unusedVariables false
set_option linter.unusedSimpArgs false
set_option maxRecDepth 4000
def q9d (y : AV) : AV := mkB (gB y.cells 0) (gI y.cells 1) (gI y.cells 2) (gI y.cells 3) (gI y.cells 4) ((gS y.cells 5).take 100) ((gS y.cells 6).take 100) (gI y.cells 7)
theorem qbp0 (s : List UInt8) : cutI s none (some (if (100 : Int) < (s.length : Int) then (100 : Int) else (s.length : Int))) = some (s.take 100) := by
  by_cases h : (100 : Int) < (s.length : Int)
  · rw [if_pos h]
    exact q14 s 100 (by omega)
  · rw [if_neg h, q14 s s.length (Nat.le_refl _), List.take_of_length_le (Nat.le_refl _), List.take_of_length_le (by omega)]
theorem qbsg (b0 : Bool) (b1 b2 b3 b4 : Int) (b5 b6 : List UInt8) (b7 : Int) : qm6 b0 b1 b2 b3 b4 b5 b6 b7 = some (q9d (mkB b0 b1 b2 b3 b4 b5 b6 b7)) := by
  rw [qyb]; unfold qsb
  rw [qbp0, qbp0]
  rfl
theorem qbja {y : AV} (hy : qlx y) : qlx (q9d y) := by
  refine ⟨rfl, hy.2.1, hy.2.2.1, ?_, ?_⟩
  · show ((gS y.cells 5).take 100).length ≤ _
    have := hy.2.2.2.1
    simp; omega
  · show ((gS y.cells 6).take 100).length ≤ _
    have := hy.2.2.2.2
    simp; omega
def fewF (l : List AV) : List AV := (l.take 30).map q9d
theorem qbsh {l : List AV} (hl : qby l) : qby (fewF l) := ⟨by simp [fewF]; omega, fun y hy => by
  unfold fewF at hy
  obtain ⟨z, hz, rfl⟩ := List.mem_map.1 hy
  exact qbja (hl.2 z (List.mem_of_mem_take hz))⟩
theorem qbsi (l : List AV) : (fewF l).length ≤ 30 := by simp [fewF]; omega
theorem qbtr (l : List AV) (hl : qby l) : qpx l = some (fewF l) := by
  rw [q1a]; unfold qve
  simp only [hd_nil, List.length_nil, Bool.and_self, cond_t]
  rw [qwo]
  have key := qh2 (σ := List AV) (l.take 30) (by simp; omega) (fun n i s => qmu l (fun a0q1 => bif hd a0q1 a0q1.length then some a0q1 else none) n i s) (fun i s nx => qh4 l i s nx (fun a0q1 => bif hd a0q1 a0q1.length then some a0q1 else none)) (fun _ _ _ => rfl)
    (fun i s => s.length ≤ i) (fun r s => some (s ++ r.map q9d)) ?_ ?_ [] FU (by simp) (qml (by simp; omega))
  · exact key
  · intro s nx _
    unfold qh4
    have : ((decide (((l.take 30).length : Int) < (l.length : Int))) && (decide (((l.take 30).length : Int) < (30 : Int)))) = false := by
      rw [Bool.and_eq_false_iff]
      simp only [List.length_take, decide_eq_false_iff_not]
      omega
    rw [this]
    simp
  · intro i y r s nx g1 g2 g3 g4 h2 h5
    have hi : i < 30 ∧ i < l.length := by simp at g3; omega
    have g2' : l[i]? = some y := by rw [List.getElem?_take, if_pos hi.1] at g2; exact g2
    have hy := hl.2 y (List.mem_of_getElem? g2')
    have h6 : (i : Int) < (l.length : Int) := by omega
    have h7 : (i : Int) < 30 := by omega
    have n1 := h5 (s ++ [q9d y]) (by simp; omega)
    unfold qh4
    simp only [h6, h7, decide_true, Bool.and_self, cond_t, ixB_nat, g2', oB_s, hy.1, g4, qbsg, hd_self, qk1 hy.1]
    have e := qk1 (qbja hy).1
    unfold mkB at e
    rw [e, qbfw _ (a := s) (by omega), n1]
    simp
theorem qbp1 (l : List AV) (hn : l.length ≤ 100000) (hl : ∀ y, y ∈ l → fitC qa y.cells = true) : qkv l l = some true := by
  rw [q0g]; unfold qub
  simp only [bne_self_eq_false, cond_f]
  rw [qua, qbix l (by omega) (ql1 l l (l.length : Int) fun _ => some true) (fun i nx => qga l l (l.length : Int) i nx fun _ => some true) (fun _ _ => rfl) (fun _ => some true)]
  · intro nx; simp [qga]
  · intro i y r nx g1 g2 g3 g4 h5
    have hy := hl y (List.mem_of_getElem? g2)
    have h6 : (i : Int) < (l.length : Int) := by omega
    unfold qga
    simp only [h6, decide_true, cond_t, ixB_nat, g2, oB_s, hy, g4, h5, beq_self_eq_true, Bool.and_self, Bool.not_true, cond_f]
theorem qbq6 {l : List AV} (hl : qby l) (hn : l.length ≤ 100000) : qkv l l = some true := qbp1 l hn fun y hy => (hl.2 y hy).1
def ex0 : AV := mkB false 0 167772160 8 1 [97, 108, 108] [] 0
def ex1 : AV := mkB false 0 167772160 24 2 [110, 101, 116] [] 0
def ex2 : AV := mkB false 0 167772165 32 3 [104, 111, 115, 116] [] 0
def ex3 : AV := mkB false 0 167837696 16 2 [120] [] 0
def ex4 : AV := mkB false 0 167837696 17 2 [120, 45, 48] [] 0
def ex5 : AV := mkB false 0 167870464 17 2 [120, 45, 49] [] 0
def exL : List AV := [ex0, ex1, ex2]
def exX : List AV := [ex0, ex1, ex2, ex3]
def exY : List AV := [ex0, ex1, ex2, ex4, ex5]
theorem qbkn : ∀ y, y ∈ [ex0, ex1, ex2, ex3, ex4, ex5] → qlx y := by
  intro y hy
  simp only [List.mem_cons, List.not_mem_nil, or_false] at hy
  rcases hy with rfl | rfl | rfl | rfl | rfl | rfl <;> refine ⟨rfl, ⟨?_, ?_⟩, ⟨?_, ?_⟩, ?_, ?_⟩ <;> decide +kernel
theorem exLf : qby exL := ⟨by decide, fun y hy => qbkn y (by simp only [exL, List.mem_cons, List.not_mem_nil, or_false] at hy ⊢; rcases hy with h | h | h <;> simp [h])⟩
theorem exXf : qby exX := ⟨by decide, fun y hy => qbkn y (by simp only [exX, List.mem_cons, List.not_mem_nil, or_false] at hy ⊢; rcases hy with h | h | h | h <;> simp [h])⟩
theorem exYf : qby exY := ⟨by decide, fun y hy => qbkn y (by simp only [exY, List.mem_cons, List.not_mem_nil, or_false] at hy ⊢; rcases hy with h | h | h | h | h <;> simp [h])⟩
theorem exLc : quv exL = 0 := by decide +kernel
theorem exXc : quv exX = 0 := by decide +kernel
theorem exYc : quv exY = 0 := by decide +kernel
theorem exLt : qe2 exL := (q16 (by decide)).1 exLc
theorem exXt : qe2 exX := (q16 (by decide)).1 exXc
theorem exYt : qe2 exY := (q16 (by decide)).1 exYc
theorem p_p4 (a b : Int) : qgf a b = some (mkP false 0 a b) := by rw [q2z]; rfl
theorem qbts (a b : Int) : qmp a b = some (mkP false 0 a b) := by rw [q2x]; rfl
theorem qbp2 : qlt = some exL := by
  rw [qu6]; unfold qp6
  simp only [qbts, oB_s]
  rfl
theorem qbs9 : qbhy exL false 0 167772160 24 = ([], 25) := by kernel_rfl
theorem qbta : addF exL ex3 = (exX, 0) := by kernel_rfl
theorem qbq7 : qbml exX ⟨false, 0, 167837696, 16⟩ = (exY, 0) := by kernel_rfl
theorem qbsj : qboq exY ⟨false, 0, 167837696, 16⟩ = (exX, 0) := by kernel_rfl
theorem qbp3 : qe3 (fun y => qff false 0 167772166 32 (gB y.cells 0) (gI y.cells 1) (gI y.cells 2) (gI y.cells 3)) exL = (ex1, true) := by kernel_rfl
theorem qbp4 : qe3 (fun y => qmn (gB y.cells 0) (gI y.cells 1) (gI y.cells 2) (gI y.cells 3) false 0 168361984) exL = (ex0, true) := by kernel_rfl
theorem qbsk : qbrk exL false 0 167772160 8 = [ex1] := by kernel_rfl
def quz : List AV := qbon exL ⟨false, 0, 167772160, 8⟩
theorem qbsl : quz.length = 16 ∧ quz[0]? = some (mkP false 0 167772416 24) ∧ quz[15]? = some (mkP false 0 176160768 9) := ⟨by kernel_rfl, by kernel_rfl, by kernel_rfl⟩
theorem qbns : qjp = some true := by
  have e1 : ql6 exL (gB ex1.cells 0) (gI ex1.cells 1) (gI ex1.cells 2) (gI ex1.cells 3) = some ([], 25) := by
    rw [← qbs9]; exact qbqw exL exLf (by decide) exLt _ _ _ _
  have e2 : qqp exL (gB (mkP false 0 167837696 16).cells 0) (gI (mkP false 0 167837696 16).cells 1) (gI (mkP false 0 167837696 16).cells 2) (gI (mkP false 0 167837696 16).cells 3) 2 [120] [] 0 = some (exX, 0) := by
    rw [← qbta]; exact qbtq exL exLf (by decide) exLt _ _ _ _ _ _ _ _ (qbkn ex3 (by simp))
  have e3 : qnb exX (gB (mkP false 0 167837696 16).cells 0) (gI (mkP false 0 167837696 16).cells 1) (gI (mkP false 0 167837696 16).cells 2) (gI (mkP false 0 167837696 16).cells 3) = some (exY, 0) := by
    rw [← qbq7]; exact qbse exX exXf (by decide) exXt ⟨false, 0, 167837696, 16⟩
  have e4 : qou exY (gB (mkP false 0 167837696 16).cells 0) (gI (mkP false 0 167837696 16).cells 1) (gI (mkP false 0 167837696 16).cells 2) (gI (mkP false 0 167837696 16).cells 3) = some (exX, 0) := by
    rw [← qbsj]; exact qbs8 exY exYf (by decide) exYt ⟨false, 0, 167837696, 16⟩ ⟨by decide, by decide⟩ ⟨by decide, by decide⟩
  have e5 : qkt exL (gB (mkP false 0 167772166 32).cells 0) (gI (mkP false 0 167772166 32).cells 1) (gI (mkP false 0 167772166 32).cells 2) (gI (mkP false 0 167772166 32).cells 3) = some (ex1, true) := by
    rw [← qbp3]; exact qbmi exL exLf _ _ _ _
  have e6 : qku exL false 0 168361984 = some (ex0, true) := by
    rw [← qbp4]; exact qbmj exL exLf _ _ _
  have e7 : qkj exL (gB ex0.cells 0) (gI ex0.cells 1) (gI ex0.cells 2) (gI ex0.cells 3) = some [ex1] := by
    rw [← qbsk]; exact qbol exL exLf (by decide) _ _ _ _
  have e8 : qov exL (gB ex0.cells 0) (gI ex0.cells 1) (gI ex0.cells 2) (gI ex0.cells 3) = some quz :=
    qbs6 exL exLf (qqy exLf exLt) (by decide) ⟨false, 0, 167772160, 8⟩
  have e9 : qls exL = some 0 := by rw [← exLc]; exact qbmd exL exLf
  have e10 : qkv exX exX = some true := qbq6 exXf (by decide)
  obtain ⟨f1, f2, f3⟩ := qbsl
  have i0 : ixB exL 0 = some ex0 := rfl
  have i1 : ixB exL 1 = some ex1 := rfl
  have i3 : ixB exX 3 = some ex3 := rfl
  have i4 : ixB exY 3 = some ex4 := rfl
  have i5 : ixB exY 4 = some ex5 := rfl
  have i6 : ixB quz 0 = some (mkP false 0 167772416 24) := by rw [ixB_zero]; exact f2
  have i7 : ixB quz 15 = some (mkP false 0 176160768 9) := by
    have : ixB quz ((15 : Nat) : Int) = quz[15]? := ixB_nat _ _
    rw [← f3, ← this]; rfl
  have k0 : fitC qa ex0.cells = true := rfl
  have k1 : fitC qa ex1.cells = true := rfl
  have k3 : fitC qa ex3.cells = true := rfl
  have k4 : fitC qa ex4.cells = true := rfl
  have k5 : fitC qa ex5.cells = true := rfl
  have k6 : fitC qi (mkP false 0 167772416 24).cells = true := rfl
  have k7 : fitC qi (mkP false 0 176160768 9).cells = true := rfl
  rw [qyz]; unfold qst
  simp only [qbp2, oB_s, i1, k1, cond_t, e1, p_p4, e2, e3, e4, e5, e6, i0, k0, e7, e8]
  rw [qs7]; unfold qn6
  simp only [e9, oB_s, i3, k3, cond_t, i4, k4, i5, k5, p_p4, e10, Bool.not_true]
  rw [show ((0 : Int) != 0) = false from rfl, show ((25 : Int) != 25) = false from rfl, show ((exX.length : Int) != 4) = false from rfl, show ((exY.length : Int) != 5) = false from rfl]
  simp only [cond_f]
  rw [show (!(gS ex3.cells 5 == [120])) = false from rfl, show (!(gS ex4.cells 5 == [120, 45, 48])) = false from rfl]
  simp only [cond_f]
  rw [show (!(gB ex5.cells 0 == gB (mkP false 0 167870464 17).cells 0 && (gI ex5.cells 1 == gI (mkP false 0 167870464 17).cells 1 && (gI ex5.cells 2 == gI (mkP false 0 167870464 17).cells 2 && (gI ex5.cells 3 == gI (mkP false 0 167870464 17).cells 3 && true))))) = false from rfl]
  simp only [cond_f, beq_self_eq_true, Bool.and_self, cond_t]
  rw [show ixB [ex1] 0 = some ex1 from rfl]
  simp only [oB_s, k1, cond_t, beq_self_eq_true, Bool.and_self]
  rw [show (((([ex1] : List AV).length : Int)) == 1) = true from rfl, show ((quz.length : Int) == 16) = true by rw [f1]; rfl]
  simp only [cond_t, i6, i7, oB_s, k6, k7, beq_self_eq_true, Bool.and_self]
end Go.Proofs.Ytmjdngnagiloeaa.Dn
