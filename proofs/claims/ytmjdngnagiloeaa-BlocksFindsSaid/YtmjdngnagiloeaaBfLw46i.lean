/- Tables of blocks: the examples of the chapter; BlocksChecks, BlocksChanges, BlocksFinds. -/
import Derived.Test.YtmjdngnagiloeaaBfLw46h
set_option linter.all false
namespace Go.Proofs.Ytmjdngnagiloeaa.Dn
open Go Go.Pev
set_option linter.unusedVariables false
set_option linter.unusedSimpArgs false
set_option maxRecDepth 4000
def qbll (y : AV) : AV := mkB (gB y.cells 0) (gI y.cells 1) (gI y.cells 2) (gI y.cells 3) (gI y.cells 4) ((gS y.cells 5).take 100) ((gS y.cells 6).take 100) (gI y.cells 7)
theorem qb4w (s : List UInt8) : cutI s none (some (if (100 : Int) < (s.length : Int) then (100 : Int) else (s.length : Int))) = some (s.take 100) := by
  by_cases h : (100 : Int) < (s.length : Int)
  · rw [if_pos h]
    exact qbal s 100 (by omega)
  · rw [if_neg h, qbal s s.length (Nat.le_refl _), List.take_of_length_le (Nat.le_refl _), List.take_of_length_le (by omega)]
theorem qb7f (b0 : Bool) (b1 b2 b3 b4 : Int) (b5 b6 : List UInt8) (b7 : Int) : qqe b0 b1 b2 b3 b4 b5 b6 b7 = some (qbll (mkB b0 b1 b2 b3 b4 b5 b6 b7)) := by
  rw [q5n]; unfold qxm
  rw [qb4w, qb4w]
  rfl
theorem qbxp {y : AV} (hy : qmt y) : qmt (qbll y) := by
  refine ⟨rfl, hy.2.1, hy.2.2.1, ?_, ?_⟩
  · show ((gS y.cells 5).take 100).length ≤ _
    have := hy.2.2.2.1
    simp; omega
  · show ((gS y.cells 6).take 100).length ≤ _
    have := hy.2.2.2.2
    simp; omega
def fewF (l : List AV) : List AV := (l.take 30).map qbll
theorem qb7g {l : List AV} (hl : qbo l) : qbo (fewF l) := ⟨by simp [fewF]; omega, fun y hy => by
  unfold fewF at hy
  obtain ⟨z, hz, rfl⟩ := List.mem_map.1 hy
  exact qbxp (hl.2 z (List.mem_of_mem_take hz))⟩
theorem qb7h (l : List AV) : (fewF l).length ≤ 30 := by simp [fewF]; omega
theorem qb8n (l : List AV) (hl : qbo l) : qt4 l = some (fewF l) := by
  rw [q9p]; unfold q2e
  simp only [hd_nil, List.length_nil, Bool.and_self, cond_t]
  rw [q3p]
  have key := qfw (σ := List AV) (l.take 30) (by simp; omega) (fun n i s => qpy l (fun a0q1 => bif hd a0q1 a0q1.length then some a0q1 else none) n i s) (fun i s nx => qi7 l i s nx (fun a0q1 => bif hd a0q1 a0q1.length then some a0q1 else none)) (fun _ _ _ => rfl)
    (fun i s => s.length ≤ i) (fun r s => some (s ++ r.map qbll)) ?_ ?_ [] FU (by simp) (qhz (by simp; omega))
  · exact key
  · intro s nx _
    unfold qi7
    have : ((decide (((l.take 30).length : Int) < (l.length : Int))) && (decide (((l.take 30).length : Int) < (30 : Int)))) = false := by
      rw [Bool.and_eq_false_iff]
      simp only [List.length_take, decide_eq_false_iff_not]
      omega
    rw [this]
    simp
  · intro i y r s nx g1 g2 g3 g4 h2 h5
    have hi : i < 30 ∧ i < l.length := by simp at g3; omega
    have g2' : l[i]? = some y := by rw [List.getElem?_take, if_pos hi.1] at g2; exact g2
    have hy := hl.2 y (List.mem_of_getElem? g2')
    have h6 : (i : Int) < (l.length : Int) := by omega
    have h7 : (i : Int) < 30 := by omega
    have n1 := h5 (s ++ [qbll y]) (by simp; omega)
    unfold qi7
    simp only [h6, h7, decide_true, Bool.and_self, cond_t, ixB_nat, g2', oB_s, hy.1, g4, qb7f, hd_self, qhh hy.1]
    have e := qhh (qbxp hy).1
    unfold mkB at e
    rw [e, qblf _ (a := s) (by omega), n1]
    simp
theorem qbxq (l : List AV) (hn : l.length ≤ 100000) (hl : ∀ y, y ∈ l → fitC qa y.cells = true) : qha l l = some true := by
  rw [q8c]; unfold q0p
  simp only [bne_self_eq_false, cond_f]
  rw [q0o, qu2 l (by omega) (qod l l (l.length : Int) fun _ => some true) (fun i nx => qgz l l (l.length : Int) i nx fun _ => some true) (fun _ _ => rfl) (fun _ => some true)]
  · intro nx; simp [qgz]
  · intro i y r nx g1 g2 g3 g4 h5
    have hy := hl y (List.mem_of_getElem? g2)
    have h6 : (i : Int) < (l.length : Int) := by omega
    unfold qgz
    simp only [h6, decide_true, cond_t, ixB_nat, g2, oB_s, hy, g4, h5, beq_self_eq_true, Bool.and_self, Bool.not_true, cond_f]
theorem qbyy (l : List AV) (hn : l.length ≤ 1000000) (hl : ∀ y, y ∈ l → fitC qf y.cells = true) : qji l l = some true := by
  rw [q03]; unfold qtd
  simp only [bne_self_eq_false, cond_f]
  rw [quy, qu2 l (by omega) (qj9 l l (l.length : Int) fun _ => some true) (fun i nx => qff l l (l.length : Int) i nx fun _ => some true) (fun _ _ => rfl) (fun _ => some true)]
  · intro nx; simp [qff]
  · intro i y r nx g1 g2 g3 g4 h5
    have hy := hl y (List.mem_of_getElem? g2)
    have h6 : (i : Int) < (l.length : Int) := by omega
    unfold qff
    simp only [h6, decide_true, cond_t, ixB_nat, g2, oB_s, hy, g4, h5, beq_self_eq_true, Bool.and_self, Bool.not_true, cond_f]
theorem qb55 {l : List AV} (hl : qbo l) (hn : l.length ≤ 100000) : qha l l = some true := qbxq l hn fun y hy => (hl.2 y hy).1
def ex0 : AV := mkB false 0 167772160 8 1 [97, 108, 108] [] 0
def ex1 : AV := mkB false 0 167772160 24 2 [110, 101, 116] [] 0
def ex2 : AV := mkB false 0 167772165 32 3 [104, 111, 115, 116] [] 0
def ex3 : AV := mkB false 0 167837696 16 2 [120] [] 0
def ex4 : AV := mkB false 0 167837696 17 2 [120, 45, 48] [] 0
def ex5 : AV := mkB false 0 167870464 17 2 [120, 45, 49] [] 0
def exL : List AV := [ex0, ex1, ex2]
def exX : List AV := [ex0, ex1, ex2, ex3]
def exY : List AV := [ex0, ex1, ex2, ex4, ex5]
theorem qbzb : ∀ y, y ∈ [ex0, ex1, ex2, ex3, ex4, ex5] → qmt y := by
  intro y hy
  simp only [List.mem_cons, List.not_mem_nil, or_false] at hy
  rcases hy with rfl | rfl | rfl | rfl | rfl | rfl <;> refine ⟨rfl, ⟨?_, ?_⟩, ⟨?_, ?_⟩, ?_, ?_⟩ <;> decide +kernel
theorem exLf : qbo exL := ⟨by decide, fun y hy => qbzb y (by simp only [exL, List.mem_cons, List.not_mem_nil, or_false] at hy ⊢; rcases hy with h | h | h <;> simp [h])⟩
theorem exXf : qbo exX := ⟨by decide, fun y hy => qbzb y (by simp only [exX, List.mem_cons, List.not_mem_nil, or_false] at hy ⊢; rcases hy with h | h | h | h <;> simp [h])⟩
theorem exYf : qbo exY := ⟨by decide, fun y hy => qbzb y (by simp only [exY, List.mem_cons, List.not_mem_nil, or_false] at hy ⊢; rcases hy with h | h | h | h | h <;> simp [h])⟩
theorem exLc : qu3 exL = 0 := by decide +kernel
theorem exXc : qu3 exX = 0 := by decide +kernel
theorem exYc : qu3 exY = 0 := by decide +kernel
theorem exLt : qkb exL := (qbam (by decide)).1 exLc
theorem exXt : qkb exX := (qbam (by decide)).1 exXc
theorem exYt : qkb exY := (qbam (by decide)).1 exYc
theorem p_p4 (a b : Int) : qg5 a b = some (mkP false 0 a b) := by rw [qbb7]; rfl
theorem qb8o (a b : Int) : qpo a b = some (mkP false 0 a b) := by rw [qbb5]; rfl
theorem qb4x : qnx = some exL := by
  rw [q1w]; unfold quj
  simp only [qb8o, oB_s]
  rfl
theorem qb74 : qbwj exL false 0 167772160 24 = ([], 25) := by kernel_rfl
theorem qb75 : addF exL ex3 = (exX, 0) := by kernel_rfl
theorem qb56 : qb1a exX ⟨false, 0, 167837696, 16⟩ = (exY, 0) := by kernel_rfl
theorem qb7i : qb3i exY ⟨false, 0, 167837696, 16⟩ = (exX, 0) := by kernel_rfl
theorem qb4y : qpx (fun y => qd2 false 0 167772166 32 (gB y.cells 0) (gI y.cells 1) (gI y.cells 2) (gI y.cells 3)) exL = (ex1, true) := by kernel_rfl
theorem qb4z : qpx (fun y => qnc (gB y.cells 0) (gI y.cells 1) (gI y.cells 2) (gI y.cells 3) false 0 168361984) exL = (ex0, true) := by kernel_rfl
theorem qb7j : qr7 exL false 0 167772160 8 = [ex1] := by kernel_rfl
def q1j : List AV := q68 exL ⟨false, 0, 167772160, 8⟩
theorem qb7k : q1j.length = 16 ∧ q1j[0]? = some (mkP false 0 167772416 24) ∧ q1j[15]? = some (mkP false 0 176160768 9) := ⟨by kernel_rfl, by kernel_rfl, by kernel_rfl⟩
theorem qb2l : qnm = some true := by
  have e1 : qon exL (gB ex1.cells 0) (gI ex1.cells 1) (gI ex1.cells 2) (gI ex1.cells 3) = some ([], 25) := by
    rw [← qb74]; exact qb5u exL exLf (by decide) exLt _ _ _ _
  have e2 : qva exL (gB (mkP false 0 167837696 16).cells 0) (gI (mkP false 0 167837696 16).cells 1) (gI (mkP false 0 167837696 16).cells 2) (gI (mkP false 0 167837696 16).cells 3) 2 [120] [] 0 = some (exX, 0) := by
    rw [← qb75]; exact qb8m exL exLf (by decide) exLt _ _ _ _ _ _ _ _ (qbzb ex3 (by simp))
  have e3 : qqq exX (gB (mkP false 0 167837696 16).cells 0) (gI (mkP false 0 167837696 16).cells 1) (gI (mkP false 0 167837696 16).cells 2) (gI (mkP false 0 167837696 16).cells 3) = some (exY, 0) := by
    rw [← qb56]; exact qb7d exX exXf (by decide) exXt ⟨false, 0, 167837696, 16⟩
  have e4 : qsn exY (gB (mkP false 0 167837696 16).cells 0) (gI (mkP false 0 167837696 16).cells 1) (gI (mkP false 0 167837696 16).cells 2) (gI (mkP false 0 167837696 16).cells 3) = some (exX, 0) := by
    rw [← qb7i]; exact qb73 exY exYf (by decide) exYt ⟨false, 0, 167837696, 16⟩ ⟨by decide, by decide⟩ ⟨by decide, by decide⟩
  have e5 : qmi exL (gB (mkP false 0 167772166 32).cells 0) (gI (mkP false 0 167772166 32).cells 1) (gI (mkP false 0 167772166 32).cells 2) (gI (mkP false 0 167772166 32).cells 3) = some (ex1, true) := by
    rw [← qb4y]; exact qb07 exL exLf _ _ _ _
  have e6 : qmj exL false 0 168361984 = some (ex0, true) := by
    rw [← qb4z]; exact qb08 exL exLf _ _ _
  have e7 : qi2 exL (gB ex0.cells 0) (gI ex0.cells 1) (gI ex0.cells 2) (gI ex0.cells 3) = some [ex1] := by
    rw [← qb7j]; exact qbuj exL exLf (by decide) _ _ _ _
  have e8 : qpq exL (gB ex0.cells 0) (gI ex0.cells 1) (gI ex0.cells 2) (gI ex0.cells 3) = some q1j :=
    qb4v exL exLf (qbf0 exLf exLt) (by decide) ⟨false, 0, 167772160, 8⟩
  have e9 : qnr exL = some 0 := by rw [← exLc]; exact qb00 exL exLf
  have e10 : qha exX exX = some true := qb55 exXf (by decide)
  obtain ⟨f1, f2, f3⟩ := qb7k
  have i0 : ixB exL 0 = some ex0 := rfl
  have i1 : ixB exL 1 = some ex1 := rfl
  have i3 : ixB exX 3 = some ex3 := rfl
  have i4 : ixB exY 3 = some ex4 := rfl
  have i5 : ixB exY 4 = some ex5 := rfl
  have i6 : ixB q1j 0 = some (mkP false 0 167772416 24) := by rw [ixB_zero]; exact f2
  have i7 : ixB q1j 15 = some (mkP false 0 176160768 9) := by
    have : ixB q1j ((15 : Nat) : Int) = q1j[15]? := ixB_nat _ _
    rw [← f3, ← this]; rfl
  have k0 : fitC qa ex0.cells = true := rfl
  have k1 : fitC qa ex1.cells = true := rfl
  have k3 : fitC qa ex3.cells = true := rfl
  have k4 : fitC qa ex4.cells = true := rfl
  have k5 : fitC qa ex5.cells = true := rfl
  have k6 : fitC qf (mkP false 0 167772416 24).cells = true := rfl
  have k7 : fitC qf (mkP false 0 176160768 9).cells = true := rfl
  rw [q6j]; unfold qye
  simp only [qb4x, oB_s, i1, k1, cond_t, e1, p_p4, e2, e3, e4, e5, e6, i0, k0, e7, e8]
  rw [qyz]; unfold qru
  simp only [e9, oB_s, i3, k3, cond_t, i4, k4, i5, k5, p_p4, e10, Bool.not_true]
  rw [show ((0 : Int) != 0) = false from rfl, show ((25 : Int) != 25) = false from rfl, show ((exX.length : Int) != 4) = false from rfl, show ((exY.length : Int) != 5) = false from rfl]
  simp only [cond_f]
  rw [show (!(gS ex3.cells 5 == [120])) = false from rfl, show (!(gS ex4.cells 5 == [120, 45, 48])) = false from rfl]
  simp only [cond_f]
  rw [show (!(gB ex5.cells 0 == gB (mkP false 0 167870464 17).cells 0 && (gI ex5.cells 1 == gI (mkP false 0 167870464 17).cells 1 && (gI ex5.cells 2 == gI (mkP false 0 167870464 17).cells 2 && (gI ex5.cells 3 == gI (mkP false 0 167870464 17).cells 3 && true))))) = false from rfl]
  simp only [cond_f, beq_self_eq_true, Bool.and_self, cond_t]
  rw [show ixB [ex1] 0 = some ex1 from rfl]
  simp only [oB_s, k1, cond_t, beq_self_eq_true, Bool.and_self]
  rw [show (((([ex1] : List AV).length : Int)) == 1) = true from rfl, show ((q1j.length : Int) == 16) = true by rw [f1]; rfl]
  simp only [cond_t, i6, i7, oB_s, k6, k7, beq_self_eq_true, Bool.and_self]
theorem law46F (l : List AV) (hl : qbo l) (v : Bool) (hi lo bits : Int) (u1 : uok hi) (u2 : uok lo) (w : Bool) (ahi alo : Int) (u3 : uok ahi) (u4 : uok alo) : qgq l v hi lo bits w ahi alo = some true := by
  rw [qvo]; unfold qpr
  have hf := qb7g hl
  have hn := qb7h l
  simp only [qb8n l hl, oB_s, qb4o _ hf]
  by_cases hc : qu3 (fewF l) = 0
  · have ht := (qbam (by omega)).1 hc
    have hg := qbf0 hf ht
    have g1 := qb4v (fewF l) hf hg (by omega) ⟨v, hi, lo, bits⟩
    have g2 := qb7c (fewF l) hf hg (by omega) ⟨v, hi, lo, bits⟩
    have s1 : qha (qr7 (fewF l) v hi lo bits) (qr7 (fewF l) v hi lo bits) = some true :=
      qbxq _ (Nat.le_trans (List.length_filter_le _ _) (by omega)) (fun y hy => (hf.2 y (List.mem_filter.1 hy).1).1)
    have s2 : qji (q68 (fewF l) ⟨v, hi, lo, bits⟩) (q68 (fewF l) ⟨v, hi, lo, bits⟩) = some true := by
      refine qbyy _ ?_ ?_
      · unfold q68
        split
        · rename_i y hy
          obtain ⟨hp, _⟩ := qban hg hy
          cases gI y.cells 4 == 1 with
          | false => simp
          | true =>
            have := qbre (l := qr8 (fewF l) ⟨v, hi, lo, bits⟩) (fun y hy => hg y (List.mem_filter.1 hy).1) (Nat.le_trans (List.length_filter_le _ _) (by omega)) (n := (Pq.np ⟨v, hi, lo, bits⟩).k + 1) (by have := hp.range.2.2.2; omega) hp
            simp only [cond_t, List.length_map]
            omega
        · simp
      · intro y hy
        unfold q68 at hy
        split at hy
        · rename_i z hz
          cases hk : gI z.cells 4 == 1 with
          | false => rw [hk] at hy; simp at hy
          | true =>
            rw [hk] at hy
            simp only [cond_t] at hy
            obtain ⟨q, _, rfl⟩ := List.mem_map.1 hy
            rfl
        · simp at hy
    rw [hc]
    simp only [bne_self_eq_false, cond_f, qbwg _ hf, qb2e _ hf, qb07 _ hf, qb4s _ hf _ _ _ _ u1 u2, qb08 _ hf, qb4t _ hf _ _ _ u3 u4, oB_s, beq_self_eq_true, Bool.and_self, cond_t, qbuj _ hf (show (fewF l).length ≤ 100000 by omega), qboz _ hf (show (fewF l).length ≤ 100000 by omega), s1, g1, g2, s2, qb2l]
  · have hc2 : (qu3 (fewF l) != 0) = true := by simpa using hc
    simp only [hc2, cond_t, qsl, qm8, qb00 _ hf, oB_s, qb2l]
end Go.Proofs.Ytmjdngnagiloeaa.Dn
