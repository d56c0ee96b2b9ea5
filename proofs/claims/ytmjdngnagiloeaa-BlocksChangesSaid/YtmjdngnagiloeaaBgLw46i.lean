/- Tables of blocks: the examples of the chapter; BlocksChecks, BlocksChanges, BlocksFinds. -/
import Derived.Test.YtmjdngnagiloeaaBgLw46h
set_option linter.all false
namespace Go.Proofs.Ytmjdngnagiloeaa.Dn
open Go Go.Pev
set_option linter.unusedVariables false
set_option linter.unusedSimpArgs false
set_option maxRecDepth 4000
def qi2 (y : AV) : AV := mkB (gB y.cells 0) (gI y.cells 1) (gI y.cells 2) (gI y.cells 3) (gI y.cells 4) ((gS y.cells 5).take 100) ((gS y.cells 6).take 100) (gI y.cells 7)
theorem qbuk (s : List UInt8) : cutI s none (some (if (100 : Int) < (s.length : Int) then (100 : Int) else (s.length : Int))) = some (s.take 100) := by
  by_cases h : (100 : Int) < (s.length : Int)
  · rw [if_pos h]
    exact q46 s 100 (by omega)
  · rw [if_neg h, q46 s s.length (Nat.le_refl _), List.take_of_length_le (Nat.le_refl _), List.take_of_length_le (by omega)]
theorem qb7i (b0 : Bool) (b1 b2 b3 b4 : Int) (b5 b6 : List UInt8) (b7 : Int) : qp4 b0 b1 b2 b3 b4 b5 b6 b7 = some (qi2 (mkB b0 b1 b2 b3 b4 b5 b6 b7)) := by
  rw [q5w]; unfold qw2
  rw [qbuk, qbuk]
  rfl
theorem qb8p (b0 : Bool) (b1 b2 b3 b4 : Int) (b5 b6 : List UInt8) (b7 : Int) : quj b0 b1 b2 b3 b4 b5 b6 b7 = some (qi2 (mkB b0 b1 b2 b3 b4 b5 b6 b7)) := by
  rw [q93]; unfold q2u
  rw [qbuk, qbuk]
  rfl
theorem qblf {y : AV} (hy : qgn y) : qgn (qi2 y) := by
  refine ⟨rfl, hy.2.1, hy.2.2.1, ?_, ?_⟩
  · show ((gS y.cells 5).take 100).length ≤ _
    have := hy.2.2.2.1
    simp; omega
  · show ((gS y.cells 6).take 100).length ≤ _
    have := hy.2.2.2.2
    simp; omega
def fewF (l : List AV) : List AV := (l.take 30).map qi2
theorem qb7j {l : List AV} (hl : qbn l) : qbn (fewF l) := ⟨by simp [fewF]; omega, fun y hy => by
  unfold fewF at hy
  obtain ⟨z, hz, rfl⟩ := List.mem_map.1 hy
  exact qblf (hl.2 z (List.mem_of_mem_take hz))⟩
theorem qb7k (l : List AV) : (fewF l).length ≤ 30 := by simp [fewF]; omega
theorem qb8q (l : List AV) (hl : qbn l) : qtv l = some (fewF l) := by
  rw [q9o]; unfold q16
  simp only [hd_nil, List.length_nil, Bool.and_self, cond_t]
  rw [q3s]
  have key := qhg (σ := List AV) (l.take 30) (by simp; omega) (fun n i s => qpm l (fun a0q1 => bif hd a0q1 a0q1.length then some a0q1 else none) n i s) (fun i s nx => qi3 l i s nx (fun a0q1 => bif hd a0q1 a0q1.length then some a0q1 else none)) (fun _ _ _ => rfl)
    (fun i s => s.length ≤ i) (fun r s => some (s ++ r.map qi2)) ?_ ?_ [] FU (by simp) (qln (by simp; omega))
  · exact key
  · intro s nx _
    unfold qi3
    have : ((decide (((l.take 30).length : Int) < (l.length : Int))) && (decide (((l.take 30).length : Int) < (30 : Int)))) = false := by
      rw [Bool.and_eq_false_iff]
      simp only [List.length_take, decide_eq_false_iff_not]
      omega
    rw [this]
    simp
  · intro i y r s nx g1 g2 g3 g4 h2 h5
    have hi : i < 30 ∧ i < l.length := by simp at g3; omega
    have g2' : l[i]? = some y := by rw [List.getElem?_take, if_pos hi.1] at g2; exact g2
    have hy := hl.2 y (List.mem_of_getElem? g2')
    have h6 : (i : Int) < (l.length : Int) := by omega
    have h7 : (i : Int) < 30 := by omega
    have n1 := h5 (s ++ [qi2 y]) (by simp; omega)
    unfold qi3
    simp only [h6, h7, decide_true, Bool.and_self, cond_t, ixB_nat, g2', oB_s, hy.1, g4, qb7i, hd_self, qf4 hy.1]
    have e := qf4 (qblf hy).1
    unfold mkB at e
    rw [e, q48 _ (a := s) (by omega), n1]
    simp
theorem qbxu (l : List AV) (hn : l.length ≤ 100000) (hl : ∀ y, y ∈ l → fitC qb y.cells = true) : qdf l l = some true := by
  rw [q8g]; unfold qz7
  simp only [bne_self_eq_false, cond_f]
  rw [qz6, qqv l (by omega) (qn3 l l (l.length : Int) fun _ => some true) (fun i nx => qgw l l (l.length : Int) i nx fun _ => some true) (fun _ _ => rfl) (fun _ => some true)]
  · intro nx; simp [qgw]
  · intro i y r nx g1 g2 g3 g4 h5
    have hy := hl y (List.mem_of_getElem? g2)
    have h6 : (i : Int) < (l.length : Int) := by omega
    unfold qgw
    simp only [h6, decide_true, cond_t, ixB_nat, g2, oB_s, hy, g4, h5, beq_self_eq_true, Bool.and_self, Bool.not_true, cond_f]
theorem q9c {l : List AV} (hl : qbn l) (hn : l.length ≤ 100000) : qdf l l = some true := qbxu l hn fun y hy => (hl.2 y hy).1
def ex0 : AV := mkB false 0 167772160 8 1 [97, 108, 108] [] 0
def ex1 : AV := mkB false 0 167772160 24 2 [110, 101, 116] [] 0
def ex2 : AV := mkB false 0 167772165 32 3 [104, 111, 115, 116] [] 0
def ex3 : AV := mkB false 0 167837696 16 2 [120] [] 0
def ex4 : AV := mkB false 0 167837696 17 2 [120, 45, 48] [] 0
def ex5 : AV := mkB false 0 167870464 17 2 [120, 45, 49] [] 0
def exL : List AV := [ex0, ex1, ex2]
def exX : List AV := [ex0, ex1, ex2, ex3]
def exY : List AV := [ex0, ex1, ex2, ex4, ex5]
theorem qbzc : ∀ y, y ∈ [ex0, ex1, ex2, ex3, ex4, ex5] → qgn y := by
  intro y hy
  simp only [List.mem_cons, List.not_mem_nil, or_false] at hy
  rcases hy with rfl | rfl | rfl | rfl | rfl | rfl <;> refine ⟨rfl, ⟨?_, ?_⟩, ⟨?_, ?_⟩, ?_, ?_⟩ <;> decide +kernel
theorem exLf : qbn exL := ⟨by decide, fun y hy => qbzc y (by simp only [exL, List.mem_cons, List.not_mem_nil, or_false] at hy ⊢; rcases hy with h | h | h <;> simp [h])⟩
theorem exXf : qbn exX := ⟨by decide, fun y hy => qbzc y (by simp only [exX, List.mem_cons, List.not_mem_nil, or_false] at hy ⊢; rcases hy with h | h | h | h <;> simp [h])⟩
theorem exYf : qbn exY := ⟨by decide, fun y hy => qbzc y (by simp only [exY, List.mem_cons, List.not_mem_nil, or_false] at hy ⊢; rcases hy with h | h | h | h | h <;> simp [h])⟩
theorem exLc : quw exL = 0 := by decide +kernel
theorem exXc : quw exX = 0 := by decide +kernel
theorem exYc : quw exY = 0 := by decide +kernel
theorem exLt : qi1 exL := (qbal (by decide)).1 exLc
theorem exXt : qi1 exX := (qbal (by decide)).1 exXc
theorem exYt : qi1 exY := (qbal (by decide)).1 exYc
theorem p_p4 (a b : Int) : qg4 a b = some (mkP false 0 a b) := by rw [qbbz]; rfl
theorem qb8r (a b : Int) : qo9 a b = some (mkP false 0 a b) := by rw [qbbx]; rfl
theorem qb4w : qnn = some exL := by
  rw [q1j]; unfold qt9
  simp only [qb8r, oB_s]
  rfl
theorem qb77 : qyx exL false 0 167772160 24 = ([], 25) := by kernel_rfl
theorem qb78 : addF exL ex3 = (exX, 0) := by kernel_rfl
theorem qb56 : q49 exX ⟨false, 0, 167837696, 16⟩ = (exY, 0) := by kernel_rfl
theorem qb7l : qbao exY ⟨false, 0, 167837696, 16⟩ = (exX, 0) := by kernel_rfl
theorem qb4x : q3g (fun y => qgk false 0 167772166 32 (gB y.cells 0) (gI y.cells 1) (gI y.cells 2) (gI y.cells 3)) exL = (ex1, true) := by kernel_rfl
theorem qb4y : q3g (fun y => qtk (gB y.cells 0) (gI y.cells 1) (gI y.cells 2) (gI y.cells 3) false 0 168361984) exL = (ex0, true) := by kernel_rfl
theorem qb7m : qb6l exL false 0 167772160 8 = [ex1] := by kernel_rfl
def q05 : List AV := qb3g exL ⟨false, 0, 167772160, 8⟩
theorem qb7n : q05.length = 16 ∧ q05[0]? = some (mkP false 0 167772416 24) ∧ q05[15]? = some (mkP false 0 176160768 9) := ⟨by kernel_rfl, by kernel_rfl, by kernel_rfl⟩
theorem qb2n : qnc = some true := by
  have e1 : ql9 exL (gB ex1.cells 0) (gI ex1.cells 1) (gI ex1.cells 2) (gI ex1.cells 3) = some ([], 25) := by
    rw [← qb77]; exact qb05 exL exLf (by decide) exLt _ _ _ _
  have e2 : qrb exL (gB (mkP false 0 167837696 16).cells 0) (gI (mkP false 0 167837696 16).cells 1) (gI (mkP false 0 167837696 16).cells 2) (gI (mkP false 0 167837696 16).cells 3) 2 [120] [] 0 = some (exX, 0) := by
    rw [← qb78]; exact qb6k exL exLf (by decide) exLt _ _ _ _ _ _ _ _ (qbzc ex3 (by simp))
  have e3 : qno exX (gB (mkP false 0 167837696 16).cells 0) (gI (mkP false 0 167837696 16).cells 1) (gI (mkP false 0 167837696 16).cells 2) (gI (mkP false 0 167837696 16).cells 3) = some (exY, 0) := by
    rw [← qb56]; exact qb2m exX exXf (by decide) exXt ⟨false, 0, 167837696, 16⟩
  have e4 : qpc exY (gB (mkP false 0 167837696 16).cells 0) (gI (mkP false 0 167837696 16).cells 1) (gI (mkP false 0 167837696 16).cells 2) (gI (mkP false 0 167837696 16).cells 3) = some (exX, 0) := by
    rw [← qb7l]; exact qb4v exY exYf (by decide) exYt ⟨false, 0, 167837696, 16⟩ ⟨by decide, by decide⟩ ⟨by decide, by decide⟩
  have e5 : qoc exL (gB (mkP false 0 167772166 32).cells 0) (gI (mkP false 0 167772166 32).cells 1) (gI (mkP false 0 167772166 32).cells 2) (gI (mkP false 0 167772166 32).cells 3) = some (ex1, true) := by
    rw [← qb4x]; exact qb50 exL exLf _ _ _ _
  have e6 : qod exL false 0 168361984 = some (ex0, true) := by
    rw [← qb4y]; exact qb51 exL exLf _ _ _
  have e7 : qlw exL (gB ex0.cells 0) (gI ex0.cells 1) (gI ex0.cells 2) (gI ex0.cells 3) = some [ex1] := by
    rw [← qb7m]; exact qb3e exL exLf (by decide) _ _ _ _
  have e8 : qsb exL (gB ex0.cells 0) (gI ex0.cells 1) (gI ex0.cells 2) (gI ex0.cells 3) = some q05 :=
    qb75 exL exLf (q7e exLf exLt) (by decide) ⟨false, 0, 167772160, 8⟩
  have e9 : qnh exL = some 0 := by rw [← exLc]; exact qb01 exL exLf
  have e10 : qdf exX exX = some true := q9c exXf (by decide)
  obtain ⟨f1, f2, f3⟩ := qb7n
  have i0 : ixB exL 0 = some ex0 := rfl
  have i1 : ixB exL 1 = some ex1 := rfl
  have i3 : ixB exX 3 = some ex3 := rfl
  have i4 : ixB exY 3 = some ex4 := rfl
  have i5 : ixB exY 4 = some ex5 := rfl
  have i6 : ixB q05 0 = some (mkP false 0 167772416 24) := by rw [ixB_zero]; exact f2
  have i7 : ixB q05 15 = some (mkP false 0 176160768 9) := by
    have : ixB q05 ((15 : Nat) : Int) = q05[15]? := ixB_nat _ _
    rw [← f3, ← this]; rfl
  have k0 : fitC qb ex0.cells = true := rfl
  have k1 : fitC qb ex1.cells = true := rfl
  have k3 : fitC qb ex3.cells = true := rfl
  have k4 : fitC qb ex4.cells = true := rfl
  have k5 : fitC qb ex5.cells = true := rfl
  have k6 : fitC qf (mkP false 0 167772416 24).cells = true := rfl
  have k7 : fitC qf (mkP false 0 176160768 9).cells = true := rfl
  rw [q6t]; unfold qxw
  simp only [qb4w, oB_s, i1, k1, cond_t, e1, p_p4, e2, e3, e4, e5, e6, i0, k0, e7, e8]
  rw [qym]; unfold qrj
  simp only [e9, oB_s, i3, k3, cond_t, i4, k4, i5, k5, p_p4, e10, Bool.not_true]
  rw [show ((0 : Int) != 0) = false from rfl, show ((25 : Int) != 25) = false from rfl, show ((exX.length : Int) != 4) = false from rfl, show ((exY.length : Int) != 5) = false from rfl]
  simp only [cond_f]
  rw [show (!(gS ex3.cells 5 == [120])) = false from rfl, show (!(gS ex4.cells 5 == [120, 45, 48])) = false from rfl]
  simp only [cond_f]
  rw [show (!(gB ex5.cells 0 == gB (mkP false 0 167870464 17).cells 0 && (gI ex5.cells 1 == gI (mkP false 0 167870464 17).cells 1 && (gI ex5.cells 2 == gI (mkP false 0 167870464 17).cells 2 && (gI ex5.cells 3 == gI (mkP false 0 167870464 17).cells 3 && true))))) = false from rfl]
  simp only [cond_f, beq_self_eq_true, Bool.and_self, cond_t]
  rw [show ixB [ex1] 0 = some ex1 from rfl]
  simp only [oB_s, k1, cond_t, beq_self_eq_true, Bool.and_self]
  rw [show (((([ex1] : List AV).length : Int)) == 1) = true from rfl, show ((q05.length : Int) == 16) = true by rw [f1]; rfl]
  simp only [cond_t, i6, i7, oB_s, k6, k7, beq_self_eq_true, Bool.and_self]
theorem law46G (l : List AV) (hl : qbn l) (b0 : Bool) (b1 b2 b3 b4 : Int) (b5 b6 : List UInt8) (b7 : Int) (hb : qgn (mkB b0 b1 b2 b3 b4 b5 b6 b7)) (v : Bool) (hi lo bits : Int) (u1 : uok hi) (u2 : uok lo) : qfe l b0 b1 b2 b3 b4 b5 b6 b7 v hi lo bits = some true := by
  rw [qtj]; unfold qnw
  have hf := qb7j hl
  have hn := qb7k l
  simp only [qb8q l hl, oB_s, qb8p, qb4n _ hf]
  by_cases hc : quw (fewF l) = 0
  · have ht := (qbal (by omega)).1 hc
    have hsb := qblf hb
    have e1 := qb6k (fewF l) hf (by omega) ht _ _ _ _ _ _ _ _ (by rw [qf4 hsb.1]; exact hsb)
    have e2 := qb5t (fewF l) hf (by omega) _ _ _ _ _ _ _ _ (by rw [qf4 hsb.1]; exact hsb)
    have e3 := qb05 (fewF l) hf (by omega) ht v hi lo bits
    have e4 := qb4r (fewF l) hf (by omega) v hi lo bits
    have e5 := qb2m (fewF l) hf (by omega) ht ⟨v, hi, lo, bits⟩
    have e6 := qb54 (fewF l) hf (by omega) ht ⟨v, hi, lo, bits⟩
    have e7 := qb4v (fewF l) hf (by omega) ht ⟨v, hi, lo, bits⟩ u1 u2
    have e8 := qb7h (fewF l) hf (by omega) ⟨v, hi, lo, bits⟩ u1 u2
    rw [hc]
    simp only [bne_self_eq_false, cond_f, e1, e2, e3, e4, oB_s]
    rw [qf4 hsb.1]
    have s0 : qdf [] [] = some true := qbxu [] (by simp) (fun y hy => by simp at hy)
    have s1 : qdf (addF (fewF l) (qi2 (mkB b0 b1 b2 b3 b4 b5 b6 b7))).1 (addF (fewF l) (qi2 (mkB b0 b1 b2 b3 b4 b5 b6 b7))).1 = some true := by
      unfold addF
      have hi := q3h hf (by omega) hsb
      have := q9c hi (by rw [qry]; omega)
      cases qp3 (qi2 (mkB b0 b1 b2 b3 b4 b5 b6 b7)) <;> simp only [Bool.not_true, Bool.not_false, cond_t, cond_f, s0]
      cases mayB (qi2 (mkB b0 b1 b2 b3 b4 b5 b6 b7)) <;> simp only [Bool.not_true, Bool.not_false, cond_t, cond_f, s0]
      cases (fewF l).any (atP (gB (qi2 (mkB b0 b1 b2 b3 b4 b5 b6 b7)).cells 0) (gI (qi2 (mkB b0 b1 b2 b3 b4 b5 b6 b7)).cells 1) (gI (qi2 (mkB b0 b1 b2 b3 b4 b5 b6 b7)).cells 2) (gI (qi2 (mkB b0 b1 b2 b3 b4 b5 b6 b7)).cells 3)) <;> simp only [cond_t, cond_f, s0]
      cases ((fewF l).any (qc1 (qi2 (mkB b0 b1 b2 b3 b4 b5 b6 b7))) || occF (fewF l) (gB (qi2 (mkB b0 b1 b2 b3 b4 b5 b6 b7)).cells 0) (gI (qi2 (mkB b0 b1 b2 b3 b4 b5 b6 b7)).cells 1) (gI (qi2 (mkB b0 b1 b2 b3 b4 b5 b6 b7)).cells 2) (gI (qi2 (mkB b0 b1 b2 b3 b4 b5 b6 b7)).cells 3)) <;> simp only [cond_t, cond_f, s0]
      cases decide (((fewF l).length : Int) ≥ 512) <;> simp only [cond_t, cond_f, s0, this]
    have s2 : qdf (qyx (fewF l) v hi lo bits).1 (qyx (fewF l) v hi lo bits).1 = some true := by
      unfold qyx
      have := q9c (qpi hf v hi lo bits) (by have := qpj (fewF l) v hi lo bits; omega)
      cases (fewF l).any (atP v hi lo bits) <;> simp only [Bool.not_true, Bool.not_false, cond_t, cond_f, s0]
      cases occF (fewF l) v hi lo bits <;> simp only [cond_t, cond_f, s0, this]
    have s3 : qdf (q49 (fewF l) ⟨v, hi, lo, bits⟩).1 (q49 (fewF l) ⟨v, hi, lo, bits⟩).1 = some true := by
      unfold q49
      split
      · exact s0
      · rename_i y hy
        obtain ⟨hp, _⟩ := qbam (q7e hf ht) (p := ⟨v, hi, lo, bits⟩) hy
        have hyf := hf.2 y (List.mem_of_find?_eq_some hy)
        have l0 := qpj (fewF l) v hi lo bits
        cases hh : Pq.half ⟨v, hi, lo, bits⟩ <;> simp only [Bool.not_true, Bool.not_false, cond_t, cond_f, s0]
        cases occF (fewF l) v hi lo bits <;> simp only [cond_t, cond_f, s0]
        by_cases h61 : ((gS y.cells 5).length : Int) > 61
        · simp only [h61, decide_true, cond_t, s0]
        · simp only [h61, decide_false, cond_f]
          cases decide (((fewF l).length : Int) ≥ 512) <;> simp only [cond_t, cond_f, s0]
          have hlow : qgn (q04 y (Pq.low ⟨v, hi, lo, bits⟩) (gS y.cells 5 ++ [45, 48])) := q9b hyf u1 u2 (by simp; omega)
          have hhg := Pq.high_good hp hh
          have hhigh : qgn (q04 y (Pq.high ⟨v, hi, lo, bits⟩) (gS y.cells 5 ++ [45, 49])) := q9b hyf hhg.2.1 hhg.2.2 (by simp; omega)
          have f1 := q3h (qpi hf v hi lo bits) (by omega) hlow
          have f2 := q3h f1 (by rw [qry]; omega) hhigh
          exact q9c f2 (by rw [qry, qry]; omega)
    have s4 : qdf (qbao (fewF l) ⟨v, hi, lo, bits⟩).1 (qbao (fewF l) ⟨v, hi, lo, bits⟩).1 = some true := by
      unfold qbao
      cases hh : Pq.half ⟨v, hi, lo, bits⟩ <;> simp only [Bool.not_true, Bool.not_false, cond_t, cond_f, s0]
      split
      · rename_i a b ha hb'
        have haf := hf.2 a (List.mem_of_find?_eq_some ha)
        cases (fewF l).any (atP v hi lo bits) <;> simp only [cond_t, cond_f, s0]
        cases qblt a b <;> simp only [cond_t, cond_f, s0]
        have f0 := qpi hf (Pq.low ⟨v, hi, lo, bits⟩).v (Pq.low ⟨v, hi, lo, bits⟩).hi (Pq.low ⟨v, hi, lo, bits⟩).lo (Pq.low ⟨v, hi, lo, bits⟩).bits
        have l0 := qpj (fewF l) (Pq.low ⟨v, hi, lo, bits⟩).v (Pq.low ⟨v, hi, lo, bits⟩).hi (Pq.low ⟨v, hi, lo, bits⟩).lo (Pq.low ⟨v, hi, lo, bits⟩).bits
        have f1 := qpi f0 (Pq.high ⟨v, hi, lo, bits⟩).v (Pq.high ⟨v, hi, lo, bits⟩).hi (Pq.high ⟨v, hi, lo, bits⟩).lo (Pq.high ⟨v, hi, lo, bits⟩).bits
        have l1 := qpj (remF (fewF l) (Pq.low ⟨v, hi, lo, bits⟩).v (Pq.low ⟨v, hi, lo, bits⟩).hi (Pq.low ⟨v, hi, lo, bits⟩).lo (Pq.low ⟨v, hi, lo, bits⟩).bits) (Pq.high ⟨v, hi, lo, bits⟩).v (Pq.high ⟨v, hi, lo, bits⟩).hi (Pq.high ⟨v, hi, lo, bits⟩).lo (Pq.high ⟨v, hi, lo, bits⟩).bits
        have hj : qgn (q04 a ⟨v, hi, lo, bits⟩ (qban (gS a.cells 5))) := q9b haf u1 u2 (Nat.le_trans (qb4u _) haf.2.2.2.1)
        exact q9c (q3h f1 (by omega) hj) (by rw [qry]; omega)
      · exact s0
    rw [qpl]; unfold qkr
    simp only [s1, s2, oB_s, Bool.not_true, bne_self_eq_false, Bool.or_self, cond_f, e5, e6, e7, e8, s3, s4, beq_self_eq_true, Bool.and_self, cond_t, qb2n]
  · have hc2 : (quw (fewF l) != 0) = true := by simpa using hc
    simp only [hc2, cond_t, qqn, qlk, qb01 _ hf, oB_s, qb2n]
end Go.Proofs.Ytmjdngnagiloeaa.Dn
