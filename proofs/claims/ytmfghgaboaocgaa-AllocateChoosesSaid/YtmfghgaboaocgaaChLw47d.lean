/- Choosing a free prefix; AllocateChooses. -/
import Derived.Test.YtmfghgaboaocgaaChLw46w
set_option linter.all false
namespace Go.Proofs.Ytmfghgaboaocgaa.Dn
open Go Go.Pev
set_option linter.unusedVariables false
set_option linter.unusedSimpArgs false
set_option maxRecDepth 4000
theorem qbmy (q : Pq) : fitC qc q.av.cells = true := rfl
theorem av_w (q : Pq) : gB q.av.cells 0 = q.v ∧ gI q.av.cells 1 = q.hi ∧ gI q.av.cells 2 = q.lo ∧ gI q.av.cells 3 = q.bits := ⟨rfl, rfl, rfl, rfl⟩
def betQ (better : Int → Int → Bool) (b : Option Pq) (x : Pq) : Bool := match b with
  | none => true
  | some q => better x.bits q.bits
def qey (better : Int → Int → Bool) (bits : Int) : Option Pq → List Pq → Option Pq
  | b, [] => b
  | b, x :: r => qey better bits (bif decide (x.bits ≤ bits) && betQ better b x then some x else b) r
theorem qsn (better : Int → Int → Bool) (bits : Int) (b : Option Pq) (x : Pq) (r : List Pq) : qey better bits b (x :: r) = qey better bits (bif decide (x.bits ≤ bits) && betQ better b x then some x else b) r := rfl
def pq0 : Pq := ⟨false, 0, 0, 0⟩
def outQ : Option Pq → AV × Bool
  | some q => (q.av, true)
  | none => (qo1, false)
theorem qbaw {better : Int → Int → Bool} {bits : Int} {q : Pq} : ∀ {F : List Pq} {b : Option Pq}, qey better bits b F = some q → (b = some q ∨ (q ∈ F ∧ q.bits ≤ bits))
  | [], b, h => .inl h
  | x :: r, b, h => by
    rw [qsn] at h
    rcases qbaw h with h1 | ⟨h1, h2⟩
    · cases hc : decide (x.bits ≤ bits) && betQ better b x with
      | true =>
        rw [hc] at h1
        simp only [cond_t] at h1
        cases h1
        rw [Bool.and_eq_true, decide_eq_true_eq] at hc
        exact .inr ⟨by simp, hc.1⟩
      | false => rw [hc] at h1; exact .inl h1
    · exact .inr ⟨List.mem_cons_of_mem _ h1, h2⟩
theorem q9l (F : List Pq) (hF : F.length ≤ 1000000000) (bits : Int) : qdp (F.map Pq.av) bits = some (outQ (qey (fun _ _ => false) bits none F)) := by
  rw [qlw]; unfold qg5
  rw [qj7]
  have hlen : (F.map Pq.av).length = F.length := List.length_map _
  have key := qg7 (σ := Bool × Pq) F (by omega) (fun n i s => qd1 bits (F.map Pq.av) ((F.map Pq.av).length : Int) false 0 0 0 (fun v b0 b1 b2 b3 => some ((.agg [(.bool b0), (.int .u64 b1), (.int .u64 b2), (.int .i64 b3)]), v)) n s.1 i s.2.v s.2.hi s.2.lo s.2.bits)
    (fun i s nx => qck bits s.1 (F.map Pq.av) ((F.map Pq.av).length : Int) i false 0 0 0 s.2.v s.2.hi s.2.lo s.2.bits (fun e i v hi lo b => nx i (e, ⟨v, hi, lo, b⟩)) (fun v b0 b1 b2 b3 => some ((.agg [(.bool b0), (.int .u64 b1), (.int .u64 b2), (.int .i64 b3)]), v))) (fun _ _ _ => rfl)
    (fun _ s => s.1 = false → s.2 = pq0) (fun r s => some (outQ (qey (fun _ _ => false) bits (bif s.1 then some s.2 else none) r))) ?_ ?_ (false, pq0) FU (fun _ => rfl) (qkg (by omega))
  · exact key
  · rintro ⟨e, q⟩ nx h
    rw [← hlen]
    unfold qck
    simp only [Int.lt_irrefl, decide_false, cond_f]
    cases e with
    | false => rw [show q = pq0 from h rfl]; rfl
    | true => rfl
  · rintro i x r ⟨e, q⟩ nx g1 g2 g3 g4 h h5
    have ga : (F.map Pq.av)[i]? = some x.av := by rw [List.getElem?_map, g2]; rfl
    have h6 : (i : Int) < ((F.map Pq.av).length : Int) := by omega
    obtain ⟨w0, w1, w2, w3⟩ := av_w x
    unfold qck
    simp only [h6, decide_true, cond_t, ixB_nat, ga, oB_s, qbmy, w0, w1, w2, w3, g4]
    rw [qjk]; unfold qf2
    rw [q08]; unfold qs9
    rw [qsn]
    cases hb : decide (x.bits ≤ bits) with
    | false => simp only [cond_f, Bool.false_and]; exact h5 (e, q) h
    | true =>
      cases e with
      | false => simp only [Bool.not_false, cond_t, cond_f, Bool.true_and, betQ]; exact h5 (true, x) (fun h => by cases h)
      | true =>
        simp only [Bool.not_true, cond_t, cond_f, Bool.true_and, betQ, oB_s]
        exact h5 (true, q) (fun h => by cases h)
theorem q9m (F : List Pq) (hF : F.length ≤ 1000000000) (bits : Int) : qdo (F.map Pq.av) bits = some (outQ (qey (fun a b => decide (a > b)) bits none F)) := by
  rw [qlv]; unfold qg3
  rw [qj5]
  have hlen : (F.map Pq.av).length = F.length := List.length_map _
  have key := qg7 (σ := Bool × Pq) F (by omega) (fun n i s => qd0 bits (F.map Pq.av) ((F.map Pq.av).length : Int) false 0 0 0 (fun v b0 b1 b2 b3 => some ((.agg [(.bool b0), (.int .u64 b1), (.int .u64 b2), (.int .i64 b3)]), v)) n s.1 i s.2.v s.2.hi s.2.lo s.2.bits)
    (fun i s nx => qci bits s.1 (F.map Pq.av) ((F.map Pq.av).length : Int) i false 0 0 0 s.2.v s.2.hi s.2.lo s.2.bits (fun e i v hi lo b => nx i (e, ⟨v, hi, lo, b⟩)) (fun v b0 b1 b2 b3 => some ((.agg [(.bool b0), (.int .u64 b1), (.int .u64 b2), (.int .i64 b3)]), v))) (fun _ _ _ => rfl)
    (fun _ s => s.1 = false → s.2 = pq0) (fun r s => some (outQ (qey (fun a b => decide (a > b)) bits (bif s.1 then some s.2 else none) r))) ?_ ?_ (false, pq0) FU (fun _ => rfl) (qkg (by omega))
  · exact key
  · rintro ⟨e, q⟩ nx h
    rw [← hlen]
    unfold qci
    simp only [Int.lt_irrefl, decide_false, cond_f]
    cases e with
    | false => rw [show q = pq0 from h rfl]; rfl
    | true => rfl
  · rintro i x r ⟨e, q⟩ nx g1 g2 g3 g4 h h5
    have ga : (F.map Pq.av)[i]? = some x.av := by rw [List.getElem?_map, g2]; rfl
    have h6 : (i : Int) < ((F.map Pq.av).length : Int) := by omega
    obtain ⟨w0, w1, w2, w3⟩ := av_w x
    unfold qci
    simp only [h6, decide_true, cond_t, ixB_nat, ga, oB_s, qbmy, w0, w1, w2, w3, g4]
    rw [qji]; unfold qfz
    rw [q07]; unfold qs4
    rw [qsn]
    cases hb : decide (x.bits ≤ bits) with
    | false => simp only [cond_f, Bool.false_and]; exact h5 (e, q) h
    | true =>
      cases e with
      | false => simp only [Bool.not_false, cond_t, cond_f, Bool.true_and, betQ]; exact h5 (true, x) (fun h => by cases h)
      | true =>
        simp only [Bool.not_true, cond_t, cond_f, Bool.true_and, betQ, oB_s]
        by_cases hc : x.bits > q.bits
        · simp only [hc, decide_true, cond_t]; exact h5 (true, x) (fun h => by cases h)
        · simp only [hc, decide_false, cond_f]; exact h5 (true, q) (fun h => by cases h)
theorem q9n (F : List Pq) (hF : F.length ≤ 1000000000) (bits : Int) : qdn (F.map Pq.av) bits = some (outQ (qey (fun a b => decide (a < b)) bits none F)) := by
  rw [qlu]; unfold qg1
  rw [qj3]
  have hlen : (F.map Pq.av).length = F.length := List.length_map _
  have key := qg7 (σ := Bool × Pq) F (by omega) (fun n i s => qdz bits (F.map Pq.av) ((F.map Pq.av).length : Int) false 0 0 0 (fun v b0 b1 b2 b3 => some ((.agg [(.bool b0), (.int .u64 b1), (.int .u64 b2), (.int .i64 b3)]), v)) n s.1 i s.2.v s.2.hi s.2.lo s.2.bits)
    (fun i s nx => qcg bits s.1 (F.map Pq.av) ((F.map Pq.av).length : Int) i false 0 0 0 s.2.v s.2.hi s.2.lo s.2.bits (fun e i v hi lo b => nx i (e, ⟨v, hi, lo, b⟩)) (fun v b0 b1 b2 b3 => some ((.agg [(.bool b0), (.int .u64 b1), (.int .u64 b2), (.int .i64 b3)]), v))) (fun _ _ _ => rfl)
    (fun _ s => s.1 = false → s.2 = pq0) (fun r s => some (outQ (qey (fun a b => decide (a < b)) bits (bif s.1 then some s.2 else none) r))) ?_ ?_ (false, pq0) FU (fun _ => rfl) (qkg (by omega))
  · exact key
  · rintro ⟨e, q⟩ nx h
    rw [← hlen]
    unfold qcg
    simp only [Int.lt_irrefl, decide_false, cond_f]
    cases e with
    | false => rw [show q = pq0 from h rfl]; rfl
    | true => rfl
  · rintro i x r ⟨e, q⟩ nx g1 g2 g3 g4 h h5
    have ga : (F.map Pq.av)[i]? = some x.av := by rw [List.getElem?_map, g2]; rfl
    have h6 : (i : Int) < ((F.map Pq.av).length : Int) := by omega
    obtain ⟨w0, w1, w2, w3⟩ := av_w x
    unfold qcg
    simp only [h6, decide_true, cond_t, ixB_nat, ga, oB_s, qbmy, w0, w1, w2, w3, g4]
    rw [qjg]; unfold qfw
    rw [q06]; unfold qsz
    rw [qsn]
    cases hb : decide (x.bits ≤ bits) with
    | false => simp only [cond_f, Bool.false_and]; exact h5 (e, q) h
    | true =>
      cases e with
      | false => simp only [Bool.not_false, cond_t, cond_f, Bool.true_and, betQ]; exact h5 (true, x) (fun h => by cases h)
      | true =>
        simp only [Bool.not_true, cond_t, cond_f, Bool.true_and, betQ, oB_s]
        by_cases hc : x.bits < q.bits
        · simp only [hc, decide_true, cond_t]; exact h5 (true, x) (fun h => by cases h)
        · simp only [hc, decide_false, cond_f]; exact h5 (true, q) (fun h => by cases h)
theorem qt8 (F : List Pq) (hF : F.length ≤ 1000000000) (bits : Int) : qc2 (F.map Pq.av) bits = some (outQ (qey (fun a b => decide (a < b)) bits none F)) := by
  rw [qlk]; unfold qgq
  rw [qjm]
  have hlen : (F.map Pq.av).length = F.length := List.length_map _
  have key := qg7 (σ := Bool × Pq) F (by omega) (fun n i s => qdt bits (F.map Pq.av) ((F.map Pq.av).length : Int) false 0 0 0 (fun v b0 b1 b2 b3 => some ((.agg [(.bool b0), (.int .u64 b1), (.int .u64 b2), (.int .i64 b3)]), v)) n s.1 i s.2.v s.2.hi s.2.lo s.2.bits)
    (fun i s nx => qcd bits s.1 (F.map Pq.av) ((F.map Pq.av).length : Int) i false 0 0 0 s.2.v s.2.hi s.2.lo s.2.bits (fun e i v hi lo b => nx i (e, ⟨v, hi, lo, b⟩)) (fun v b0 b1 b2 b3 => some ((.agg [(.bool b0), (.int .u64 b1), (.int .u64 b2), (.int .i64 b3)]), v))) (fun _ _ _ => rfl)
    (fun _ s => s.1 = false → s.2 = pq0) (fun r s => some (outQ (qey (fun a b => decide (a < b)) bits (bif s.1 then some s.2 else none) r))) ?_ ?_ (false, pq0) FU (fun _ => rfl) (qkg (by omega))
  · exact key
  · rintro ⟨e, q⟩ nx h
    rw [← hlen]
    unfold qcd
    simp only [Int.lt_irrefl, decide_false, cond_f]
    cases e with
    | false => rw [show q = pq0 from h rfl]; rfl
    | true => rfl
  · rintro i x r ⟨e, q⟩ nx g1 g2 g3 g4 h h5
    have ga : (F.map Pq.av)[i]? = some x.av := by rw [List.getElem?_map, g2]; rfl
    have h6 : (i : Int) < ((F.map Pq.av).length : Int) := by omega
    obtain ⟨w0, w1, w2, w3⟩ := av_w x
    unfold qcd
    simp only [h6, decide_true, cond_t, ixB_nat, ga, oB_s, qbmy, w0, w1, w2, w3, g4]
    rw [qim]; unfold qfk
    rw [qzo]; unfold qq5
    rw [qsn]
    cases hb : decide (x.bits ≤ bits) with
    | false => simp only [cond_f, Bool.false_and]; exact h5 (e, q) h
    | true =>
      cases e with
      | false => simp only [Bool.not_false, cond_t, cond_f, Bool.true_and, betQ]; exact h5 (true, x) (fun h => by cases h)
      | true =>
        simp only [Bool.not_true, cond_t, cond_f, Bool.true_and, betQ, oB_s]
        by_cases hc : x.bits < q.bits
        · simp only [hc, decide_true, cond_t]; exact h5 (true, x) (fun h => by cases h)
        · simp only [hc, decide_false, cond_f]; exact h5 (true, q) (fun h => by cases h)
theorem qbnb (F : List Pq) (hF : F.length ≤ 1000000000) (bits sign : Int) (better : Int → Int → Bool) (hg : ∀ q, q ∈ F → 0 ≤ q.bits ∧ q.bits ≤ 128) (hb : ∀ a b : Int, 0 ≤ a ∧ a ≤ 128 → 0 ≤ b ∧ b ≤ 128 → decide (IntKind.i64.wrap (IntKind.i64.wrap (a - b) * sign) > 0) = better a b) :
    qgu (F.map Pq.av) bits sign = some (outQ (qey better bits none F)) := by
  rw [q68]; unfold qy1
  rw [qzu]
  have hlen : (F.map Pq.av).length = F.length := List.length_map _
  have key := qg7 (σ := Bool × Pq) F (by omega) (fun n i s => qmw (F.map Pq.av) bits sign false 0 0 0 (fun v b0 b1 b2 b3 => some ((.agg [(.bool b0), (.int .u64 b1), (.int .u64 b2), (.int .i64 b3)]), v)) n s.1 i s.2.v s.2.hi s.2.lo s.2.bits)
    (fun i s nx => qgs (F.map Pq.av) bits sign s.1 i false 0 0 0 s.2.v s.2.hi s.2.lo s.2.bits (fun e i v hi lo b => nx i (e, ⟨v, hi, lo, b⟩)) (fun v b0 b1 b2 b3 => some ((.agg [(.bool b0), (.int .u64 b1), (.int .u64 b2), (.int .i64 b3)]), v))) (fun _ _ _ => rfl)
    (fun _ s => (s.1 = false → s.2 = pq0) ∧ (s.1 = true → 0 ≤ s.2.bits ∧ s.2.bits ≤ 128)) (fun r s => some (outQ (qey better bits (bif s.1 then some s.2 else none) r))) ?_ ?_ (false, pq0) FU ⟨fun _ => rfl, fun h => by cases h⟩ (qkg (by omega))
  · exact key
  · rintro ⟨e, q⟩ nx ⟨h, _⟩
    rw [← hlen]
    unfold qgs
    simp only [Int.lt_irrefl, decide_false, cond_f]
    cases e with
    | false => rw [show q = pq0 from h rfl]; rfl
    | true => rfl
  · rintro i x r ⟨e, q⟩ nx g1 g2 g3 g4 ⟨h, h'⟩ h5
    have ga : (F.map Pq.av)[i]? = some x.av := by rw [List.getElem?_map, g2]; rfl
    have h6 : (i : Int) < ((F.map Pq.av).length : Int) := by omega
    obtain ⟨w0, w1, w2, w3⟩ := av_w x
    have hx := hg x (List.mem_of_getElem? g2)
    unfold qgs
    simp only [h6, decide_true, cond_t]
    rw [qzt]; unfold qrj
    simp only [ixB_nat, ga, oB_s, qbmy, cond_t, w0, w1, w2, w3, g4]
    rw [qsn]
    have n1 := h5 (true, x) ⟨fun h => (by cases h), fun _ => hx⟩
    have n2 := h5 (e, q) ⟨h, h'⟩
    cases hd : decide (x.bits ≤ bits) with
    | false => simp only [cond_f, Bool.false_and]; exact n2
    | true =>
      cases e with
      | false => simp only [Bool.not_false, cond_t, cond_f, Bool.true_and, betQ]; exact n1
      | true =>
        simp only [Bool.not_true, cond_t, cond_f, Bool.true_and, betQ]
        rw [hb x.bits q.bits hx (h' rfl)]
        cases hc : better x.bits q.bits with
        | true => exact n1
        | false => exact n2
end Go.Proofs.Ytmfghgaboaocgaa.Dn
