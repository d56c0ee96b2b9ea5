/- Choosing a free prefix; AllocateChooses. -/
import Derived.Test.YtmfghgaboaocgaaFrLw46w
set_option linter.all false
namespace Go.Proofs.Ytmfghgaboaocgaa.Dn
open Go Go.Pev
set_option linter.unusedVariables false
set_option linter.unusedSimpArgs false
set_option maxRecDepth 4000
theorem qbfh (q : Pq) : fitC qc q.av.cells = true := rfl
theorem av_w (q : Pq) : gB q.av.cells 0 = q.v ∧ gI q.av.cells 1 = q.hi ∧ gI q.av.cells 2 = q.lo ∧ gI q.av.cells 3 = q.bits := ⟨rfl, rfl, rfl, rfl⟩
def betQ (better : Int → Int → Bool) (b : Option Pq) (x : Pq) : Bool := match b with
  | none => true
  | some q => better x.bits q.bits
def qhv (better : Int → Int → Bool) (bits : Int) : Option Pq → List Pq → Option Pq
  | b, [] => b
  | b, x :: r => qhv better bits (bif decide (x.bits ≤ bits) && betQ better b x then some x else b) r
theorem qso (better : Int → Int → Bool) (bits : Int) (b : Option Pq) (x : Pq) (r : List Pq) : qhv better bits b (x :: r) = qhv better bits (bif decide (x.bits ≤ bits) && betQ better b x then some x else b) r := rfl
def pq0 : Pq := ⟨false, 0, 0, 0⟩
def outQ : Option Pq → AV × Bool
  | some q => (q.av, true)
  | none => (qri, false)
theorem q9f {better : Int → Int → Bool} {bits : Int} {q : Pq} : ∀ {F : List Pq} {b : Option Pq}, qhv better bits b F = some q → (b = some q ∨ (q ∈ F ∧ q.bits ≤ bits))
  | [], b, h => .inl h
  | x :: r, b, h => by
    rw [qso] at h
    rcases q9f h with h1 | ⟨h1, h2⟩
    · cases hc : decide (x.bits ≤ bits) && betQ better b x with
      | true =>
        rw [hc] at h1
        simp only [cond_t] at h1
        cases h1
        rw [Bool.and_eq_true, decide_eq_true_eq] at hc
        exact .inr ⟨by simp, hc.1⟩
      | false => rw [hc] at h1; exact .inl h1
    · exact .inr ⟨List.mem_cons_of_mem _ h1, h2⟩
theorem q0s (F : List Pq) (hF : F.length ≤ 1000000000) (bits : Int) : qdi (F.map Pq.av) bits = some (outQ (qhv (fun _ _ => false) bits none F)) := by
  rw [qke]; unfold qf8
  rw [qi1]
  have hlen : (F.map Pq.av).length = F.length := List.length_map _
  have key := qkl (σ := Bool × Pq) F (by omega) (fun n i s => qdw bits (F.map Pq.av) ((F.map Pq.av).length : Int) false 0 0 0 (fun v b0 b1 b2 b3 => some ((.agg [(.bool b0), (.int .u64 b1), (.int .u64 b2), (.int .i64 b3)]), v)) n s.1 i s.2.v s.2.hi s.2.lo s.2.bits)
    (fun i s nx => qcj bits s.1 (F.map Pq.av) ((F.map Pq.av).length : Int) i false 0 0 0 s.2.v s.2.hi s.2.lo s.2.bits (fun e i v hi lo b => nx i (e, ⟨v, hi, lo, b⟩)) (fun v b0 b1 b2 b3 => some ((.agg [(.bool b0), (.int .u64 b1), (.int .u64 b2), (.int .i64 b3)]), v))) (fun _ _ _ => rfl)
    (fun _ s => s.1 = false → s.2 = pq0) (fun r s => some (outQ (qhv (fun _ _ => false) bits (bif s.1 then some s.2 else none) r))) ?_ ?_ (false, pq0) FU (fun _ => rfl) (qou (by omega))
  · exact key
  · rintro ⟨e, q⟩ nx h
    rw [← hlen]
    unfold qcj
    simp only [Int.lt_irrefl, decide_false, cond_f]
    cases e with
    | false => rw [show q = pq0 from h rfl]; rfl
    | true => rfl
  · rintro i x r ⟨e, q⟩ nx g1 g2 g3 g4 h h5
    have ga : (F.map Pq.av)[i]? = some x.av := by rw [List.getElem?_map, g2]; rfl
    have h6 : (i : Int) < ((F.map Pq.av).length : Int) := by omega
    obtain ⟨w0, w1, w2, w3⟩ := av_w x
    unfold qcj
    simp only [h6, decide_true, cond_t, ixB_nat, ga, oB_s, qbfh, w0, w1, w2, w3, g4]
    rw [qif]; unfold qfb
    rw [qug]; unfold qpb
    rw [qso]
    cases hb : decide (x.bits ≤ bits) with
    | false => simp only [cond_f, Bool.false_and]; exact h5 (e, q) h
    | true =>
      cases e with
      | false => simp only [Bool.not_false, cond_t, cond_f, Bool.true_and, betQ]; exact h5 (true, x) (fun h => by cases h)
      | true =>
        simp only [Bool.not_true, cond_t, cond_f, Bool.true_and, betQ, oB_s]
        exact h5 (true, q) (fun h => by cases h)
theorem q0t (F : List Pq) (hF : F.length ≤ 1000000000) (bits : Int) : qdh (F.map Pq.av) bits = some (outQ (qhv (fun a b => decide (a > b)) bits none F)) := by
  rw [qkd]; unfold qf6
  rw [qiz]
  have hlen : (F.map Pq.av).length = F.length := List.length_map _
  have key := qkl (σ := Bool × Pq) F (by omega) (fun n i s => qdv bits (F.map Pq.av) ((F.map Pq.av).length : Int) false 0 0 0 (fun v b0 b1 b2 b3 => some ((.agg [(.bool b0), (.int .u64 b1), (.int .u64 b2), (.int .i64 b3)]), v)) n s.1 i s.2.v s.2.hi s.2.lo s.2.bits)
    (fun i s nx => qch bits s.1 (F.map Pq.av) ((F.map Pq.av).length : Int) i false 0 0 0 s.2.v s.2.hi s.2.lo s.2.bits (fun e i v hi lo b => nx i (e, ⟨v, hi, lo, b⟩)) (fun v b0 b1 b2 b3 => some ((.agg [(.bool b0), (.int .u64 b1), (.int .u64 b2), (.int .i64 b3)]), v))) (fun _ _ _ => rfl)
    (fun _ s => s.1 = false → s.2 = pq0) (fun r s => some (outQ (qhv (fun a b => decide (a > b)) bits (bif s.1 then some s.2 else none) r))) ?_ ?_ (false, pq0) FU (fun _ => rfl) (qou (by omega))
  · exact key
  · rintro ⟨e, q⟩ nx h
    rw [← hlen]
    unfold qch
    simp only [Int.lt_irrefl, decide_false, cond_f]
    cases e with
    | false => rw [show q = pq0 from h rfl]; rfl
    | true => rfl
  · rintro i x r ⟨e, q⟩ nx g1 g2 g3 g4 h h5
    have ga : (F.map Pq.av)[i]? = some x.av := by rw [List.getElem?_map, g2]; rfl
    have h6 : (i : Int) < ((F.map Pq.av).length : Int) := by omega
    obtain ⟨w0, w1, w2, w3⟩ := av_w x
    unfold qch
    simp only [h6, decide_true, cond_t, ixB_nat, ga, oB_s, qbfh, w0, w1, w2, w3, g4]
    rw [qid]; unfold qe8
    rw [quf]; unfold qo6
    rw [qso]
    cases hb : decide (x.bits ≤ bits) with
    | false => simp only [cond_f, Bool.false_and]; exact h5 (e, q) h
    | true =>
      cases e with
      | false => simp only [Bool.not_false, cond_t, cond_f, Bool.true_and, betQ]; exact h5 (true, x) (fun h => by cases h)
      | true =>
        simp only [Bool.not_true, cond_t, cond_f, Bool.true_and, betQ, oB_s]
        by_cases hc : x.bits > q.bits
        · simp only [hc, decide_true, cond_t]; exact h5 (true, x) (fun h => by cases h)
        · simp only [hc, decide_false, cond_f]; exact h5 (true, q) (fun h => by cases h)
theorem q0u (F : List Pq) (hF : F.length ≤ 1000000000) (bits : Int) : qdg (F.map Pq.av) bits = some (outQ (qhv (fun a b => decide (a < b)) bits none F)) := by
  rw [qkc]; unfold qf4
  rw [qix]
  have hlen : (F.map Pq.av).length = F.length := List.length_map _
  have key := qkl (σ := Bool × Pq) F (by omega) (fun n i s => qdu bits (F.map Pq.av) ((F.map Pq.av).length : Int) false 0 0 0 (fun v b0 b1 b2 b3 => some ((.agg [(.bool b0), (.int .u64 b1), (.int .u64 b2), (.int .i64 b3)]), v)) n s.1 i s.2.v s.2.hi s.2.lo s.2.bits)
    (fun i s nx => qcf bits s.1 (F.map Pq.av) ((F.map Pq.av).length : Int) i false 0 0 0 s.2.v s.2.hi s.2.lo s.2.bits (fun e i v hi lo b => nx i (e, ⟨v, hi, lo, b⟩)) (fun v b0 b1 b2 b3 => some ((.agg [(.bool b0), (.int .u64 b1), (.int .u64 b2), (.int .i64 b3)]), v))) (fun _ _ _ => rfl)
    (fun _ s => s.1 = false → s.2 = pq0) (fun r s => some (outQ (qhv (fun a b => decide (a < b)) bits (bif s.1 then some s.2 else none) r))) ?_ ?_ (false, pq0) FU (fun _ => rfl) (qou (by omega))
  · exact key
  · rintro ⟨e, q⟩ nx h
    rw [← hlen]
    unfold qcf
    simp only [Int.lt_irrefl, decide_false, cond_f]
    cases e with
    | false => rw [show q = pq0 from h rfl]; rfl
    | true => rfl
  · rintro i x r ⟨e, q⟩ nx g1 g2 g3 g4 h h5
    have ga : (F.map Pq.av)[i]? = some x.av := by rw [List.getElem?_map, g2]; rfl
    have h6 : (i : Int) < ((F.map Pq.av).length : Int) := by omega
    obtain ⟨w0, w1, w2, w3⟩ := av_w x
    unfold qcf
    simp only [h6, decide_true, cond_t, ixB_nat, ga, oB_s, qbfh, w0, w1, w2, w3, g4]
    rw [qib]; unfold qe5
    rw [que]; unfold qo1
    rw [qso]
    cases hb : decide (x.bits ≤ bits) with
    | false => simp only [cond_f, Bool.false_and]; exact h5 (e, q) h
    | true =>
      cases e with
      | false => simp only [Bool.not_false, cond_t, cond_f, Bool.true_and, betQ]; exact h5 (true, x) (fun h => by cases h)
      | true =>
        simp only [Bool.not_true, cond_t, cond_f, Bool.true_and, betQ, oB_s]
        by_cases hc : x.bits < q.bits
        · simp only [hc, decide_true, cond_t]; exact h5 (true, x) (fun h => by cases h)
        · simp only [hc, decide_false, cond_f]; exact h5 (true, q) (fun h => by cases h)
theorem qpw (F : List Pq) (hF : F.length ≤ 1000000000) (bits : Int) : qcz (F.map Pq.av) bits = some (outQ (qhv (fun a b => decide (a < b)) bits none F)) := by
  rw [qj1]; unfold qfw
  rw [qih]
  have hlen : (F.map Pq.av).length = F.length := List.length_map _
  have key := qkl (σ := Bool × Pq) F (by omega) (fun n i s => qdm bits (F.map Pq.av) ((F.map Pq.av).length : Int) false 0 0 0 (fun v b0 b1 b2 b3 => some ((.agg [(.bool b0), (.int .u64 b1), (.int .u64 b2), (.int .i64 b3)]), v)) n s.1 i s.2.v s.2.hi s.2.lo s.2.bits)
    (fun i s nx => qcb bits s.1 (F.map Pq.av) ((F.map Pq.av).length : Int) i false 0 0 0 s.2.v s.2.hi s.2.lo s.2.bits (fun e i v hi lo b => nx i (e, ⟨v, hi, lo, b⟩)) (fun v b0 b1 b2 b3 => some ((.agg [(.bool b0), (.int .u64 b1), (.int .u64 b2), (.int .i64 b3)]), v))) (fun _ _ _ => rfl)
    (fun _ s => s.1 = false → s.2 = pq0) (fun r s => some (outQ (qhv (fun a b => decide (a < b)) bits (bif s.1 then some s.2 else none) r))) ?_ ?_ (false, pq0) FU (fun _ => rfl) (qou (by omega))
  · exact key
  · rintro ⟨e, q⟩ nx h
    rw [← hlen]
    unfold qcb
    simp only [Int.lt_irrefl, decide_false, cond_f]
    cases e with
    | false => rw [show q = pq0 from h rfl]; rfl
    | true => rfl
  · rintro i x r ⟨e, q⟩ nx g1 g2 g3 g4 h h5
    have ga : (F.map Pq.av)[i]? = some x.av := by rw [List.getElem?_map, g2]; rfl
    have h6 : (i : Int) < ((F.map Pq.av).length : Int) := by omega
    obtain ⟨w0, w1, w2, w3⟩ := av_w x
    unfold qcb
    simp only [h6, decide_true, cond_t, ixB_nat, ga, oB_s, qbfh, w0, w1, w2, w3, g4]
    rw [qhj]; unfold qe1
    rw [qtn]; unfold qnq
    rw [qso]
    cases hb : decide (x.bits ≤ bits) with
    | false => simp only [cond_f, Bool.false_and]; exact h5 (e, q) h
    | true =>
      cases e with
      | false => simp only [Bool.not_false, cond_t, cond_f, Bool.true_and, betQ]; exact h5 (true, x) (fun h => by cases h)
      | true =>
        simp only [Bool.not_true, cond_t, cond_f, Bool.true_and, betQ, oB_s]
        by_cases hc : x.bits < q.bits
        · simp only [hc, decide_true, cond_t]; exact h5 (true, x) (fun h => by cases h)
        · simp only [hc, decide_false, cond_f]; exact h5 (true, q) (fun h => by cases h)
end Go.Proofs.Ytmfghgaboaocgaa.Dn
