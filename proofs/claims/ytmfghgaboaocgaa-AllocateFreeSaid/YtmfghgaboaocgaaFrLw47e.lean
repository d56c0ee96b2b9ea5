/- Choosing a free prefix, and allocating it: AllocateChooses. -/
import Derived.Test.YtmfghgaboaocgaaFrLw47d
set_option linter.all false
namespace Go.Proofs.Ytmfghgaboaocgaa.Dn
open Go Go.Pev
set_option linter.unusedVariables false
set_option linter.unusedSimpArgs false
set_option maxRecDepth 4000
def q0v (l : List AV) : Bool := l.all fun y => decide ((gS y.cells 5).length ≤ 100) && decide ((gS y.cells 6).length ≤ 100)
theorem qbou (l : List AV) (hl : qc4 l) : qmo l = some (decide (l.length ≤ 40) && q0v l) := by
  rw [qyp]; unfold qs0
  rw [qtj, q1p l hl.1 (qkr l fun _ => some true) (fun i nx => qfu l i nx fun _ => some true) (fun _ _ => rfl) (fun r => some (q0v r))]
  · by_cases h : l.length ≤ 40
    · have : ¬ (l.length : Int) > 40 := by omega
      simp [h, this]
    · have : (l.length : Int) > 40 := by omega
      simp [h, this]
  · intro nx; simp [qfu, q0v]
  · intro i y r nx h1 h2 h3 h4 h5
    have hy := hl.2 y (List.mem_of_getElem? h2)
    have h6 : (i : Int) < (l.length : Int) := by omega
    unfold qfu
    simp only [h6, decide_true, cond_t, ixB_nat, h2, oB_s, hy.1, h4, h5, q0v, List.all_cons]
    by_cases g1 : (gS y.cells 5).length ≤ 100
    · have e1 : ¬ ((gS y.cells 5).length : Int) > 100 := by omega
      by_cases g2 : (gS y.cells 6).length ≤ 100
      · have e2 : ¬ ((gS y.cells 6).length : Int) > 100 := by omega
        simp [g1, e1, g2, e2]
      · have e2 : ((gS y.cells 6).length : Int) > 100 := by omega
        simp [g1, e1, g2, e2]
    · have e1 : ((gS y.cells 5).length : Int) > 100 := by omega
      simp [g1, e1]
def qoy : List AV := [(.agg [(.bool false), (.int .u64 0), (.int .u64 256), (.int .i64 24), (.int .i64 1), (.str [99]), (.str []), (.int .i64 0)]), (.agg [(.bool false), (.int .u64 0), (.int .u64 288), (.int .i64 27), (.int .i64 2), (.str [115]), (.str []), (.int .i64 0)])]
theorem qbpw : qka = some qoy := by
  rw [qw4]; unfold qrk
  rw [qoz]; unfold qp5
  rfl
theorem q9g : qc4 qoy := by
  refine ⟨by simp [qoy], fun y hy => ?_⟩
  simp only [qoy, List.mem_cons, List.not_mem_nil, or_false] at hy
  rcases hy with rfl | rfl
  · refine ⟨rfl, ⟨?_, ?_⟩, ⟨?_, ?_⟩, ?_, ?_⟩ <;> decide +kernel
  · refine ⟨rfl, ⟨?_, ?_⟩, ⟨?_, ?_⟩, ?_, ?_⟩ <;> decide +kernel
def frQ (l : List AV) (p : Pq) : List Pq := qgm (qpv l p) (p.np.k + 1) p
def qbda (policy : Int) (a b : Int) : Bool := bif policy == 1 then false else bif policy == 2 then decide (a > b) else decide (a < b)
def ql2 (policy bits : Int) (q : Pq) : Pq := bif (policy == 3 && decide (q.bits < bits)) then q.high else q
def q3m (p : Pq) (bits policy : Int) : Bool := decide (bits < p.bits) || ((decide (bits > qt p.v) || decide (policy < 1)) || decide (policy > 3))
def qbja (l : List AV) (p : Pq) (bits policy : Int) : AV × Int := match qhv (qbda policy) bits none (frQ l p) with
  | none => (qri, 22)
  | some q => (mkP (ql2 policy bits q).v (ql2 policy bits q).hi (ql2 policy bits q).lo bits, 0)
def qe4 (l : List AV) (p : Pq) (bits policy : Int) : AV × Int := match l.find? (atP p.v p.hi p.lo p.bits) with
  | none => (qri, 11)
  | some y => bif gI y.cells 4 != 1 then (qri, 21) else bif q3m p bits policy then (qri, 1) else qbja l p bits policy
theorem q1v {l : List AV} (hg : qjt l) (p : Pq) : qjt (qpv l p) := fun y hy => hg y (List.mem_filter.1 hy).1
theorem qbrw {l : List AV} (hg : qjt l) {p : Pq} (hp : p.good) {q : Pq} (hq : q ∈ frQ l p) : q.good ∧ q.np.sub p.np := by
  obtain ⟨a, b, _⟩ := q5j (q1v hg p) _ p hp q hq
  exact ⟨a, b⟩
theorem qbmj {l : List AV} (hg : qjt l) (hn : l.length ≤ 1000) {p : Pq} (hp : p.good) : (frQ l p).length ≤ 200001 :=
  qbk4 (q1v hg p) (Nat.le_trans (List.length_filter_le _ _) hn) (by have := hp.range.2.2.2; omega) hp
theorem qbq6 {s : Pq} (hs : s.good) {n : Int} (h1 : s.bits ≤ n) (h2 : n ≤ qt s.v) : qsn s.v s.hi s.lo s.bits n = true := by
  unfold qsn
  rw [hs.1]; simp [h1, h2]
theorem qbgy {q : Pq} (hq : q.good) {n : Int} (h1 : q.bits < n) (h2 : n ≤ qt q.v) : q.half = true := by
  refine (Pq.half_iff hq).2 ?_
  obtain ⟨_, _, a3, _⟩ := hq.range
  omega
theorem qbfi {q : Pq} (hq : q.good) {policy bits : Int} (h1 : q.bits ≤ bits) (h2 : bits ≤ qt q.v) : (ql2 policy bits q).good ∧ (ql2 policy bits q).bits ≤ bits ∧ (ql2 policy bits q).v = q.v := by
  unfold ql2
  cases hc : (policy == 3 && decide (q.bits < bits)) with
  | false => exact ⟨hq, h1, rfl⟩
  | true =>
    rw [Bool.and_eq_true, decide_eq_true_eq] at hc
    exact ⟨Pq.high_good hq (qbgy hq hc.2 h2), by show q.bits + 1 ≤ bits; omega, rfl⟩
noncomputable def qbnf (policy bits : Int) (x : AV) : Option (AV × Int) := (bif ((policy == (3 : Int)) && (decide ((gI x.cells 3) < bits))) then (oB (qgl (gB x.cells 0) (gI x.cells 1) (gI x.cells 2) (gI x.cells 3)) fun r16 => (oB (qee (gB r16.2.1.cells 0) (gI r16.2.1.cells 1) (gI r16.2.1.cells 2) (gI r16.2.1.cells 3) bits (0 : Int)) fun r17 => (some ((.agg [(.bool (gB r17.1.cells 0)), (.int .u64 (gI r17.1.cells 1)), (.int .u64 (gI r17.1.cells 2)), (.int .i64 (gI r17.1.cells 3))]), (0 : Int))))) else (oB (qee (gB x.cells 0) (gI x.cells 1) (gI x.cells 2) (gI x.cells 3) bits (0 : Int)) fun r18 => (some ((.agg [(.bool (gB r18.1.cells 0)), (.int .u64 (gI r18.1.cells 1)), (.int .u64 (gI r18.1.cells 2)), (.int .i64 (gI r18.1.cells 3))]), (0 : Int)))))
theorem qbq7 {q : Pq} (hq : q.good) {policy bits : Int} (h1 : q.bits ≤ bits) (h2 : bits ≤ qt q.v) : qbnf policy bits q.av = some (mkP (ql2 policy bits q).v (ql2 policy bits q).hi (ql2 policy bits q).lo bits, 0) := by
  unfold qbnf
  obtain ⟨w0, w1, w2, w3⟩ := av_w q
  rw [w0, w1, w2, w3]
  obtain ⟨sg, sb, sv⟩ := qbfi (policy := policy) hq h1 h2
  have sp := qbq6 sg sb (by rw [sv]; exact h2)
  unfold ql2 at *
  by_cases hp3 : policy = 3
  · by_cases hlt : q.bits < bits
    · have hh := qbgy hq hlt h2
      have c : (policy == 3 && decide (q.bits < bits)) = true := by simp [hp3, hlt]
      rw [c] at sg sp ⊢
      simp only [cond_t] at sg sp ⊢
      rw [qbh3 _ _ _ _ hq.2.1 hq.2.2]
      have hv : q3l q.v q.hi q.lo q.bits = (q.low.av, q.high.av, true) := by
        unfold q3l
        rw [show qm9 q.v q.hi q.lo q.bits = true from hh]; rfl
      rw [hv]
      simp only [oB_s]
      obtain ⟨z0, z1, z2, z3⟩ := av_w q.high
      rw [z0, z1, z2, z3, q5g sg.2.1 sg.2.2, sp]
      rfl
    · have c : (policy == 3 && decide (q.bits < bits)) = false := by simp [hlt]
      rw [c] at sg sp ⊢
      simp only [cond_f] at sg sp ⊢
      rw [q5g hq.2.1 hq.2.2, sp]; rfl
  · have c : (policy == 3 && decide (q.bits < bits)) = false := by simp [hp3]
    rw [c] at sg sp ⊢
    simp only [cond_f] at sg sp ⊢
    rw [q5g hq.2.1 hq.2.2, sp]; rfl
theorem qbdb (l : List AV) (hl : qc4 l) (hg : qjt l) (hn : l.length ≤ 1000) (p : Pq) (bits policy : Int) : qhh l p.v p.hi p.lo p.bits bits policy = some (qe4 l p bits policy) := by
  rw [qxf]; unfold qr6 qe4
  rw [q9r l hl, oB_s]
  cases hf : l.find? (atP p.v p.hi p.lo p.bits) with
  | none => rw [qbnc hf]; rfl
  | some y =>
    rw [q5i hl hf]
    obtain ⟨hp, _⟩ := q1u hg hf
    simp only [Bool.not_true, cond_f]
    cases hk : gI y.cells 4 != 1 with
    | true => rfl
    | false =>
      simp only [cond_f]
      have hlen : qlp p.v p.hi p.lo p.bits = some (qt p.v) := by
        rw [qxa]; unfold qrp qt
        cases p.v <;> rfl
      rw [hlen]
      simp only [oB_s]
      cases hb : q3m p bits policy with
      | true =>
        unfold q3m at hb
        by_cases h1 : bits < p.bits
        · simp only [h1, decide_true, cond_t]; rfl
        · simp only [h1, decide_false, cond_f, Bool.false_or] at hb ⊢
          rw [hb]; rfl
      | false =>
        unfold q3m at hb
        by_cases h1 : bits < p.bits
        · simp [h1] at hb
        · simp only [h1, decide_false, cond_f, Bool.false_or] at hb ⊢
          rw [hb]
          simp only [cond_f]
          simp only [Bool.or_eq_false_iff, decide_eq_false_iff_not] at hb
          obtain ⟨⟨h2, h3⟩, h4⟩ := hb
          have hF := qbmj hg hn hp
          have e1 : ql4 l p.v p.hi p.lo p.bits = some ((frQ l p).map Pq.av) := by
            rw [qbos l hl hg hn p]
            unfold qbi9
            rw [hf]
            have : (gI y.cells 4 == 1) = true := by simpa using hk
            simp only [this, cond_t]; rfl
          rw [e1]
          simp only [oB_s]
          have fin : ∀ b : Int → Int → Bool, qbda policy = b → (bif (!(outQ (qhv b bits none (frQ l p))).2) then (some (qri, (22 : Int))) else qbnf policy bits (outQ (qhv b bits none (frQ l p))).1) = some (qbja l p bits policy) := by
            intro b hb
            unfold qbja
            rw [hb]
            cases hq : qhv b bits none (frQ l p) with
            | none => rfl
            | some q =>
              rcases q9f hq with h | ⟨h, h'⟩
              · cases h
              · obtain ⟨qg, qs⟩ := qbrw hg hp h
                have hv : q.v = p.v := qs.1
                simp only [outQ, Bool.not_true, cond_f]
                exact qbq7 qg h' (by rw [hv]; omega)
          have hpol : policy = 1 ∨ policy = 2 ∨ policy = 3 := by omega
          rcases hpol with rfl | rfl | rfl
          · refine Eq.trans ?_ (fin (fun _ _ => false) (by funext a b; rfl))
            rw [q0s _ (by omega)]; rfl
          · refine Eq.trans ?_ (fin (fun a b => decide (a > b)) (by funext a b; rfl))
            rw [q0t _ (by omega)]; rfl
          · refine Eq.trans ?_ (fin (fun a b => decide (a < b)) (by funext a b; rfl))
            rw [q0u _ (by omega)]; rfl
end Go.Proofs.Ytmfghgaboaocgaa.Dn
