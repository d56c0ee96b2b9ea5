/- Choosing a free prefix, and allocating it: AllocateChooses. -/
import Derived.Test.YtmfghgaboaocgaaChLw47d
set_option linter.all false
namespace Go.Proofs.Ytmfghgaboaocgaa.Dn
open Go Go.Pev
set_option linter.unusedVariables false
set_option linter.unusedSimpArgs false
set_option maxRecDepth 4000
def q9o (l : List AV) : Bool := l.all fun y => decide ((gS y.cells 5).length ≤ 100) && decide ((gS y.cells 6).length ≤ 100)
theorem qb4y (l : List AV) (hl : qcc l) : qpw l = some (decide (l.length ≤ 40) && q9o l) := by
  rw [q6o]; unfold qyj
  rw [qzc, qqr l hl.1 (qml l fun _ => some true) (fun i nx => qgk l i nx fun _ => some true) (fun _ _ => rfl) (fun r => some (q9o r))]
  · by_cases h : l.length ≤ 40
    · have : ¬ (l.length : Int) > 40 := by omega
      simp [h, this]
    · have : (l.length : Int) > 40 := by omega
      simp [h, this]
  · intro nx; simp [qgk, q9o]
  · intro i y r nx h1 h2 h3 h4 h5
    have hy := hl.2 y (List.mem_of_getElem? h2)
    have h6 : (i : Int) < (l.length : Int) := by omega
    unfold qgk
    simp only [h6, decide_true, cond_t, ixB_nat, h2, oB_s, hy.1, h4, h5, q9o, List.all_cons]
    by_cases g1 : (gS y.cells 5).length ≤ 100
    · have e1 : ¬ ((gS y.cells 5).length : Int) > 100 := by omega
      by_cases g2 : (gS y.cells 6).length ≤ 100
      · have e2 : ¬ ((gS y.cells 6).length : Int) > 100 := by omega
        simp [g1, e1, g2, e2]
      · have e2 : ((gS y.cells 6).length : Int) > 100 := by omega
        simp [g1, e1, g2, e2]
    · have e1 : ((gS y.cells 5).length : Int) > 100 := by omega
      simp [g1, e1]
def qso : List AV := [(.agg [(.bool false), (.int .u64 0), (.int .u64 256), (.int .i64 24), (.int .i64 1), (.str [99]), (.str []), (.int .i64 0)]), (.agg [(.bool false), (.int .u64 0), (.int .u64 288), (.int .i64 27), (.int .i64 2), (.str [115]), (.str []), (.int .i64 0)])]
theorem qb55 : qlp = some qso := by
  rw [q4m]; unfold qwg
  rw [qsp]; unfold quh
  rfl
theorem qbmz : qcc qso := by
  refine ⟨by simp [qso], fun y hy => ?_⟩
  simp only [qso, List.mem_cons, List.not_mem_nil, or_false] at hy
  rcases hy with rfl | rfl
  · refine ⟨rfl, ⟨?_, ?_⟩, ⟨?_, ?_⟩, ?_, ?_⟩ <;> decide +kernel
  · refine ⟨rfl, ⟨?_, ?_⟩, ⟨?_, ?_⟩, ?_, ?_⟩ <;> decide +kernel
def frQ (l : List AV) (p : Pq) : List Pq := qei (qnw l p) (p.np.k + 1) p
def qgg (policy : Int) (a b : Int) : Bool := bif policy == 1 then false else bif policy == 2 then decide (a > b) else decide (a < b)
def qki (policy bits : Int) (q : Pq) : Pq := bif (policy == 3 && decide (q.bits < bits)) then q.high else q
def qx6 (p : Pq) (bits policy : Int) : Bool := decide (bits < p.bits) || ((decide (bits > qn p.v) || decide (policy < 1)) || decide (policy > 3))
def qbnc (l : List AV) (p : Pq) (bits policy : Int) : AV × Int := match qey (qgg policy) bits none (frQ l p) with
  | none => (qo1, 22)
  | some q => (mkP (qki policy bits q).v (qki policy bits q).hi (qki policy bits q).lo bits, 0)
def qe9 (l : List AV) (p : Pq) (bits policy : Int) : AV × Int := match l.find? (atP p.v p.hi p.lo p.bits) with
  | none => (qo1, 11)
  | some y => bif gI y.cells 4 != 1 then (qo1, 21) else bif qx6 p bits policy then (qo1, 1) else qbnc l p bits policy
theorem qbax {l : List AV} (hg : qfp l) (p : Pq) : qfp (qnw l p) := fun y hy => hg y (List.mem_filter.1 hy).1
theorem qb1c {l : List AV} (hg : qfp l) {p : Pq} (hp : p.good) {q : Pq} (hq : q ∈ frQ l p) : q.good ∧ q.np.sub p.np := by
  obtain ⟨a, b, _⟩ := qbgu (qbax hg p) _ p hp q hq
  exact ⟨a, b⟩
theorem qbnd {l : List AV} (hg : qfp l) (hn : l.length ≤ 1000) {p : Pq} (hp : p.good) : (frQ l p).length ≤ 200001 :=
  qbsf (qbax hg p) (Nat.le_trans (List.length_filter_le _ _) hn) (by have := hp.range.2.2.2; omega) hp
theorem qb2p {s : Pq} (hs : s.good) {n : Int} (h1 : s.bits ≤ n) (h2 : n ≤ qn s.v) : qmi s.v s.hi s.lo s.bits n = true := by
  unfold qmi
  rw [hs.1]; simp [h1, h2]
theorem qbne {q : Pq} (hq : q.good) {n : Int} (h1 : q.bits < n) (h2 : n ≤ qn q.v) : q.half = true := by
  refine (Pq.half_iff hq).2 ?_
  obtain ⟨_, _, a3, _⟩ := hq.range
  omega
theorem qbgv {q : Pq} (hq : q.good) {policy bits : Int} (h1 : q.bits ≤ bits) (h2 : bits ≤ qn q.v) : (qki policy bits q).good ∧ (qki policy bits q).bits ≤ bits ∧ (qki policy bits q).v = q.v := by
  unfold qki
  cases hc : (policy == 3 && decide (q.bits < bits)) with
  | false => exact ⟨hq, h1, rfl⟩
  | true =>
    rw [Bool.and_eq_true, decide_eq_true_eq] at hc
    exact ⟨Pq.high_good hq (qbne hq hc.2 h2), by show q.bits + 1 ≤ bits; omega, rfl⟩
noncomputable def qb3j (policy bits : Int) (x : AV) : Option (AV × Int) := (bif ((policy == (3 : Int)) && (decide ((gI x.cells 3) < bits))) then (oB (qhj (gB x.cells 0) (gI x.cells 1) (gI x.cells 2) (gI x.cells 3)) fun r16 => (oB (qem (gB r16.2.1.cells 0) (gI r16.2.1.cells 1) (gI r16.2.1.cells 2) (gI r16.2.1.cells 3) bits (0 : Int)) fun r17 => (some ((.agg [(.bool (gB r17.1.cells 0)), (.int .u64 (gI r17.1.cells 1)), (.int .u64 (gI r17.1.cells 2)), (.int .i64 (gI r17.1.cells 3))]), (0 : Int))))) else (oB (qem (gB x.cells 0) (gI x.cells 1) (gI x.cells 2) (gI x.cells 3) bits (0 : Int)) fun r18 => (some ((.agg [(.bool (gB r18.1.cells 0)), (.int .u64 (gI r18.1.cells 1)), (.int .u64 (gI r18.1.cells 2)), (.int .i64 (gI r18.1.cells 3))]), (0 : Int)))))
theorem qb7l {q : Pq} (hq : q.good) {policy bits : Int} (h1 : q.bits ≤ bits) (h2 : bits ≤ qn q.v) : qb3j policy bits q.av = some (mkP (qki policy bits q).v (qki policy bits q).hi (qki policy bits q).lo bits, 0) := by
  unfold qb3j
  obtain ⟨w0, w1, w2, w3⟩ := av_w q
  rw [w0, w1, w2, w3]
  obtain ⟨sg, sb, sv⟩ := qbgv (policy := policy) hq h1 h2
  have sp := qb2p sg sb (by rw [sv]; exact h2)
  unfold qki at *
  by_cases hp3 : policy = 3
  · by_cases hlt : q.bits < bits
    · have hh := qbne hq hlt h2
      have c : (policy == 3 && decide (q.bits < bits)) = true := by simp [hp3, hlt]
      rw [c] at sg sp ⊢
      simp only [cond_t] at sg sp ⊢
      rw [qbx0 _ _ _ _ hq.2.1 hq.2.2]
      have hv : qsm q.v q.hi q.lo q.bits = (q.low.av, q.high.av, true) := by
        unfold qsm
        rw [show qmj q.v q.hi q.lo q.bits = true from hh]; rfl
      rw [hv]
      simp only [oB_s]
      obtain ⟨z0, z1, z2, z3⟩ := av_w q.high
      rw [z0, z1, z2, z3, qbgr sg.2.1 sg.2.2, sp]
      rfl
    · have c : (policy == 3 && decide (q.bits < bits)) = false := by simp [hlt]
      rw [c] at sg sp ⊢
      simp only [cond_f] at sg sp ⊢
      rw [qbgr hq.2.1 hq.2.2, sp]; rfl
  · have c : (policy == 3 && decide (q.bits < bits)) = false := by simp [hp3]
    rw [c] at sg sp ⊢
    simp only [cond_f] at sg sp ⊢
    rw [qbgr hq.2.1 hq.2.2, sp]; rfl
theorem qbsh (l : List AV) (hl : qcc l) (hg : qfp l) (hn : l.length ≤ 1000) (p : Pq) (bits policy : Int) : qik l p.v p.hi p.lo p.bits bits policy = some (qe9 l p bits policy) := by
  rw [q47]; unfold qw7 qe9
  rw [qbws l hl, oB_s]
  cases hf : l.find? (atP p.v p.hi p.lo p.bits) with
  | none => rw [qbgt hf]; rfl
  | some y =>
    rw [q7w hl hf]
    obtain ⟨hp, _⟩ := qvr hg hf
    simp only [Bool.not_true, cond_f]
    cases hk : gI y.cells 4 != 1 with
    | true => rfl
    | false =>
      simp only [cond_f]
      have hlen : qob p.v p.hi p.lo p.bits = some (qn p.v) := by
        rw [q41]; unfold qwq qn
        cases p.v <;> rfl
      rw [hlen]
      simp only [oB_s]
      cases hb : qx6 p bits policy with
      | true =>
        unfold qx6 at hb
        by_cases h1 : bits < p.bits
        · simp only [h1, decide_true, cond_t]; rfl
        · simp only [h1, decide_false, cond_f, Bool.false_or] at hb ⊢
          rw [hb]; rfl
      | false =>
        unfold qx6 at hb
        by_cases h1 : bits < p.bits
        · simp [h1] at hb
        · simp only [h1, decide_false, cond_f, Bool.false_or] at hb ⊢
          rw [hb]
          simp only [cond_f]
          simp only [Bool.or_eq_false_iff, decide_eq_false_iff_not] at hb
          obtain ⟨⟨h2, h3⟩, h4⟩ := hb
          have hF := qbnd hg hn hp
          have e1 : qo6 l p.v p.hi p.lo p.bits = some ((frQ l p).map Pq.av) := by
            rw [qb4x l hl hg hn p]
            unfold qbgs
            rw [hf]
            have : (gI y.cells 4 == 1) = true := by simpa using hk
            simp only [this, cond_t]; rfl
          rw [e1]
          simp only [oB_s]
          have fin : ∀ b : Int → Int → Bool, qgg policy = b → (bif (!(outQ (qey b bits none (frQ l p))).2) then (some (qo1, (22 : Int))) else qb3j policy bits (outQ (qey b bits none (frQ l p))).1) = some (qbnc l p bits policy) := by
            intro b hb
            unfold qbnc
            rw [hb]
            cases hq : qey b bits none (frQ l p) with
            | none => rfl
            | some q =>
              rcases qbaw hq with h | ⟨h, h'⟩
              · cases h
              · obtain ⟨qg, qs⟩ := qb1c hg hp h
                have hv : q.v = p.v := qs.1
                simp only [outQ, Bool.not_true, cond_f]
                exact qb7l qg h' (by rw [hv]; omega)
          have hpol : policy = 1 ∨ policy = 2 ∨ policy = 3 := by omega
          rcases hpol with rfl | rfl | rfl
          · refine Eq.trans ?_ (fin (fun _ _ => false) (by funext a b; rfl))
            rw [q9l _ (by omega)]; rfl
          · refine Eq.trans ?_ (fin (fun a b => decide (a > b)) (by funext a b; rfl))
            rw [q9m _ (by omega)]; rfl
          · refine Eq.trans ?_ (fin (fun a b => decide (a < b)) (by funext a b; rfl))
            rw [q9n _ (by omega)]; rfl
theorem qb7m {q : Pq} (hq : q.good) {policy bits : Int} (h1 : q.bits ≤ bits) (h2 : bits ≤ qn q.v) (a : Bool) (b c d : Int) :
    qhe bits policy a b c d (gB q.av.cells 0) (gI q.av.cells 1) (gI q.av.cells 2) (gI q.av.cells 3) (fun b1_0 b1_1 b1_2 b1_3 => (oB (qgj b1_0 b1_1 b1_2 b1_3 bits (0 : Int)) fun r11 => (some ((.agg [(.bool (gB r11.1.cells 0)), (.int .u64 (gI r11.1.cells 1)), (.int .u64 (gI r11.1.cells 2)), (.int .i64 (gI r11.1.cells 3))]), (0 : Int))))) = some (mkP (qki policy bits q).v (qki policy bits q).hi (qki policy bits q).lo bits, 0) := by
  rw [qxy]; unfold qqb
  obtain ⟨w0, w1, w2, w3⟩ := av_w q
  rw [w0, w1, w2, w3]
  obtain ⟨sg, sb, sv⟩ := qbgv (policy := policy) hq h1 h2
  have sp := qb2p sg sb (by rw [sv]; exact h2)
  unfold qki at *
  by_cases hp3 : policy = 3
  · by_cases hlt : q.bits < bits
    · have hh := qbne hq hlt h2
      have c : (policy == 3 && decide (q.bits < bits)) = true := by simp [hp3, hlt]
      rw [c] at sg sp ⊢
      simp only [cond_t] at sg sp ⊢
      rw [qbxz _ _ _ _ hq.2.1 hq.2.2]
      have hv : qsm q.v q.hi q.lo q.bits = (q.low.av, q.high.av, true) := by
        unfold qsm
        rw [show qmj q.v q.hi q.lo q.bits = true from hh]; rfl
      rw [hv]
      simp only [oB_s]
      obtain ⟨z0, z1, z2, z3⟩ := av_w q.high
      rw [z0, z1, z2, z3, qbgq sg.2.1 sg.2.2, sp]
      rfl
    · have c : (policy == 3 && decide (q.bits < bits)) = false := by simp [hlt]
      rw [c] at sg sp ⊢
      simp only [cond_f] at sg sp ⊢
      rw [qbgq hq.2.1 hq.2.2, sp]; rfl
  · have c : (policy == 3 && decide (q.bits < bits)) = false := by simp [hp3]
    rw [c] at sg sp ⊢
    simp only [cond_f] at sg sp ⊢
    rw [qbgq hq.2.1 hq.2.2, sp]; rfl
theorem qb78 (a b : Int) (ha : 0 ≤ a ∧ a ≤ 128) (hb : 0 ≤ b ∧ b ≤ 128) : decide (IntKind.i64.wrap (IntKind.i64.wrap (a - b) * 0) > 0) = qgg 1 a b := by
  rw [w64 (i := a - b) (by omega) (by omega), w64 (by omega) (by omega)]
  have : ¬ ((a - b) * 0 > 0) := by omega
  simp only [this, decide_false]; rfl
theorem qb79 (a b : Int) (ha : 0 ≤ a ∧ a ≤ 128) (hb : 0 ≤ b ∧ b ≤ 128) : decide (IntKind.i64.wrap (IntKind.i64.wrap (a - b) * 1) > 0) = qgg 2 a b := by
  rw [w64 (i := a - b) (by omega) (by omega), w64 (by omega) (by omega)]
  show _ = decide (a > b)
  by_cases h : a > b
  · have : (a - b) * 1 > 0 := by omega
    simp only [this, h, decide_true]
  · have : ¬ ((a - b) * 1 > 0) := by omega
    simp only [this, h, decide_false]
theorem qb4z (a b : Int) (ha : 0 ≤ a ∧ a ≤ 128) (hb : 0 ≤ b ∧ b ≤ 128) : decide (IntKind.i64.wrap (IntKind.i64.wrap (a - b) * (-1)) > 0) = qgg 3 a b := by
  rw [w64 (i := a - b) (by omega) (by omega), w64 (by omega) (by omega)]
  show _ = decide (a < b)
  by_cases h : a < b
  · have : (a - b) * (-1) > 0 := by omega
    simp only [this, h, decide_true]
  · have : ¬ ((a - b) * (-1) > 0) := by omega
    simp only [this, h, decide_false]
theorem qb1d {l : List AV} (hg : qfp l) {p : Pq} (hp : p.good) : ∀ q, q ∈ frQ l p → 0 ≤ q.bits ∧ q.bits ≤ 128 := fun q hq => by
  obtain ⟨a1, a2, _⟩ := (qb1c hg hp hq).1.range
  have := qhg q.v
  omega
theorem qb1e {l : List AV} (hl : qcc l) (hg : qfp l) (hn : l.length ≤ 1000) {p : Pq} {y : AV} (hf : l.find? (atP p.v p.hi p.lo p.bits) = some y) (hk : (gI y.cells 4 != 1) = false) : ql7 l p.v p.hi p.lo p.bits = some ((frQ l p).map Pq.av) := by
  rw [qb7k l hl hg hn p]
  unfold qbgs
  rw [hf]
  have : (gI y.cells 4 == 1) = true := by simpa using hk
  simp only [this, cond_t]; rfl
theorem qbx3 (l : List AV) (hl : qcc l) (hg : qfp l) (hn : l.length ≤ 1000) (p : Pq) (bits policy : Int) : ql2 l p.v p.hi p.lo p.bits bits policy = some (qe9 l p bits policy) := by
  rw [q5f]; unfold qxf qe9
  rw [qbm8 l hl, oB_s]
  cases hf : l.find? (atP p.v p.hi p.lo p.bits) with
  | none => rw [qbgt hf]; rfl
  | some y =>
    rw [q7w hl hf]
    obtain ⟨hp, _⟩ := qvr hg hf
    simp only [Bool.not_true, cond_f]
    cases hk : gI y.cells 4 != 1 with
    | true => rfl
    | false =>
      simp only [cond_f]
      have hlen : qoh p.v p.hi p.lo p.bits = some (qn p.v) := by
        rw [q5a]; unfold qxa qn
        cases p.v <;> rfl
      rw [qzq]; unfold qre
      rw [hlen]
      have e0 : (bif decide (bits ≥ p.bits) then (oB (some (qn p.v)) fun r1 => some (decide (bits ≤ r1))) else some false) = some (decide (bits ≥ p.bits) && decide (bits ≤ qn p.v)) := by
        by_cases h : bits ≥ p.bits
        · simp only [h, decide_true, cond_t, oB_s, Bool.true_and]
        · simp only [h, decide_false, cond_f, Bool.false_and]
      rw [e0]
      simp only [oB_s]
      have e1 : (((!(decide (bits ≥ p.bits) && decide (bits ≤ qn p.v))) || decide (policy < 1)) || decide (policy > 3)) = qx6 p bits policy := by
        unfold qx6
        by_cases a : bits < p.bits
        · have : ¬ bits ≥ p.bits := by omega
          simp [a, this]
        · have : bits ≥ p.bits := by omega
          by_cases b : bits > qn p.v
          · have hb : ¬ bits ≤ qn p.v := by omega
            simp [a, b, this, hb]
          · have hb : bits ≤ qn p.v := by omega
            simp [a, b, this, hb]
      rw [e1]
      cases hb : qx6 p bits policy with
      | true => rfl
      | false =>
        simp only [cond_f]
        unfold qx6 at hb
        simp only [Bool.or_eq_false_iff, decide_eq_false_iff_not] at hb
        obtain ⟨h1, ⟨h2, h3⟩, h4⟩ := hb
        have hF := qbnd hg hn hp
        have fin : (bif (!(outQ (qey (qgg policy) bits none (frQ l p))).2) then (some (qo1, (22 : Int))) else qhe bits policy false 0 0 0 (gB (outQ (qey (qgg policy) bits none (frQ l p))).1.cells 0) (gI (outQ (qey (qgg policy) bits none (frQ l p))).1.cells 1) (gI (outQ (qey (qgg policy) bits none (frQ l p))).1.cells 2) (gI (outQ (qey (qgg policy) bits none (frQ l p))).1.cells 3) (fun b1_0 b1_1 b1_2 b1_3 => (oB (qgj b1_0 b1_1 b1_2 b1_3 bits (0 : Int)) fun r11 => (some ((.agg [(.bool (gB r11.1.cells 0)), (.int .u64 (gI r11.1.cells 1)), (.int .u64 (gI r11.1.cells 2)), (.int .i64 (gI r11.1.cells 3))]), (0 : Int)))))) = some (qbnc l p bits policy) := by
          unfold qbnc
          cases hq : qey (qgg policy) bits none (frQ l p) with
          | none => rfl
          | some q =>
            rcases qbaw hq with h | ⟨h, h'⟩
            · cases h
            · obtain ⟨qg, qs⟩ := qb1c hg hp h
              have hv : q.v = p.v := qs.1
              simp only [outQ, Bool.not_true, cond_f]
              exact qb7m qg h' (by rw [hv]; omega) _ _ _ _
        have hb := qb1d hg hp
        have hpol : policy = 1 ∨ policy = 2 ∨ policy = 3 := by omega
        rw [qxu]; unfold qp9
        simp only [qxw]; unfold qqa
        rw [qb1e hl hg hn hf hk]
        rcases hpol with rfl | rfl | rfl
        · refine Eq.trans ?_ fin
          show (oB (qgu ((frQ l p).map Pq.av) bits 0) fun r6 => _) = _
          rw [qbnb _ (by omega) bits 0 (qgg 1) hb qb78]; rfl
        · refine Eq.trans ?_ fin
          show (oB (qgu ((frQ l p).map Pq.av) bits 1) fun r6 => _) = _
          rw [qbnb _ (by omega) bits 1 (qgg 2) hb qb79]; rfl
        · refine Eq.trans ?_ fin
          show (oB (qgu ((frQ l p).map Pq.av) bits (-1)) fun r6 => _) = _
          rw [qbnb _ (by omega) bits (-1) (qgg 3) hb qb4z]; rfl
end Go.Proofs.Ytmfghgaboaocgaa.Dn
