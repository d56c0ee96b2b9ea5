/- Tables of blocks: BlocksHold. -/
import Derived.Test.YtmjdngnagiloeaaBhLw46u
set_option linter.all false
namespace Go.Proofs.Ytmjdngnagiloeaa.Dn
open Go Go.Pev
set_option linter.unusedVariables false
set_option linter.unusedSimpArgs false
set_option maxRecDepth 4000
def betR (b0 : Option AV) (y : AV) : Bool := match b0 with
  | none => true
  | some x => decide (gI y.cells 3 > gI x.cells 3)
theorem qbf4 (q : AV → Bool) (b0 : Option AV) (y : AV) (r : List AV) : qqx q b0 (y :: r) = qqx q (bif q y && betR b0 y then some y else b0) r := by cases b0 <;> rfl
theorem q5u {q : AV → Bool} {b : AV} : ∀ {l : List AV} {b0 : Option AV}, qqx q b0 l = some b → (b0 = some b ∨ b ∈ l ∧ q b = true) ∧ (∀ z, z ∈ l → q z = true → gI z.cells 3 ≤ gI b.cells 3) ∧ ∀ x, b0 = some x → gI x.cells 3 ≤ gI b.cells 3
  | [], b0, h => by
    unfold qqx at h; subst h
    exact ⟨.inl rfl, fun z hz => by simp at hz, fun x hx => by cases hx; exact Int.le_refl _⟩
  | y :: r, b0, h => by
    rw [qbf4] at h
    cases hc : (q y && betR b0 y) with
    | true =>
      rw [hc] at h
      simp only [cond_t] at h
      obtain ⟨h1, h2, h3⟩ := q5u h
      rw [Bool.and_eq_true] at hc
      have hy := h3 y rfl
      refine ⟨?_, ?_, ?_⟩
      · rcases h1 with h1 | ⟨h1, h1'⟩
        · cases h1; exact .inr ⟨by simp, hc.1⟩
        · exact .inr ⟨List.mem_cons_of_mem _ h1, h1'⟩
      · intro z hz hq
        rcases List.mem_cons.1 hz with rfl | hz
        · exact hy
        · exact h2 z hz hq
      · intro x hx
        subst hx
        have := hc.2
        simp only [betR, decide_eq_true_eq] at this
        omega
    | false =>
      rw [hc] at h
      simp only [cond_f] at h
      obtain ⟨h1, h2, h3⟩ := q5u h
      refine ⟨?_, ?_, h3⟩
      · rcases h1 with h1 | ⟨h1, h1'⟩
        · exact .inl h1
        · exact .inr ⟨List.mem_cons_of_mem _ h1, h1'⟩
      · intro z hz hq
        rcases List.mem_cons.1 hz with rfl | hz
        · rw [hq] at hc
          cases b0 with
          | none => simp [betR] at hc
          | some x =>
            have := h3 x rfl
            simp only [betR, Bool.true_and, decide_eq_false_iff_not] at hc
            omega
        · exact h2 z hz hq
theorem qbf5 {q : AV → Bool} : ∀ {l : List AV} {b0 : Option AV}, qqx q b0 l = none → b0 = none ∧ ∀ z, z ∈ l → q z = false
  | [], b0, h => by unfold qqx at h; exact ⟨h, fun z hz => by simp at hz⟩
  | y :: r, b0, h => by
    rw [qbf4] at h
    obtain ⟨h1, h2⟩ := qbf5 h
    cases hq : q y with
    | true =>
      rw [hq] at h1
      cases b0 with
      | none => simp [betR] at h1
      | some x => cases hd : betR (some x) y <;> simp [hd] at h1
    | false =>
      rw [hq] at h1
      simp only [Bool.false_and, cond_f] at h1
      refine ⟨h1, fun z hz => ?_⟩
      rcases List.mem_cons.1 hz with rfl | hz
      · exact hq
      · exact h2 z hz
theorem q9e {A B : AV → Bool} : ∀ {l : List AV}, (∀ z, z ∈ l → A z = true → B z = true → False) → (l.filter fun z => A z || B z).length = (l.filter A).length + (l.filter B).length
  | [], _ => rfl
  | y :: r, h => by
    have ih := q9e (l := r) fun z hz => h z (List.mem_cons_of_mem _ hz)
    have hy := h y (by simp)
    rw [List.filter_cons, List.filter_cons, List.filter_cons]
    cases hA : A y <;> cases hB : B y <;> simp [ih] <;> first | omega | skip
    exact absurd hB (fun hB => hy hA hB)
theorem qbf6 {l : List AV} (ht : qe2 l) {y z : AV} (hy : y ∈ l) (hz : z ∈ l) (h : pqY z = pqY y) : z = y := by
  obtain ⟨i, hi⟩ := List.getElem?_of_mem hy
  obtain ⟨j, hj⟩ := List.getElem?_of_mem hz
  have h1 : atP (gB y.cells 0) (gI y.cells 1) (gI y.cells 2) (gI y.cells 3) z = true := qwa.2 h
  have := qe2.uniq ht hi hj (qnn.2 ⟨rfl, rfl, rfl, rfl⟩) h1
  subst this
  rw [hi] at hj; cases hj; rfl
def qsa (l : List AV) (b : AV) : List AV := l.filter fun z => qff (gB b.cells 0) (gI b.cells 1) (gI b.cells 2) (gI b.cells 3) (gB z.cells 0) (gI z.cells 1) (gI z.cells 2) (gI z.cells 3)
theorem qbf7 {l : List AV} (hl : qby l) (ht : qe2 l) {T : AV → Bool} (c : Np) (h1 : ∀ z, z ∈ l → T z = true → c.sub (pqY z).np) (h2 : ∀ z z', z ∈ l → z' ∈ l → T z = true → (pqY z).np.sub (pqY z').np → T z' = true) :
    (qe3 T l = (blk0, false) ∧ (l.filter T).length = 0) ∨ ∃ b, qe3 T l = (b, true) ∧ b ∈ l ∧ T b = true ∧ (l.filter T).length = (qsa l b).length + 1 := by
  have hg := qqy hl ht
  unfold qe3
  cases hb : qqx T none l with
  | none =>
    refine .inl ⟨rfl, ?_⟩
    obtain ⟨_, h3⟩ := qbf5 hb
    have : l.filter T = [] := List.filter_eq_nil_iff.2 fun z hz => by rw [h3 z hz]; simp
    rw [this]; rfl
  | some b =>
    obtain ⟨h3, h4, _⟩ := q5u hb
    rcases h3 with h3 | ⟨h3, h3'⟩
    · cases h3
    refine .inr ⟨b, rfl, h3, h3', ?_⟩
    have e : l.filter T = l.filter fun z => atY b z || qff (gB b.cells 0) (gI b.cells 1) (gI b.cells 2) (gI b.cells 3) (gB z.cells 0) (gI z.cells 1) (gI z.cells 2) (gI z.cells 3) := by
      refine List.filter_congr fun z hz => ?_
      rw [Bool.eq_iff_iff, Bool.or_eq_true]
      have hbg := hg b h3
      have hzg := hg z hz
      have li : qff (gB b.cells 0) (gI b.cells 1) (gI b.cells 2) (gI b.cells 3) (gB z.cells 0) (gI z.cells 1) (gI z.cells 2) (gI z.cells 3) = true ↔ (pqY b).np.sub (pqY z).np ∧ (pqY b).np.k < (pqY z).np.k := qqj hbg hzg
      rw [li]
      constructor
      · intro hz'
        have c1 := h1 b h3 h3'
        have c2 := h1 z hz hz'
        have hv : (pqY b).v = (pqY z).v := c1.1.symm.trans c2.1
        have hle := h4 z hz hz'
        obtain ⟨a1, a2, a3, _⟩ := hbg.range
        obtain ⟨b1, b2, b3, _⟩ := hzg.range
        rw [← hv] at b3
        have hk : (pqY b).np.k ≤ (pqY z).np.k := by
          have : (pqY z).bits ≤ (pqY b).bits := hle
          omega
        have hs := Np.nest c1 c2 hk
        rcases Nat.lt_or_ge (pqY b).np.k (pqY z).np.k with hlt | hge
        · exact .inr ⟨hs, hlt⟩
        · exact .inl (qwa.2 (qbs5 hzg hbg (Np.sub_antisymm hzg.np_ok (Np.nest c2 c1 hge) hs)))
      · rintro (h | ⟨h, _⟩)
        · rw [qbf6 ht h3 hz (qwa.1 h)]; exact h3'
        · exact h2 b z h3 hz h3' h
    rw [e, q9e]
    · have h5 : (l.filter fun z => atY b z).length = 1 := by
        have r1 := qbq8 ht h3
        have r2 : (l.filter fun z => atY b z).length + (l.filter fun z => !atY b z).length = l.length := by
          have := q9e (A := fun z => atY b z) (B := fun z => !atY b z) (l := l) (fun z _ a b => by rw [a] at b; cases b)
          rw [← this, qbf3 (fun z _ => by cases atY b z <;> rfl)]
        have r3 : (remF l (pqY b).v (pqY b).hi (pqY b).lo (pqY b).bits) = l.filter fun z => !atY b z := rfl
        rw [r3] at r1
        omega
      rw [h5]; unfold qsa; omega
    · intro z hz a b'
      have := qwa.1 a
      have hl' : (pqY b).np.sub (pqY z).np ∧ (pqY b).np.k < (pqY z).np.k := (qqj (hg b h3) (hg z hz)).1 b'
      rw [this] at hl'; omega
theorem q02 {z : AV} (hz : (pqY z).good) {w : Bool} {ahi alo : Int} (u3 : uok ahi) (u4 : uok alo) : qmn (gB z.cells 0) (gI z.cells 1) (gI z.cells 2) (gI z.cells 3) w ahi alo = true ↔ qmm w ahi alo = true ∧ (⟨w, numP ahi alo, 0⟩ : Np).sub (pqY z).np := by
  refine (qbi2 (v6 := gB z.cells 0) (hi := gI z.cells 1) (lo := gI z.cells 2) (bits := gI z.cells 3) hz.2.1 hz.2.2 u3 u4).trans ?_
  unfold Np.sub
  constructor
  · rintro ⟨_, h2, h3, h4⟩; exact ⟨h2, h3.symm, Nat.zero_le _, h4.symm⟩
  · rintro ⟨h1, h2, _, h4⟩; exact ⟨hz.1, h1, h2.symm, h4.symm⟩
def hasA (w : Bool) (ahi alo : Int) (z : AV) : Bool := qmn (gB z.cells 0) (gI z.cells 1) (gI z.cells 2) (gI z.cells 3) w ahi alo
theorem qbor {l : List AV} (hl : qby l) (hn : l.length ≤ 1000) (w : Bool) (ahi alo : Int) (kx : Int → Option Bool) :
    qfz l l (l.length : Int) w ahi alo kx FU 0 0 = kx ((l.filter (hasA w ahi alo)).length : Int) := by
  rw [qoo]
  have key := qh2 (σ := Int) l hl.1 (fun n i s => qgz l l (l.length : Int) w ahi alo kx n s i) (fun i s nx => qeh l s l (l.length : Int) i w ahi alo (fun a b => nx b a) kx) (fun _ _ _ => rfl)
    (fun i s => 0 ≤ s ∧ s ≤ i) (fun r s => kx (s + ((r.filter (hasA w ahi alo)).length : Int))) ?_ ?_ 0 FU (by omega) (qml (by have := hl.1; omega))
  · rw [key]; simp
  · intro s nx _; simp [qeh]
  · intro i y r s nx g1 g2 g3 g4 h2 h5
    have hy := hl.2 y (List.mem_of_getElem? g2)
    have h6 : (i : Int) < (l.length : Int) := by omega
    unfold qeh
    simp only [h6, decide_true, cond_t, ixB_nat, g2, oB_s, hy.1, qwk, g4, w64 (i := s + 1) (by omega) (by omega)]
    rw [List.filter_cons, show qmn (gB y.cells 0) (gI y.cells 1) (gI y.cells 2) (gI y.cells 3) w ahi alo = hasA w ahi alo y from rfl]
    cases hasA w ahi alo y with
    | true =>
      simp only [cond_t, if_true]
      rw [h5 (s + 1) (by omega)]
      congr 1; simp; omega
    | false =>
      simp only [cond_f, Bool.false_eq_true, if_false]
      exact h5 s (by omega)
theorem q9f {l : List AV} (hl : qby l) (hn : l.length ≤ 1000) (ht : qe2 l) (w : Bool) (ahi alo : Int) (u3 : uok ahi) (u4 : uok alo) (m : Int) (hm : m ≤ l.length) (kx : Int → Option Bool) :
    ∀ (n : Nat) (ok : Bool) (k : Int) (y : AV), (ok = true → y ∈ l ∧ hasA w ahi alo y = true ∧ k + ((qsa l y).length : Int) + 1 = m) → (ok = false → k = m) → 0 ≤ k → k ≤ m → (m + 1 - k).toNat < n →
      qej l m w ahi alo kx n ok k (gB y.cells 0) (gI y.cells 1) (gI y.cells 2) (gI y.cells 3) (gI y.cells 4) (gS y.cells 5) (gS y.cells 6) (gI y.cells 7) = kx m
  | 0, _, _, _, _, _, _, _, h => by omega
  | n + 1, ok, k, y, h1, h2, h3, h4, h5 => by
    show qfd l m ok k w ahi alo (gB y.cells 0) (gI y.cells 1) (gI y.cells 2) (gI y.cells 3) (gI y.cells 4) (gS y.cells 5) (gS y.cells 6) (gI y.cells 7) (qej l m w ahi alo kx n) kx = kx m
    unfold qfd
    cases ok with
    | false => simp only [Bool.false_and, cond_f]; rw [h2 rfl]
    | true =>
      obtain ⟨hy, ha, hc⟩ := h1 rfl
      have hg := qqy hl ht
      have hyg := hg y hy
      have hk : decide (k ≤ (l.length : Int)) = true := by simp; omega
      have hfd : l.find? (atP (gB y.cells 0) (gI y.cells 1) (gI y.cells 2) (gI y.cells 3)) = some y := qbp5 hy (qnn.2 ⟨rfl, rfl, rfl, rfl⟩) fun z hz hq => qbf6 ht hy hz (qwa.1 hq)
      simp only [hk, Bool.and_self, cond_t, qbhv l hl, quy hl hfd, oB_s]
      rw [qoq]; unfold qle
      simp only [beq_self_eq_true, Bool.and_self, Bool.not_true, Bool.or_self, cond_f, qwk, oB_s]
      rw [show qmn (gB y.cells 0) (gI y.cells 1) (gI y.cells 2) (gI y.cells 3) w ahi alo = true from ha]
      simp only [Bool.not_true, cond_f, qbmi l hl, oB_s]
      rw [w64 (i := k + 1) (by omega) (by omega)]
      have hT := qbf7 hl ht (T := fun z => qff (gB y.cells 0) (gI y.cells 1) (gI y.cells 2) (gI y.cells 3) (gB z.cells 0) (gI z.cells 1) (gI z.cells 2) (gI z.cells 3)) (pqY y).np
        (fun z hz hz' => ((qqj (q := pqY z) hyg (hg z hz)).1 hz').1)
        (fun z z' hz hz0 hz' hs => (qqj (q := pqY z') hyg (hg z' hz0)).2 (by
          obtain ⟨a, b⟩ := (qqj (q := pqY z) hyg (hg z hz)).1 hz'
          exact ⟨Np.sub_trans a hs, Nat.lt_of_lt_of_le b hs.2.1⟩))
      rcases hT with ⟨e, ec⟩ | ⟨up, e, hup, hl', ec⟩
      · rw [e]
        rw [qky]; unfold qg1
        simp only [cond_f]
        have hz : ((qsa l y).length : Int) = 0 := by rw [show qsa l y = l.filter _ from rfl, ec]; rfl
        exact q9f hl hn ht w ahi alo u3 u4 m hm kx n false (k + 1) blk0 (fun h => by cases h) (fun _ => by omega) (by omega) (by omega) (by omega)
      · rw [e]
        rw [qky]; unfold qg1
        obtain ⟨s1, s2⟩ := (qqj (q := pqY up) hyg (hg up hup)).1 hl'
        have hbk := (qbh1 hyg (hg up hup)).1 (qe2.bars hl ht hy hup) s1 s2
        have hb : ¬ gI up.cells 3 ≥ gI y.cells 3 := by
          have := hl'
          unfold qff at this
          rw [Bool.and_eq_true, decide_eq_true_eq] at this
          omega
        have hkinds : gI up.cells 4 ≠ 3 ∧ (gI up.cells 4 = 2 → gI y.cells 4 = 3) := by
          unfold barK at hbk
          constructor
          · intro h; rw [h] at hbk; simp at hbk
          · intro h; rw [h] at hbk; simpa using hbk
        have hk3 : (gI up.cells 4 == 3) = false := by simpa using hkinds.1
        simp only [cond_t, hb, decide_false, cond_f, hk3]
        have last := q9f hl hn ht w ahi alo u3 u4 m hm kx n true (k + 1) up (fun _ => ⟨hup, ?_, ?_⟩) (fun h => by cases h) (by omega) ?_ (by omega)
        · cases hk2 : gI up.cells 4 == 2 with
          | true =>
            have : (gI y.cells 4 != 3) = false := by simpa using hkinds.2 (by simpa using hk2)
            rw [this]; simp only [cond_t, cond_f]; exact last
          | false => simp only [cond_f]; exact last
        · obtain ⟨a1, a2⟩ := (q02 hyg u3 u4).1 ha
          exact (q02 (hg up hup) u3 u4).2 ⟨a1, Np.sub_trans a2 s1⟩
        · have : (qsa l y).length = (qsa l up).length + 1 := ec
          omega
        · have : (qsa l y).length = (qsa l up).length + 1 := ec
          omega
theorem law46H (l : List AV) (hl : qby l) (w : Bool) (ahi alo : Int) (u3 : uok ahi) (u4 : uok alo) : qgc l w ahi alo = some true := by
  rw [qry]; unfold qni
  have hf := qbsh hl
  have hlen := qbsi l
  simp only [qbtr l hl, oB_s, qbmd _ hf]
  generalize fewF l = L at *
  by_cases hc : quv L = 0
  · have ht := (q16 (by omega)).1 hc
    have hg := qqy hf ht
    rw [hc]
    simp only [bne_self_eq_false, cond_f, qbor hf (by omega), qbmj L hf, oB_s]
    have hT := qbf7 hf ht (T := hasA w ahi alo) ⟨w, numP ahi alo, 0⟩
      (fun z hz hz' => ((q02 (hg z hz) u3 u4).1 hz').2)
      (fun z z' hz hz0 hz' hs => by
        obtain ⟨a, b⟩ := (q02 (hg z hz) u3 u4).1 hz'
        exact (q02 (hg z' hz0) u3 u4).2 ⟨a, Np.sub_trans b hs⟩)
    rw [qos]
    have hm := List.length_filter_le (hasA w ahi alo) L
    have fin : ∀ (r : AV × Bool), (r.2 = true → r.1 ∈ L ∧ hasA w ahi alo r.1 = true ∧ 0 + ((qsa L r.1).length : Int) + 1 = ((L.filter (hasA w ahi alo)).length : Int)) → (r.2 = false → (0 : Int) = ((L.filter (hasA w ahi alo)).length : Int)) → qe3 (hasA w ahi alo) L = r →
        qej L ((L.filter (hasA w ahi alo)).length : Int) w ahi alo (fun v => bif (v == ((L.filter (hasA w ahi alo)).length : Int)) then (oB (qjp) fun r => (some r)) else (some false)) FU (qe3 (hasA w ahi alo) L).2 0 (gB (qe3 (hasA w ahi alo) L).1.cells 0) (gI (qe3 (hasA w ahi alo) L).1.cells 1) (gI (qe3 (hasA w ahi alo) L).1.cells 2) (gI (qe3 (hasA w ahi alo) L).1.cells 3) (gI (qe3 (hasA w ahi alo) L).1.cells 4) (gS (qe3 (hasA w ahi alo) L).1.cells 5) (gS (qe3 (hasA w ahi alo) L).1.cells 6) (gI (qe3 (hasA w ahi alo) L).1.cells 7) = some true := by
      intro r h1 h2 h3
      rw [h3, q9f hf (by omega) ht w ahi alo u3 u4 _ (by omega) _ FU r.2 0 r.1 h1 h2 (by omega) (by omega) (Nat.lt_of_lt_of_le (by omega) (qbrl (n := 33) (by omega)))]
      simp only [beq_self_eq_true, cond_t, qbns, oB_s]
    rcases hT with ⟨e, ec⟩ | ⟨b, e, hb, hb', ec⟩
    · exact fin (blk0, false) (fun h => by cases h) (fun _ => by rw [ec]; rfl) e
    · exact fin (b, true) (fun _ => ⟨hb, hb', by rw [ec]; show (0 : Int) + ((qsa L b).length : Int) + 1 = (((qsa L b).length + 1 : Nat) : Int); omega⟩) (fun h => by cases h) e
  · have : (quv L != 0) = true := by simpa using hc
    rw [this]; simp only [cond_t, qbns, oB_s]
end Go.Proofs.Ytmjdngnagiloeaa.Dn
