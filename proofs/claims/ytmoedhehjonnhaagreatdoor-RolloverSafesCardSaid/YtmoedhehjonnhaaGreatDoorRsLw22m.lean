/- Safe tells of all pairs of times. -/
import Derived.Test.YtmoedhehjonnhaaGreatDoorRsLw22k
set_option linter.all false
namespace Go.Proofs.YtmoedhehjonnhaaGreatDoor.Dn
open Go Go.Pev
set_option linter.unusedVariables false
set_option linter.unusedSimpArgs false
set_option maxRecDepth 8000
theorem qbk2 (l : List Int) (P : Int → Prop) (h : ∃ x, x ∈ l ∧ P x) : ∃ x, x ∈ l ∧ P x ∧ ∀ y, y ∈ l → P y → x ≤ y := by
  induction l with
  | nil => obtain ⟨x, h, _⟩ := h; simp at h
  | cons a l ih =>
    by_cases hl : ∃ x, x ∈ l ∧ P x
    · obtain ⟨x, h1, h2, h3⟩ := ih hl
      by_cases ha : P a ∧ a ≤ x
      · exact ⟨a, by simp, ha.1, fun y hy hp => by
          rcases List.mem_cons.1 hy with rfl | hy
          · omega
          · have := h3 y hy hp; omega⟩
      · refine ⟨x, by simp [h1], h2, fun y hy hp => ?_⟩
        rcases List.mem_cons.1 hy with rfl | hy
        · by_cases hx : x ≤ y
          · exact hx
          · exact absurd ⟨hp, by omega⟩ ha
        · exact h3 y hy hp
    · obtain ⟨x, h1, h2⟩ := h
      rcases List.mem_cons.1 h1 with rfl | h1
      · exact ⟨x, by simp, h2, fun y hy hp => by
          rcases List.mem_cons.1 hy with rfl | hy
          · omega
          · exact absurd ⟨y, hy, hp⟩ hl⟩
      · exact absurd ⟨x, h1, h2⟩ hl
theorem qbk3 (l : List Int) (P : Int → Prop) (h : ∃ x, x ∈ l ∧ P x) : ∃ x, x ∈ l ∧ P x ∧ ∀ y, y ∈ l → P y → y ≤ x := by
  obtain ⟨x, h1, h2⟩ := h
  obtain ⟨y, h3, h4, h5⟩ := qbk2 (l.map fun x => -x) (fun x => P (-x)) ⟨-x, List.mem_map.2 ⟨x, h1, rfl⟩, by simpa using h2⟩
  obtain ⟨z, h6, rfl⟩ := List.mem_map.1 h3
  refine ⟨z, h6, by simpa using h4, fun v hv hp => ?_⟩
  have := h5 (-v) (List.mem_map.2 ⟨v, hv, rfl⟩) (by simpa using hp)
  omega
def qc7 (L : List Mg) : List Int := L.flatMap Mg.ts
def Same (L : List Mg) (t s : Int) : Prop := ∀ x, x ∈ qc7 L → (x ≤ t ↔ x ≤ s)
theorem qbk4 {L : List Mg} {e : Mg} (he : e ∈ L) : e.p ∈ qc7 L ∧ e.a ∈ qc7 L ∧ e.r ∈ qc7 L ∧ e.m ∈ qc7 L := by
  unfold qc7
  simp only [List.mem_flatMap]
  exact ⟨⟨e, he, by simp [Mg.ts]⟩, ⟨e, he, by simp [Mg.ts]⟩, ⟨e, he, by simp [Mg.ts]⟩, ⟨e, he, by simp [Mg.ts]⟩⟩
theorem Same.sig {L : List Mg} {t s : Int} (h : Same L t s) {e : Mg} (he : e ∈ L) : mSig e t = mSig e s := by
  obtain ⟨h1, h2, h3, h4⟩ := qbk4 he
  have ha := h _ h2
  have hr := h _ h3
  unfold mSig
  rw [Bool.eq_iff_iff]
  simp only [Bool.and_eq_true, decide_eq_true_eq]
  omega
theorem Same.pub {L : List Mg} {t s : Int} (h : Same L t s) {e : Mg} (he : e ∈ L) : mPub e t = mPub e s := by
  obtain ⟨h1, h2, h3, h4⟩ := qbk4 he
  have ha := h _ h1
  have hr := h _ h4
  unfold mPub
  rw [Bool.eq_iff_iff]
  simp only [Bool.and_eq_true, decide_eq_true_eq]
  omega
theorem qbf6 {α : Type} (l : List α) (p q : α → Bool) (h : ∀ x, x ∈ l → p x = q x) : l.any p = l.any q := by
  rw [Bool.eq_iff_iff, List.any_eq_true, List.any_eq_true]
  constructor
  · rintro ⟨x, h1, h2⟩; exact ⟨x, h1, by rw [← h x h1]; exact h2⟩
  · rintro ⟨x, h1, h2⟩; exact ⟨x, h1, by rw [h x h1]; exact h2⟩
theorem qq4 {L : List Mg} {t1 t2 s1 s2 : Int} (h1 : Same L t1 s1) (h2 : Same L t2 s2) : qfm L t1 t2 = qfm L s1 s2 := by
  unfold qfm
  rw [qbf6 L (sv1 t1 t2) (sv1 s1 s2) (fun e he => by unfold sv1; rw [h1.sig he, h2.pub he]), qbf6 L (sv2 t1 t2) (sv2 s1 s2) (fun e he => by unfold sv2; rw [h1.sig he, h2.sig he])]
def q46 (L : List Mg) (w f u : Int) : Prop := ∀ t1 t2, f ≤ t1 → t1 ≤ u → f ≤ t2 → t2 ≤ u → t1 - t2 ≤ w → t2 - t1 ≤ w → qfm L t1 t2 = true
theorem qbhs {L : List Mg} {f u x d : Int} (hx : x ∈ qc7 L) (hd : d = x - 1 ∨ d = x ∨ d = x + 1) (h1 : f ≤ d) (h2 : d ≤ u) : d ∈ momS f u L := by
  rw [qqs, List.mem_append]
  refine .inr ?_
  unfold qc7 at hx
  obtain ⟨e, he, hx⟩ := List.mem_flatMap.1 hx
  unfold momL
  refine List.mem_flatMap.2 ⟨e, he, List.mem_flatMap.2 ⟨x, hx, ?_⟩⟩
  unfold qpw
  refine List.mem_filter.2 ⟨by simp; omega, by simp; omega⟩
theorem qbht {L : List Mg} {f u t : Int} (hfu : f ≤ u) (h : t ∈ momS f u L) : f ≤ t ∧ t ≤ u := by
  have := qbf4 f u L t h
  rw [List.mem_append] at this
  rcases this with h | h
  · simp at h; omega
  · unfold momL at h
    obtain ⟨e, _, h⟩ := List.mem_flatMap.1 h
    obtain ⟨x, _, h⟩ := List.mem_flatMap.1 h
    unfold qpw at h
    have := (List.mem_filter.1 h).2
    simp at this
    omega
theorem qbhu {L : List Mg} {f u t : Int} (h1 : f ≤ t) (h2 : t ≤ u) : ∃ s, s ∈ momS f u L ∧ t ≤ s ∧ s ≤ u ∧ Same L t s ∧ ∀ x, x ∈ qc7 L → t < x → x ≤ u → s < x := by
  by_cases h : ∃ x, x ∈ qc7 L ∧ (t < x ∧ x ≤ u)
  · obtain ⟨x, h3, ⟨h4, h5⟩, h6⟩ := qbk2 (qc7 L) (fun x => t < x ∧ x ≤ u) h
    refine ⟨x - 1, qbhs h3 (.inl rfl) (by omega) (by omega), by omega, by omega, fun y hy => ?_, fun y hy h7 h8 => ?_⟩
    · constructor
      · omega
      · intro h7
        by_cases h8 : t < y
        · have := h6 y hy ⟨h8, by omega⟩; omega
        · omega
    · have := h6 y hy ⟨h7, h8⟩; omega
  · refine ⟨u, (qqs f u L u).2 (by simp), h2, by omega, fun y hy => ?_, fun y hy h7 h8 => absurd ⟨y, hy, h7, h8⟩ h⟩
    constructor
    · omega
    · intro h7
      by_cases h8 : t < y
      · exact absurd ⟨y, hy, h8, h7⟩ h
      · omega
theorem qbf7 {L : List Mg} {f u t : Int} (h1 : f ≤ t) (h2 : t ≤ u) : ∃ s, s ∈ momS f u L ∧ s ≤ t ∧ f ≤ s ∧ Same L t s ∧ ∀ x, x ∈ qc7 L → x ≤ t → f ≤ x → x ≤ s := by
  by_cases h : ∃ x, x ∈ qc7 L ∧ (f ≤ x ∧ x ≤ t)
  · obtain ⟨x, h3, ⟨h4, h5⟩, h6⟩ := qbk3 (qc7 L) (fun x => f ≤ x ∧ x ≤ t) h
    refine ⟨x, qbhs h3 (.inr (.inl rfl)) (by omega) (by omega), by omega, by omega, fun y hy => ?_, fun y hy h7 h8 => h6 y hy ⟨h8, h7⟩⟩
    constructor
    · intro h7
      by_cases h8 : f ≤ y
      · exact h6 y hy ⟨h8, h7⟩
      · omega
    · omega
  · refine ⟨f, (qqs f u L f).2 (by simp), h1, by omega, fun y hy => ?_, fun y hy h7 h8 => absurd ⟨y, hy, h8, h7⟩ h⟩
    constructor
    · intro h7
      by_cases h8 : f ≤ y
      · exact absurd ⟨y, hy, h8, h7⟩ h
      · omega
    · omega
theorem q47 {w a b : Int} : q1a w a b = true ↔ a - b ≤ w ∧ b - a ≤ w := by
  unfold q1a
  rw [decide_eq_true_eq]
  split <;> split <;> omega
theorem qbc4 {L : List Mg} {w a b : Int} : qpx L w a b = true ↔ (a - b ≤ w → b - a ≤ w → qfm L a b = true) := by
  unfold qpx
  rw [Bool.or_eq_true]
  constructor
  · rintro (h | h) h1 h2
    · have := q47.2 ⟨h1, h2⟩
      rw [this] at h
      cases h
    · exact h
  · intro h
    by_cases hn : q1a w a b = true
    · exact .inr (h (q47.1 hn).1 (q47.1 hn).2)
    · left; simp at hn; simp [hn]
theorem qbmo {L : List Mg} {w f u : Int} (hw : 0 ≤ w) (hfu : f ≤ u) : ((momS f u L).all fun t1 => (momS f u L).all fun t2 => qpx L w t1 t2) = true ↔ q46 L w f u := by
  simp only [List.all_eq_true]
  constructor
  · intro h t1 t2 a1 a2 b1 b2 n1 n2
    have key : ∀ s1 s2, s1 ∈ momS f u L → s2 ∈ momS f u L → Same L t1 s1 → Same L t2 s2 → s1 - s2 ≤ w → s2 - s1 ≤ w → qfm L t1 t2 = true := by
      intro s1 s2 m1 m2 e1 e2 d1 d2
      rw [qq4 e1 e2]
      exact qbc4.1 (h s1 m1 s2 m2) d1 d2
    obtain ⟨f1, q1, q2, q3, q4, q5⟩ := qbf7 (L := L) a1 a2
    obtain ⟨f2, r1, r2, r3, r4, r5⟩ := qbf7 (L := L) b1 b2
    obtain ⟨c1, x1, x2, x3, x4, x5⟩ := qbhu (L := L) a1 a2
    obtain ⟨c2, y1, y2, y3, y4, y5⟩ := qbhu (L := L) b1 b2
    by_cases hlt : ∃ x, x ∈ qc7 L ∧ ((t1 < x ∧ x ≤ t2) ∨ (t2 < x ∧ x ≤ t1))
    · obtain ⟨x, hx, hx1 | hx1⟩ := hlt
      · have := x5 x hx hx1.1 (by omega)
        have := r5 x hx hx1.2 (by omega)
        exact key c1 f2 x1 r1 x4 r4 (by omega) (by omega)
      · have := y5 x hx hx1.1 (by omega)
        have := q5 x hx hx1.2 (by omega)
        exact key f1 c2 q1 y1 q4 y4 (by omega) (by omega)
    · refine key f1 f1 q1 q1 q4 (fun x hx => ?_) (by omega) (by omega)
      have h3 := q4 x hx
      constructor
      · intro h4
        by_cases h5 : x ≤ t1
        · exact h3.1 h5
        · exact absurd ⟨x, hx, .inl ⟨by omega, h4⟩⟩ hlt
      · intro h4
        have h5 := h3.2 h4
        by_cases h6 : x ≤ t2
        · exact h6
        · exact absurd ⟨x, hx, .inr ⟨by omega, h5⟩⟩ hlt
  · intro h t1 m1 t2 m2
    rw [qbc4]
    intro d1 d2
    have r1 := qbht hfu m1
    have r2 := qbht hfu m2
    exact h t1 t2 r1.1 r1.2 r2.1 r2.2 d1 d2
theorem qbk5 {L : List Mg} {w f u : Int} (hc : chk L = 0) (hr : qi6 w f u = false) : qpy L w f u = true ↔ q46 L w f u := by
  have hr0 := hr
  unfold qi6 at hr0
  simp only [Bool.or_eq_false_iff, decide_eq_false_iff_not] at hr0
  unfold qpy
  rw [hc, hr]
  exact qbmo (by omega) (by omega)
end Go.Proofs.YtmoedhehjonnhaaGreatDoor.Dn
