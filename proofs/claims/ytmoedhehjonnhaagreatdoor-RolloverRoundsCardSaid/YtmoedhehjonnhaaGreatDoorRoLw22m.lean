/- Safe tells of all pairs of times. -/
import Derived.Test.YtmoedhehjonnhaaGreatDoorRoLw22k
set_option linter.all false
namespace Go.Proofs.YtmoedhehjonnhaaGreatDoor.Dn
open Go Go.Pev
set_option linter.unusedVariables false
set_option linter.unusedSimpArgs false
set_option maxRecDepth 8000
theorem q96 (l : List Int) (P : Int → Prop) (h : ∃ x, x ∈ l ∧ P x) : ∃ x, x ∈ l ∧ P x ∧ ∀ y, y ∈ l → P y → x ≤ y := by
  induction l with
  | nil => obtain ⟨x, h, _⟩ := h; simp at h
  | cons a l ih =>
    by_cases hl : ∃ x, x ∈ l ∧ P x
    · obtain ⟨x, h1, h2, h3⟩ := ih hl
      by_cases ha : P a ∧ a ≤ x
      · exact ⟨a, by simp, ha.1, fun y hy hp => by
          rcases List.mem_cons.1 hy with rfl | hy
          · omega
          · have := h3 y hy hp; omega⟩
      · refine ⟨x, by simp [h1], h2, fun y hy hp => ?_⟩
        rcases List.mem_cons.1 hy with rfl | hy
        · by_cases hx : x ≤ y
          · exact hx
          · exact absurd ⟨hp, by omega⟩ ha
        · exact h3 y hy hp
    · obtain ⟨x, h1, h2⟩ := h
      rcases List.mem_cons.1 h1 with rfl | h1
      · exact ⟨x, by simp, h2, fun y hy hp => by
          rcases List.mem_cons.1 hy with rfl | hy
          · omega
          · exact absurd ⟨y, hy, hp⟩ hl⟩
      · exact absurd ⟨x, h1, h2⟩ hl
theorem qbeq (l : List Int) (P : Int → Prop) (h : ∃ x, x ∈ l ∧ P x) : ∃ x, x ∈ l ∧ P x ∧ ∀ y, y ∈ l → P y → y ≤ x := by
  obtain ⟨x, h1, h2⟩ := h
  obtain ⟨y, h3, h4, h5⟩ := q96 (l.map fun x => -x) (fun x => P (-x)) ⟨-x, List.mem_map.2 ⟨x, h1, rfl⟩, by simpa using h2⟩
  obtain ⟨z, h6, rfl⟩ := List.mem_map.1 h3
  refine ⟨z, h6, by simpa using h4, fun v hv hp => ?_⟩
  have := h5 (-v) (List.mem_map.2 ⟨v, hv, rfl⟩) (by simpa using hp)
  omega
def qfm (L : List Mg) : List Int := L.flatMap Mg.ts
def Same (L : List Mg) (t s : Int) : Prop := ∀ x, x ∈ qfm L → (x ≤ t ↔ x ≤ s)
theorem q97 {L : List Mg} {e : Mg} (he : e ∈ L) : e.p ∈ qfm L ∧ e.a ∈ qfm L ∧ e.r ∈ qfm L ∧ e.m ∈ qfm L := by
  unfold qfm
  simp only [List.mem_flatMap]
  exact ⟨⟨e, he, by simp [Mg.ts]⟩, ⟨e, he, by simp [Mg.ts]⟩, ⟨e, he, by simp [Mg.ts]⟩, ⟨e, he, by simp [Mg.ts]⟩⟩
theorem Same.sig {L : List Mg} {t s : Int} (h : Same L t s) {e : Mg} (he : e ∈ L) : mSig e t = mSig e s := by
  obtain ⟨h1, h2, h3, h4⟩ := q97 he
  have ha := h _ h2
  have hr := h _ h3
  unfold mSig
  rw [Bool.eq_iff_iff]
  simp only [Bool.and_eq_true, decide_eq_true_eq]
  omega
theorem Same.pub {L : List Mg} {t s : Int} (h : Same L t s) {e : Mg} (he : e ∈ L) : mPub e t = mPub e s := by
  obtain ⟨h1, h2, h3, h4⟩ := q97 he
  have ha := h _ h1
  have hr := h _ h4
  unfold mPub
  rw [Bool.eq_iff_iff]
  simp only [Bool.and_eq_true, decide_eq_true_eq]
  omega
theorem q5n {α : Type} (l : List α) (p q : α → Bool) (h : ∀ x, x ∈ l → p x = q x) : l.any p = l.any q := by
  rw [Bool.eq_iff_iff, List.any_eq_true, List.any_eq_true]
  constructor
  · rintro ⟨x, h1, h2⟩; exact ⟨x, h1, by rw [← h x h1]; exact h2⟩
  · rintro ⟨x, h1, h2⟩; exact ⟨x, h1, by rw [h x h1]; exact h2⟩
theorem q6h {L : List Mg} {t1 t2 s1 s2 : Int} (h1 : Same L t1 s1) (h2 : Same L t2 s2) : qgz L t1 t2 = qgz L s1 s2 := by
  unfold qgz
  rw [q5n L (sv1 t1 t2) (sv1 s1 s2) (fun e he => by unfold sv1; rw [h1.sig he, h2.pub he]), q5n L (sv2 t1 t2) (sv2 s1 s2) (fun e he => by unfold sv2; rw [h1.sig he, h2.sig he])]
def qv3 (L : List Mg) (w f u : Int) : Prop := ∀ t1 t2, f ≤ t1 → t1 ≤ u → f ≤ t2 → t2 ≤ u → t1 - t2 ≤ w → t2 - t1 ≤ w → qgz L t1 t2 = true
theorem q64 {L : List Mg} {f u x d : Int} (hx : x ∈ qfm L) (hd : d = x - 1 ∨ d = x ∨ d = x + 1) (h1 : f ≤ d) (h2 : d ≤ u) : d ∈ momS f u L := by
  rw [ql6, List.mem_append]
  refine .inr ?_
  unfold qfm at hx
  obtain ⟨e, he, hx⟩ := List.mem_flatMap.1 hx
  unfold momL
  refine List.mem_flatMap.2 ⟨e, he, List.mem_flatMap.2 ⟨x, hx, ?_⟩⟩
  unfold qlk
  refine List.mem_filter.2 ⟨by simp; omega, by simp; omega⟩
theorem q65 {L : List Mg} {f u t : Int} (hfu : f ≤ u) (h : t ∈ momS f u L) : f ≤ t ∧ t ≤ u := by
  have := q5l f u L t h
  rw [List.mem_append] at this
  rcases this with h | h
  · simp at h; omega
  · unfold momL at h
    obtain ⟨e, _, h⟩ := List.mem_flatMap.1 h
    obtain ⟨x, _, h⟩ := List.mem_flatMap.1 h
    unfold qlk at h
    have := (List.mem_filter.1 h).2
    simp at this
    omega
theorem q66 {L : List Mg} {f u t : Int} (h1 : f ≤ t) (h2 : t ≤ u) : ∃ s, s ∈ momS f u L ∧ t ≤ s ∧ s ≤ u ∧ Same L t s ∧ ∀ x, x ∈ qfm L → t < x → x ≤ u → s < x := by
  by_cases h : ∃ x, x ∈ qfm L ∧ (t < x ∧ x ≤ u)
  · obtain ⟨x, h3, ⟨h4, h5⟩, h6⟩ := q96 (qfm L) (fun x => t < x ∧ x ≤ u) h
    refine ⟨x - 1, q64 h3 (.inl rfl) (by omega) (by omega), by omega, by omega, fun y hy => ?_, fun y hy h7 h8 => ?_⟩
    · constructor
      · omega
      · intro h7
        by_cases h8 : t < y
        · have := h6 y hy ⟨h8, by omega⟩; omega
        · omega
    · have := h6 y hy ⟨h7, h8⟩; omega
  · refine ⟨u, (ql6 f u L u).2 (by simp), h2, by omega, fun y hy => ?_, fun y hy h7 h8 => absurd ⟨y, hy, h7, h8⟩ h⟩
    constructor
    · omega
    · intro h7
      by_cases h8 : t < y
      · exact absurd ⟨y, hy, h8, h7⟩ h
      · omega
theorem q5o {L : List Mg} {f u t : Int} (h1 : f ≤ t) (h2 : t ≤ u) : ∃ s, s ∈ momS f u L ∧ s ≤ t ∧ f ≤ s ∧ Same L t s ∧ ∀ x, x ∈ qfm L → x ≤ t → f ≤ x → x ≤ s := by
  by_cases h : ∃ x, x ∈ qfm L ∧ (f ≤ x ∧ x ≤ t)
  · obtain ⟨x, h3, ⟨h4, h5⟩, h6⟩ := qbeq (qfm L) (fun x => f ≤ x ∧ x ≤ t) h
    refine ⟨x, q64 h3 (.inr (.inl rfl)) (by omega) (by omega), by omega, by omega, fun y hy => ?_, fun y hy h7 h8 => h6 y hy ⟨h8, h7⟩⟩
    constructor
    · intro h7
      by_cases h8 : f ≤ y
      · exact h6 y hy ⟨h8, h7⟩
      · omega
    · omega
  · refine ⟨f, (ql6 f u L f).2 (by simp), h1, by omega, fun y hy => ?_, fun y hy h7 h8 => absurd ⟨y, hy, h8, h7⟩ h⟩
    constructor
    · intro h7
      by_cases h8 : f ≤ y
      · exact absurd ⟨y, hy, h8, h7⟩ h
      · omega
    · omega
theorem qv4 {w a b : Int} : qtf w a b = true ↔ a - b ≤ w ∧ b - a ≤ w := by
  unfold qtf
  rw [decide_eq_true_eq]
  split <;> split <;> omega
theorem q2m {L : List Mg} {w a b : Int} : qll L w a b = true ↔ (a - b ≤ w → b - a ≤ w → qgz L a b = true) := by
  unfold qll
  rw [Bool.or_eq_true]
  constructor
  · rintro (h | h) h1 h2
    · have := qv4.2 ⟨h1, h2⟩
      rw [this] at h
      cases h
    · exact h
  · intro h
    by_cases hn : qtf w a b = true
    · exact .inr (h (qv4.1 hn).1 (qv4.1 hn).2)
    · left; simp at hn; simp [hn]
theorem qbbn {L : List Mg} {w f u : Int} (hw : 0 ≤ w) (hfu : f ≤ u) : ((momS f u L).all fun t1 => (momS f u L).all fun t2 => qll L w t1 t2) = true ↔ qv3 L w f u := by
  simp only [List.all_eq_true]
  constructor
  · intro h t1 t2 a1 a2 b1 b2 n1 n2
    have key : ∀ s1 s2, s1 ∈ momS f u L → s2 ∈ momS f u L → Same L t1 s1 → Same L t2 s2 → s1 - s2 ≤ w → s2 - s1 ≤ w → qgz L t1 t2 = true := by
      intro s1 s2 m1 m2 e1 e2 d1 d2
      rw [q6h e1 e2]
      exact q2m.1 (h s1 m1 s2 m2) d1 d2
    obtain ⟨f1, q1, q2, q3, q4, q5⟩ := q5o (L := L) a1 a2
    obtain ⟨f2, r1, r2, r3, r4, r5⟩ := q5o (L := L) b1 b2
    obtain ⟨c1, x1, x2, x3, x4, x5⟩ := q66 (L := L) a1 a2
    obtain ⟨c2, y1, y2, y3, y4, y5⟩ := q66 (L := L) b1 b2
    by_cases hlt : ∃ x, x ∈ qfm L ∧ ((t1 < x ∧ x ≤ t2) ∨ (t2 < x ∧ x ≤ t1))
    · obtain ⟨x, hx, hx1 | hx1⟩ := hlt
      · have := x5 x hx hx1.1 (by omega)
        have := r5 x hx hx1.2 (by omega)
        exact key c1 f2 x1 r1 x4 r4 (by omega) (by omega)
      · have := y5 x hx hx1.1 (by omega)
        have := q5 x hx hx1.2 (by omega)
        exact key f1 c2 q1 y1 q4 y4 (by omega) (by omega)
    · refine key f1 f1 q1 q1 q4 (fun x hx => ?_) (by omega) (by omega)
      have h3 := q4 x hx
      constructor
      · intro h4
        by_cases h5 : x ≤ t1
        · exact h3.1 h5
        · exact absurd ⟨x, hx, .inl ⟨by omega, h4⟩⟩ hlt
      · intro h4
        have h5 := h3.2 h4
        by_cases h6 : x ≤ t2
        · exact h6
        · exact absurd ⟨x, hx, .inr ⟨by omega, h5⟩⟩ hlt
  · intro h t1 m1 t2 m2
    rw [q2m]
    intro d1 d2
    have r1 := q65 hfu m1
    have r2 := q65 hfu m2
    exact h t1 t2 r1.1 r1.2 r2.1 r2.2 d1 d2
theorem q98 {L : List Mg} {w f u : Int} (hc : chk L = 0) (hr : qir w f u = false) : qp5 L w f u = true ↔ qv3 L w f u := by
  have hr0 := hr
  unfold qir at hr0
  simp only [Bool.or_eq_false_iff, decide_eq_false_iff_not] at hr0
  unfold qp5
  rw [hc, hr]
  exact qbbn (by omega) (by omega)
end Go.Proofs.YtmoedhehjonnhaaGreatDoor.Dn
