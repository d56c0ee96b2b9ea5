/- Tables of blocks: what is put in, taken out, split or joined leaves a table. -/
import Derived.Test.YtmfghgaboaocgaaFrLw46m
set_option linter.all false
namespace Go.Proofs.Ytmfghgaboaocgaa.Dn
open Go Go.Pev
set_option linter.unusedVariables false
set_option linter.unusedSimpArgs false
set_option maxRecDepth 4000
def atY (b y : AV) : Bool := atP (gB b.cells 0) (gI b.cells 1) (gI b.cells 2) (gI b.cells 3) y
theorem qbmh {b y : AV} : atY b y = true ↔ pqY y = pqY b := by
  unfold atY; rw [qt2]; unfold pqY
  constructor
  · rintro ⟨h1, h2, h3, h4⟩; rw [h1, h2, h3, h4]
  · intro h; injection h with h1 h2 h3 h4; exact ⟨h1, h2, h3, h4⟩
theorem qbrt {y b : AV} (h : cmpY y b > 0) : ltY b y := (qx7 b y).2.2.1 ((qx7 y b).1.1 h)
theorem qbru {y b : AV} (h : ¬ cmpY y b > 0) (hne : atY b y = false) : ltY y b := by
  refine (qx7 y b).2.2.1 ?_
  have : cmpY y b ≠ 0 := fun h0 => by
    have := qbky.1 (q5e.2 h0)
    rw [show atY b y = true from qt2.2 this] at hne; cases hne
  omega
theorem qbh5 {b : AV} : ∀ {l : List AV}, l.Pairwise (fun x y => ltY x y ∧ qda y x = false) → (∀ z, z ∈ l → atY b z = false ∧ qda b z = false ∧ qda z b = false) → (insF b l).Pairwise fun x y => ltY x y ∧ qda y x = false
  | [], _, _ => by simp [insF]
  | y :: r, hp, h => by
    rw [List.pairwise_cons] at hp
    rw [qbh1]
    by_cases hc : cmpY y b > 0
    · simp only [hc, decide_true, cond_t]
      have hby := qbrt hc
      refine List.pairwise_cons.2 ⟨fun z hz => ?_, List.pairwise_cons.2 hp⟩
      refine ⟨?_, (h z hz).2.2⟩
      rcases List.mem_cons.1 hz with rfl | hz'
      · exact hby
      · exact q89 hby (hp.1 z hz').1
    · simp only [hc, decide_false, cond_f]
      have h0 := h y (by simp)
      refine List.pairwise_cons.2 ⟨fun z hz => ?_, qbh5 hp.2 fun z hz => h z (List.mem_cons_of_mem _ hz)⟩
      rcases qq0.1 hz with rfl | hz'
      · exact ⟨qbru hc h0.1, h0.2.1⟩
      · exact hp.1 z hz'
theorem qg2.ins {l : List AV} (ht : qg2 l) {b : AV} (h1 : qpu b = true) (h2 : mayB b = true) (h : ∀ z, z ∈ l → atY b z = false ∧ qda b z = false ∧ qda z b = false) : qg2 (insF b l) := by
  obtain ⟨a1, a2⟩ := qbfg.1 ht
  refine qbfg.2 ⟨fun y hy => ?_, qbh5 a2 h⟩
  rcases qq0.1 hy with rfl | hy'
  · exact ⟨h1, h2⟩
  · exact a1 y hy'
theorem qbk6 {q : AV → Bool} {b : AV} (hb : q b = false) : ∀ l : List AV, (insF b l).filter q = l.filter q
  | [] => by simp [insF, hb]
  | y :: r => by
    rw [qbh1]
    cases decide (cmpY y b > 0) with
    | true => simp only [cond_t]; rw [List.filter_cons]; simp [hb]
    | false => simp only [cond_f]; rw [List.filter_cons, List.filter_cons, qbk6 hb r]
theorem qbnd {q : AV → Bool} {l : List AV} (h : ∀ z, z ∈ l → q z = true) : l.filter q = l := List.filter_eq_self.2 h
def barK (ky kz : Int) : Bool := bif kz == 3 then true else bif kz == 2 then ky != 3 else false
theorem qbq4 {y z : AV} (hy : (pqY y).good) (hz : (pqY z).good) : qda y z = false ↔ ((pqY y).np.sub (pqY z).np → (pqY y).np.k < (pqY z).np.k → barK (gI y.cells 4) (gI z.cells 4) = false) := by
  have e : qda y z = bif qsw (pqY y).v (pqY y).hi (pqY y).lo (pqY y).bits (pqY z).v (pqY z).hi (pqY z).lo (pqY z).bits then barK (gI y.cells 4) (gI z.cells 4) else false := by
    unfold qda qsw
    rw [Bool.and_comm]; rfl
  rw [e]
  cases hl : qsw (pqY y).v (pqY y).hi (pqY y).lo (pqY y).bits (pqY z).v (pqY z).hi (pqY z).lo (pqY z).bits with
  | true => obtain ⟨h1, h2⟩ := (q0r hy hz).1 hl; simp [h1, h2]
  | false =>
    simp only [cond_f, true_iff]
    intro h1 h2
    rw [(q0r hy hz).2 ⟨h1, h2⟩] at hl; cases hl
theorem qbmi {l : List AV} (hg : qjt l) {p : Pq} (hp : p.good) : occF l p.v p.hi p.lo p.bits = false ↔ ∀ y, y ∈ l → ¬ ((pqY y).np.sub p.np ∧ (pqY y).np.k < p.np.k) := by
  unfold occF
  rw [List.any_eq_false]
  constructor
  · intro h y hy h2; exact h y hy ((q0r (p := pqY y) (hg y hy) hp).2 h2)
  · intro h y hy h2; exact h y hy ((q0r (p := pqY y) (hg y hy) hp).1 h2)
theorem qbq5 {l : List AV} {b : AV} : l.any (atP (gB b.cells 0) (gI b.cells 1) (gI b.cells 2) (gI b.cells 3)) = false ↔ ∀ z, z ∈ l → atY b z = false := by
  rw [List.any_eq_false]
  constructor
  · intro h z hz; have := h z hz; unfold atY; simpa using this
  · intro h z hz; have := h z hz; unfold atY at this; rw [this]; simp
theorem qbpv {l : List AV} (hl : qc4 l) (ht : qg2 l) {b : AV} (hb : qu9 b) (h : (addF l b).2 = 0) :
    (addF l b).1 = insF b l ∧ qg2 (insF b l) ∧ q3k (insF b l) (gB b.cells 0) (gI b.cells 1) (gI b.cells 2) (gI b.cells 3) = (l, 0) := by
  have hg := qzf hl ht
  unfold addF at *
  cases hp : qpu b with
  | false => simp [hp] at h
  | true =>
  cases hm : mayB b with
  | false => simp [hp, hm] at h
  | true =>
  cases ha : l.any (atP (gB b.cells 0) (gI b.cells 1) (gI b.cells 2) (gI b.cells 3)) with
  | true => simp [hp, hm, ha] at h
  | false =>
  cases hbr : (l.any (qda b) || occF l (gB b.cells 0) (gI b.cells 1) (gI b.cells 2) (gI b.cells 3)) with
  | true => simp only [hp, hm, ha, hbr, Bool.not_true, cond_f, cond_t] at h; cases h
  | false =>
  rw [hp, hm, ha, hbr] at h
  simp only [Bool.not_true, cond_f] at *
  cases h512 : decide ((l.length : Int) ≥ 512) with
  | true => rw [h512] at h; simp at h
  | false =>
  simp only [cond_f]
  rw [Bool.or_eq_false_iff] at hbr
  have hbg : (pqY b).good := ⟨hp, hb.2.1, hb.2.2.1⟩
  have ho := (qbmi (p := pqY b) hg hbg).1 hbr.2
  have hat := qbq5.1 ha
  have key : ∀ z, z ∈ l → atY b z = false ∧ qda b z = false ∧ qda z b = false := fun z hz => by
    refine ⟨hat z hz, ?_, ?_⟩
    · have := List.any_eq_false.1 hbr.1 z hz; simpa using this
    · exact (qbq4 (hg z hz) hbg).2 fun h1 h2 => absurd ⟨h1, h2⟩ (ho z hz)
  have hT := ht.ins hp hm key
  refine ⟨trivial, hT, ?_⟩
  unfold q3k
  have e1 : (insF b l).any (atP (gB b.cells 0) (gI b.cells 1) (gI b.cells 2) (gI b.cells 3)) = true := List.any_eq_true.2 ⟨b, qq0.2 (.inl rfl), qt2.2 ⟨rfl, rfl, rfl, rfl⟩⟩
  have e2 : occF (insF b l) (gB b.cells 0) (gI b.cells 1) (gI b.cells 2) (gI b.cells 3) = false := by
    refine (qbmi (p := pqY b) (l := insF b l) (fun y hy => ?_) hbg).2 fun y hy => ?_
    · rcases qq0.1 hy with rfl | hy'
      · exact hbg
      · exact hg y hy'
    · rcases qq0.1 hy with rfl | hy'
      · intro h; omega
      · exact ho y hy'
  have e3 : remF (insF b l) (gB b.cells 0) (gI b.cells 1) (gI b.cells 2) (gI b.cells 3) = l := by
    unfold remF
    rw [qbk6 (b := b) (by simp [atP]) l]
    exact qbnd fun z hz => by have := hat z hz; unfold atY at this; rw [this]; rfl
  rw [e1, e2, e3]; rfl
end Go.Proofs.Ytmfghgaboaocgaa.Dn
