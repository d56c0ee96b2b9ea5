/- Tables of blocks: what is put in, taken out, split or joined leaves a table. -/
import Derived.Test.YtmjdngnagiloeaaBsLw46m
set_option linter.all false
namespace Go.Proofs.Ytmjdngnagiloeaa.Dn
open Go Go.Pev
set_option linter.unusedVariables false
set_option linter.unusedSimpArgs false
set_option maxRecDepth 4000
def atY (b y : AV) : Bool := atP (gB b.cells 0) (gI b.cells 1) (gI b.cells 2) (gI b.cells 3) y
theorem q4t {b y : AV} : atY b y = true ↔ pqY y = pqY b := by
  unfold atY; rw [qjs]; unfold pqY
  constructor
  · rintro ⟨h1, h2, h3, h4⟩; rw [h1, h2, h3, h4]
  · intro h; injection h with h1 h2 h3 h4; exact ⟨h1, h2, h3, h4⟩
theorem qbt1 {y b : AV} (h : cmpY y b > 0) : ltY b y := (qmm b y).2.2.1 ((qmm y b).1.1 h)
theorem qbt2 {y b : AV} (h : ¬ cmpY y b > 0) (hne : atY b y = false) : ltY y b := by
  refine (qmm y b).2.2.1 ?_
  have : cmpY y b ≠ 0 := fun h0 => by
    have := q6b.1 (qwn.2 h0)
    rw [show atY b y = true from qjs.2 this] at hne; cases hne
  omega
theorem qbt3 {y b : AV} (h : ltY y b) : ¬ cmpY y b > 0 := by
  have := (qmm y b).2.2.2 h
  omega
theorem qbiw {y b : AV} (h : ltY b y) : cmpY y b > 0 := (qmm y b).1.2 ((qmm b y).2.2.2 h)
theorem qbj3 {b : AV} : ∀ {l : List AV}, l.Pairwise (fun x y => ltY x y ∧ qdd y x = false) → (∀ z, z ∈ l → atY b z = false ∧ qdd b z = false ∧ qdd z b = false) → (insF b l).Pairwise fun x y => ltY x y ∧ qdd y x = false
  | [], _, _ => by simp [insF]
  | y :: r, hp, h => by
    rw [List.pairwise_cons] at hp
    rw [q2s]
    by_cases hc : cmpY y b > 0
    · simp only [hc, decide_true, cond_t]
      have hby := qbt1 hc
      refine List.pairwise_cons.2 ⟨fun z hz => ?_, List.pairwise_cons.2 hp⟩
      refine ⟨?_, (h z hz).2.2⟩
      rcases List.mem_cons.1 hz with rfl | hz'
      · exact hby
      · exact q2p hby (hp.1 z hz').1
    · simp only [hc, decide_false, cond_f]
      have h0 := h y (by simp)
      refine List.pairwise_cons.2 ⟨fun z hz => ?_, qbj3 hp.2 fun z hz => h z (List.mem_cons_of_mem _ hz)⟩
      rcases qe8.1 hz with rfl | hz'
      · exact ⟨qbt2 hc h0.1, h0.2.1⟩
      · exact hp.1 z hz'
theorem qcs.ins {l : List AV} (ht : qcs l) {b : AV} (h1 : qp0 b = true) (h2 : mayB b = true) (h : ∀ z, z ∈ l → atY b z = false ∧ qdd b z = false ∧ qdd z b = false) : qcs (insF b l) := by
  obtain ⟨a1, a2⟩ := qz5.1 ht
  refine qz5.2 ⟨fun y hy => ?_, qbj3 a2 h⟩
  rcases qe8.1 hy with rfl | hy'
  · exact ⟨h1, h2⟩
  · exact a1 y hy'
theorem q6l {q : AV → Bool} {b : AV} (hb : q b = false) : ∀ l : List AV, (insF b l).filter q = l.filter q
  | [] => by simp [insF, hb]
  | y :: r => by
    rw [q2s]
    cases decide (cmpY y b > 0) with
    | true => simp only [cond_t]; rw [List.filter_cons]; simp [hb]
    | false => simp only [cond_f]; rw [List.filter_cons, List.filter_cons, q6l hb r]
theorem q6m {q : AV → Bool} {l : List AV} (h : ∀ z, z ∈ l → q z = true) : l.filter q = l := List.filter_eq_self.2 h
theorem qbix {y : AV} : ∀ {l : List AV}, l.Pairwise ltY → y ∈ l → insF y (l.filter fun z => !atY y z) = l
  | [], _, h => by simp at h
  | x :: r, hp, hm => by
    rw [List.pairwise_cons] at hp
    have hyy : atY y y = true := q4t.2 rfl
    have nat : ∀ a b : AV, ltY a b → atY b a = false ∧ atY a b = false := fun a b hab => by
      constructor
      · cases hq : atY b a with
        | false => rfl
        | true =>
          have := qbiw hab
          have h0 := qwn.1 (q6b.2 (qjs.1 hq))
          have h1 := (qmm a b).2.2.2 hab
          omega
      · cases hq : atY a b with
        | false => rfl
        | true =>
          have h0 := qwn.1 (q6b.2 (qjs.1 hq))
          have := qbiw hab
          omega
    rcases List.mem_cons.1 hm with rfl | hm'
    · have e : (r.filter fun z => !atY y z) = r := q6m fun z hz => by rw [(nat y z (hp.1 z hz)).2]; rfl
      rw [List.filter_cons, hyy]
      simp only [Bool.not_true, Bool.false_eq_true, if_false, e]
      cases r with
      | nil => rfl
      | cons z r => rw [q2s]; simp only [qbiw (hp.1 z (by simp)), decide_true, cond_t]
    · have hxy := hp.1 y hm'
      rw [List.filter_cons, (nat x y hxy).1]
      simp only [Bool.not_false, if_true]
      rw [q2s]
      simp only [qbt3 hxy, decide_false, cond_f]
      rw [qbix hp.2 hm']
theorem qbon {l : List AV} (ht : qcs l) : l.Pairwise ltY := (qz5.1 ht).2.imp fun h => h.1
theorem q6n {l : List AV} (ht : qcs l) {y : AV} (hy : y ∈ l) : (remF l (pqY y).v (pqY y).hi (pqY y).lo (pqY y).bits).length + 1 = l.length := by
  have := congrArg List.length (qbix (qbon ht) hy)
  rw [qoj] at this
  exact this
def barK (ky kz : Int) : Bool := bif kz == 3 then true else bif kz == 2 then ky != 3 else false
theorem qlr {y z : AV} (hy : (pqY y).good) (hz : (pqY z).good) : qdd y z = false ↔ ((pqY y).np.sub (pqY z).np → (pqY y).np.k < (pqY z).np.k → barK (gI y.cells 4) (gI z.cells 4) = false) := by
  have e : qdd y z = bif qg5 (pqY y).v (pqY y).hi (pqY y).lo (pqY y).bits (pqY z).v (pqY z).hi (pqY z).lo (pqY z).bits then barK (gI y.cells 4) (gI z.cells 4) else false := by
    unfold qdd qg5
    rw [Bool.and_comm]; rfl
  rw [e]
  cases hl : qg5 (pqY y).v (pqY y).hi (pqY y).lo (pqY y).bits (pqY z).v (pqY z).hi (pqY z).lo (pqY z).bits with
  | true => obtain ⟨h1, h2⟩ := (q6h hy hz).1 hl; simp [h1, h2]
  | false =>
    simp only [cond_f, true_iff]
    intro h1 h2
    rw [(q6h hy hz).2 ⟨h1, h2⟩] at hl; cases hl
theorem qcs.bars {l : List AV} (hl : qbk l) (ht : qcs l) {y z : AV} (hy : y ∈ l) (hz : z ∈ l) : qdd y z = false := by
  have hg := qrc hl ht
  refine (qlr (hg y hy) (hg z hz)).2 fun h1 h2 => ?_
  have hw : winP (pqY y) (pqY z) = true := (qnq (hg y hy) (hg z hz)).2 h1
  obtain ⟨j, hj⟩ := List.getElem?_of_mem hy
  obtain ⟨i, hi⟩ := List.getElem?_of_mem hz
  have hne : atP (gB z.cells 0) (gI z.cells 1) (gI z.cells 2) (gI z.cells 3) y = false := by
    cases hq : atP (gB z.cells 0) (gI z.cells 1) (gI z.cells 2) (gI z.cells 3) y with
    | false => rfl
    | true => rw [q4t.1 hq] at h2; omega
  obtain ⟨h3, _⟩ := qbk4 (hl.2 y hy) hw hne
  have hij : i < j := by
    rcases Nat.lt_trichotomy i j with h | h | h
    · exact h
    · subst h; rw [hi] at hj; cases hj; exact absurd h3 qh3
    · exact absurd (q2p h3 (ht.sorted j y hj i z h hi)) qh3
  exact (qlr (hg y hy) (hg z hz)).1 ((ht j y hj).bar i z hij hi) h1 h2
theorem qbiy {l : List AV} (hg : qsl l) {p : Pq} (hp : p.good) : occF l p.v p.hi p.lo p.bits = false ↔ ∀ y, y ∈ l → ¬ ((pqY y).np.sub p.np ∧ (pqY y).np.k < p.np.k) := by
  unfold occF
  rw [List.any_eq_false]
  constructor
  · intro h y hy h2; exact h y hy ((q6h (p := pqY y) (hg y hy) hp).2 h2)
  · intro h y hy h2; exact h y hy ((q6h (p := pqY y) (hg y hy) hp).1 h2)
theorem qbtf {l : List AV} {b : AV} : l.any (atP (gB b.cells 0) (gI b.cells 1) (gI b.cells 2) (gI b.cells 3)) = false ↔ ∀ z, z ∈ l → atY b z = false := by
  rw [List.any_eq_false]
  constructor
  · intro h z hz; have := h z hz; unfold atY; simpa using this
  · intro h z hz; have := h z hz; unfold atY at this; rw [this]; simp
theorem qbr2 {l : List AV} (hl : qbk l) (ht : qcs l) {b : AV} (hb : qgd b) (h : (addF l b).2 = 0) :
    (addF l b).1 = insF b l ∧ qcs (insF b l) ∧ qks (insF b l) (gB b.cells 0) (gI b.cells 1) (gI b.cells 2) (gI b.cells 3) = (l, 0) := by
  have hg := qrc hl ht
  unfold addF at *
  cases hp : qp0 b with
  | false => simp [hp] at h
  | true =>
  cases hm : mayB b with
  | false => simp [hp, hm] at h
  | true =>
  cases ha : l.any (atP (gB b.cells 0) (gI b.cells 1) (gI b.cells 2) (gI b.cells 3)) with
  | true => simp [hp, hm, ha] at h
  | false =>
  cases hbr : (l.any (qdd b) || occF l (gB b.cells 0) (gI b.cells 1) (gI b.cells 2) (gI b.cells 3)) with
  | true => simp only [hp, hm, ha, hbr, Bool.not_true, cond_f, cond_t] at h; cases h
  | false =>
  rw [hp, hm, ha, hbr] at h
  simp only [Bool.not_true, cond_f] at *
  cases h512 : decide ((l.length : Int) ≥ 512) with
  | true => rw [h512] at h; simp at h
  | false =>
  simp only [cond_f]
  rw [Bool.or_eq_false_iff] at hbr
  have hbg : (pqY b).good := ⟨hp, hb.2.1, hb.2.2.1⟩
  have ho := (qbiy (p := pqY b) hg hbg).1 hbr.2
  have hat := qbtf.1 ha
  have key : ∀ z, z ∈ l → atY b z = false ∧ qdd b z = false ∧ qdd z b = false := fun z hz => by
    refine ⟨hat z hz, ?_, ?_⟩
    · have := List.any_eq_false.1 hbr.1 z hz; simpa using this
    · exact (qlr (hg z hz) hbg).2 fun h1 h2 => absurd ⟨h1, h2⟩ (ho z hz)
  have hT := ht.ins hp hm key
  refine ⟨trivial, hT, ?_⟩
  unfold qks
  have e1 : (insF b l).any (atP (gB b.cells 0) (gI b.cells 1) (gI b.cells 2) (gI b.cells 3)) = true := List.any_eq_true.2 ⟨b, qe8.2 (.inl rfl), qjs.2 ⟨rfl, rfl, rfl, rfl⟩⟩
  have e2 : occF (insF b l) (gB b.cells 0) (gI b.cells 1) (gI b.cells 2) (gI b.cells 3) = false := by
    refine (qbiy (p := pqY b) (l := insF b l) (fun y hy => ?_) hbg).2 fun y hy => ?_
    · rcases qe8.1 hy with rfl | hy'
      · exact hbg
      · exact hg y hy'
    · rcases qe8.1 hy with rfl | hy'
      · intro h; omega
      · exact ho y hy'
  have e3 : remF (insF b l) (gB b.cells 0) (gI b.cells 1) (gI b.cells 2) (gI b.cells 3) = l := by
    unfold remF
    rw [q6l (b := b) (by simp [atP]) l]
    exact q6m fun z hz => by have := hat z hz; unfold atY at this; rw [this]; rfl
  rw [e1, e2, e3]; rfl
end Go.Proofs.Ytmjdngnagiloeaa.Dn
