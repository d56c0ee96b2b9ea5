/- Tables of blocks: what is put in, taken out, split or joined leaves a table. -/
import Derived.Test.YtmjdngnagiloeaaBhLw46m
set_option linter.all false
namespace Go.Proofs.Ytmjdngnagiloeaa.Dn
open Go Go.Pev
set_option linter.unusedVariables false
set_option linter.unusedSimpArgs false
set_option maxRecDepth 4000
def atY (b y : AV) : Bool := atP (gB b.cells 0) (gI b.cells 1) (gI b.cells 2) (gI b.cells 3) y
theorem qwa {b y : AV} : atY b y = true ↔ pqY y = pqY b := by
  unfold atY; rw [qnn]; unfold pqY
  constructor
  · rintro ⟨h1, h2, h3, h4⟩; rw [h1, h2, h3, h4]
  · intro h; injection h with h1 h2 h3 h4; exact ⟨h1, h2, h3, h4⟩
theorem qbtb {y b : AV} (h : ltY y b) : ¬ cmpY y b > 0 := by
  have := (qth y b).2.2.2 h
  omega
theorem qbh0 {y b : AV} (h : ltY b y) : cmpY y b > 0 := (qth y b).1.2 ((qth b y).2.2.2 h)
theorem qbf3 {q : AV → Bool} {l : List AV} (h : ∀ z, z ∈ l → q z = true) : l.filter q = l := List.filter_eq_self.2 h
theorem qbnt {y : AV} : ∀ {l : List AV}, l.Pairwise ltY → y ∈ l → insF y (l.filter fun z => !atY y z) = l
  | [], _, h => by simp at h
  | x :: r, hp, hm => by
    rw [List.pairwise_cons] at hp
    have hyy : atY y y = true := qwa.2 rfl
    have nat : ∀ a b : AV, ltY a b → atY b a = false ∧ atY a b = false := fun a b hab => by
      constructor
      · cases hq : atY b a with
        | false => rfl
        | true =>
          have := qbh0 hab
          have h0 := q01.1 (qbde.2 (qnn.1 hq))
          have h1 := (qth a b).2.2.2 hab
          omega
      · cases hq : atY a b with
        | false => rfl
        | true =>
          have h0 := q01.1 (qbde.2 (qnn.1 hq))
          have := qbh0 hab
          omega
    rcases List.mem_cons.1 hm with rfl | hm'
    · have e : (r.filter fun z => !atY y z) = r := qbf3 fun z hz => by rw [(nat y z (hp.1 z hz)).2]; rfl
      rw [List.filter_cons, hyy]
      simp only [Bool.not_true, Bool.false_eq_true, if_false, e]
      cases r with
      | nil => rfl
      | cons z r => rw [qbi6]; simp only [qbh0 (hp.1 z (by simp)), decide_true, cond_t]
    · have hxy := hp.1 y hm'
      rw [List.filter_cons, (nat x y hxy).1]
      simp only [Bool.not_false, if_true]
      rw [qbi6]
      simp only [qbtb hxy, decide_false, cond_f]
      rw [qbnt hp.2 hm']
theorem qbsm {l : List AV} (ht : qe2 l) : l.Pairwise ltY := (qbf1.1 ht).2.imp fun h => h.1
theorem qbq8 {l : List AV} (ht : qe2 l) {y : AV} (hy : y ∈ l) : (remF l (pqY y).v (pqY y).hi (pqY y).lo (pqY y).bits).length + 1 = l.length := by
  have := congrArg List.length (qbnt (qbsm ht) hy)
  rw [q5s] at this
  exact this
def barK (ky kz : Int) : Bool := bif kz == 3 then true else bif kz == 2 then ky != 3 else false
theorem qbh1 {y z : AV} (hy : (pqY y).good) (hz : (pqY z).good) : qfy y z = false ↔ ((pqY y).np.sub (pqY z).np → (pqY y).np.k < (pqY z).np.k → barK (gI y.cells 4) (gI z.cells 4) = false) := by
  have e : qfy y z = bif qff (pqY y).v (pqY y).hi (pqY y).lo (pqY y).bits (pqY z).v (pqY z).hi (pqY z).lo (pqY z).bits then barK (gI y.cells 4) (gI z.cells 4) else false := by
    unfold qfy qff
    rw [Bool.and_comm]; rfl
  rw [e]
  cases hl : qff (pqY y).v (pqY y).hi (pqY y).lo (pqY y).bits (pqY z).v (pqY z).hi (pqY z).lo (pqY z).bits with
  | true => obtain ⟨h1, h2⟩ := (qqj hy hz).1 hl; simp [h1, h2]
  | false =>
    simp only [cond_f, true_iff]
    intro h1 h2
    rw [(qqj hy hz).2 ⟨h1, h2⟩] at hl; cases hl
theorem qe2.bars {l : List AV} (hl : qby l) (ht : qe2 l) {y z : AV} (hy : y ∈ l) (hz : z ∈ l) : qfy y z = false := by
  have hg := qqy hl ht
  refine (qbh1 (hg y hy) (hg z hz)).2 fun h1 h2 => ?_
  have hw : winP (pqY y) (pqY z) = true := (qno (hg y hy) (hg z hz)).2 h1
  obtain ⟨j, hj⟩ := List.getElem?_of_mem hy
  obtain ⟨i, hi⟩ := List.getElem?_of_mem hz
  have hne : atP (gB z.cells 0) (gI z.cells 1) (gI z.cells 2) (gI z.cells 3) y = false := by
    cases hq : atP (gB z.cells 0) (gI z.cells 1) (gI z.cells 2) (gI z.cells 3) y with
    | false => rfl
    | true => rw [qwa.1 hq] at h2; omega
  obtain ⟨h3, _⟩ := qbkb (hl.2 y hy) hw hne
  have hij : i < j := by
    rcases Nat.lt_trichotomy i j with h | h | h
    · exact h
    · subst h; rw [hi] at hj; cases hj; exact absurd h3 qh3
    · exact absurd (q88 h3 (ht.sorted j y hj i z h hi)) qh3
  exact (qbh1 (hg y hy) (hg z hz)).1 ((ht j y hj).bar i z hij hi) h1 h2
end Go.Proofs.Ytmjdngnagiloeaa.Dn
