/- Caches: sets, where entries come from, the law of CacheTold. -/
import Derived.Test.YtmficjbenbhneaaDoorPuLw29e
set_option linter.all false
namespace Go.Proofs.YtmficjbenbhneaaDoor.Dn
open Go Go.Pev
set_option linter.unusedVariables false
set_option linter.unusedSimpArgs false
set_option maxRecDepth 8000
def qx1 (y z : AV) : Bool := ((gB y.cells 0) == (gB z.cells 0)) && (((gI y.cells 1) == (gI z.cells 1)) && (((gI y.cells 2) == (gI z.cells 2)) && (((gS y.cells 3) == (gS z.cells 3)) && (((gS y.cells 4) == (gS z.cells 4)) && (((gS y.cells 5) == (gS z.cells 5)) && (((gI y.cells 6) == (gI z.cells 6)) && (((gI y.cells 7) == (gI z.cells 7)) && (((gI y.cells 8) == (gI z.cells 8)) && (((gI y.cells 9) == (gI z.cells 9)) && (((gI y.cells 10) == (gI z.cells 10)) && (((gI y.cells 11) == (gI z.cells 11)) && (((gI y.cells 12) == (gI z.cells 12)) && true))))))))))))
theorem qbbi (y : AV) : qx1 y y = true := by simp [qx1]
def qrc : List AV → List AV → Bool
  | y :: r, z :: s => qx1 y z && qrc r s
  | _, _ => true
theorem q2u : ∀ d, qrc d d = true
  | [] => rfl
  | y :: r => by simp [qrc, qbbi, q2u r]
def q6i (n : List UInt8) (t l : Int) (d : List AV) (n' : List UInt8) (t' l' : Int) (d' : List AV) : Bool :=
  !((((!(n == n')) || (t != t')) || (l != l')) || ((d.length : Int) != (d'.length : Int))) && qrc d d'
theorem que (n : List UInt8) (t l : Int) (d : List AV) : q6i n t l d n t l d = true := by simp [q6i, q2u]
theorem q8n (n : List UInt8) (t l : Int) (d : List AV) (n' : List UInt8) (t' l' : Int) (d' : List AV) (h1 : d.length ≤ 1000000) (h2 : ∀ y, y ∈ d → fitC qbn y.cells = true) (h3 : ∀ y, y ∈ d' → fitC qbn y.cells = true) :
    qe5 n t l d n' t' l' d' = some (q6i n t l d n' t' l' d') := by
  rw [qz4]; unfold qh5 q6i
  cases hc : ((((!(n == n')) || (t != t')) || (l != l')) || ((d.length : Int) != (d'.length : Int))) with
  | true => rfl
  | false =>
    have hlen : d.length = d'.length := by
      simp only [Bool.or_eq_false_iff, bne_eq_false_iff_eq] at hc
      omega
    simp only [cond_f, Bool.not_false, Bool.true_and]
    rw [qta, q36 d (by omega) (qd0 (d.length : Int) n t l d n' t' l' d' fun _ => some true) (fun i nx => qdz (d.length : Int) i n t l d n' t' l' d' nx fun _ => some true) (fun _ _ => rfl) (fun i r => some (qrc r (d'.drop i)))]
    · rfl
    · intro nx
      simp [qdz, qrc]
    · intro i y r nx g1 g2 g3 g4 g5
      have g6 : (i : Int) < (d.length : Int) := by omega
      obtain ⟨z, hz⟩ : ∃ z, d'[i]? = some z := ⟨d'[i]'(by omega), by simp⟩
      have hdz : d'.drop i = z :: d'.drop (i + 1) := by
        rw [List.drop_eq_getElem_cons (by omega)]
        rw [(List.getElem?_eq_some_iff.1 hz).2]
      unfold qdz
      simp only [g6, decide_true, cond_t, ixB_nat, g2, oB_s, h2 y (List.mem_of_getElem? g2), hz, h3 z (List.mem_of_getElem? hz), g4, g5]
      rw [hdz]
      show (bif (!qx1 y z) then some false else some (qrc r (d'.drop (i + 1)))) = some (qx1 y z && qrc r (d'.drop (i + 1)))
      cases qx1 y z <;> rfl
theorem q5k (P : En → Bool) : ∀ (L : List En) (i : Nat), fidx P i L = -1 ∨ ∃ (k : Nat) (e : En), fidx P i L = ((i + k : Nat) : Int) ∧ L[k]? = some e ∧ P e = true
  | [], i => .inl rfl
  | e :: L, i => by
    unfold fidx
    cases hp : P e with
    | true => exact .inr ⟨0, e, by simp, rfl, hp⟩
    | false =>
      rw [cond_f]
      rcases q5k P L (i + 1) with h | ⟨k, x, h1, h2, h3⟩
      · exact .inl h
      · exact .inr ⟨k + 1, x, by rw [h1]; omega, h2, h3⟩
theorem qbbj {L : List En} {n : List UInt8} {t now : Int} {p : Nat × En} (h : qce L n t now = some p) : p.2 ∈ L ∧ now < p.2.u ∧ p.2.n = n ∧ (p.2.t = t ∨ (p.2.k = 0 ∧ p.2.t = 5) ∨ p.2.k = 2) := by
  have hmem := q5i h
  refine ⟨List.mem_of_getElem? hmem, ?_⟩
  have hix : (qge L n t now) = (p.1 : Int) := by
    unfold qce at h
    split at h
    · cases h
    · split at h
      · cases h
        simp only
        omega
      · cases h
  have key : ∀ P, fidx P 0 L = (p.1 : Int) → P p.2 = true := fun P hP => by
    rcases q5k P L 0 with h1 | ⟨k, e, h1, h2, h3⟩
    · rw [h1] at hP; omega
    · have : k = p.1 := by rw [h1] at hP; omega
      rw [this, hmem] at h2
      cases h2
      exact h3
  unfold qge at hix
  simp only at hix
  split at hix
  · split at hix
    · have := key _ hix
      simp [En.alive, En.denies] at this
      exact ⟨this.1, this.2.2, .inr (.inr this.2.1)⟩
    · have := key _ hix
      simp [En.alive, En.about] at this
      exact ⟨this.1.1, this.2.1, .inr (.inl ⟨this.1.2, this.2.2⟩)⟩
  · have := key _ hix
    simp [En.alive, En.about] at this
    exact ⟨this.1, this.2.1, .inl this.2.2⟩
end Go.Proofs.YtmficjbenbhneaaDoor.Dn
