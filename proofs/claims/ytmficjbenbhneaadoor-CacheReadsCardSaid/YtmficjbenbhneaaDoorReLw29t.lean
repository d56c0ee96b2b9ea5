/- Caches: sets, where entries come from, the law of CacheTold. -/
import Derived.Test.YtmficjbenbhneaaDoorReLw29e
set_option linter.all false
namespace Go.Proofs.YtmficjbenbhneaaDoor.Dn
open Go Go.Pev
set_option linter.unusedVariables false
set_option linter.unusedSimpArgs false
set_option maxRecDepth 8000
def qxk (y z : AV) : Bool := ((gB y.cells 0) == (gB z.cells 0)) && (((gI y.cells 1) == (gI z.cells 1)) && (((gI y.cells 2) == (gI z.cells 2)) && (((gS y.cells 3) == (gS z.cells 3)) && (((gS y.cells 4) == (gS z.cells 4)) && (((gS y.cells 5) == (gS z.cells 5)) && (((gI y.cells 6) == (gI z.cells 6)) && (((gI y.cells 7) == (gI z.cells 7)) && (((gI y.cells 8) == (gI z.cells 8)) && (((gI y.cells 9) == (gI z.cells 9)) && (((gI y.cells 10) == (gI z.cells 10)) && (((gI y.cells 11) == (gI z.cells 11)) && (((gI y.cells 12) == (gI z.cells 12)) && true))))))))))))
theorem qba1 (y : AV) : qxk y y = true := by simp [qxk]
def qqr : List AV → List AV → Bool
  | y :: r, z :: s => qxk y z && qqr r s
  | _, _ => true
theorem q2h : ∀ d, qqr d d = true
  | [] => rfl
  | y :: r => by simp [qqr, qba1, q2h r]
def q5w (n : List UInt8) (t l : Int) (d : List AV) (n' : List UInt8) (t' l' : Int) (d' : List AV) : Bool :=
  !((((!(n == n')) || (t != t')) || (l != l')) || ((d.length : Int) != (d'.length : Int))) && qqr d d'
theorem qba2 (n : List UInt8) (t l : Int) (d : List AV) : q5w n t l d n t l d = true := by simp [q5w, q2h]
theorem qbhh (n : List UInt8) (t l : Int) (d : List AV) (n' : List UInt8) (t' l' : Int) (d' : List AV) (h1 : d.length ≤ 1000000) (h2 : ∀ y, y ∈ d → fitC qbm y.cells = true) (h3 : ∀ y, y ∈ d' → fitC qbm y.cells = true) :
    qng n t l d n' t' l' d' = some (q5w n t l d n' t' l' d') := by
  rw [qzm]; unfold qhv q5w
  cases hc : ((((!(n == n')) || (t != t')) || (l != l')) || ((d.length : Int) != (d'.length : Int))) with
  | true => rfl
  | false =>
    have hlen : d.length = d'.length := by
      simp only [Bool.or_eq_false_iff, bne_eq_false_iff_eq] at hc
      omega
    simp only [cond_f, Bool.not_false, Bool.true_and]
    rw [qsp, q3q d (by omega) (qds (d.length : Int) n t l d n' t' l' d' fun _ => some true) (fun i nx => qdr (d.length : Int) i n t l d n' t' l' d' nx fun _ => some true) (fun _ _ => rfl) (fun i r => some (qqr r (d'.drop i)))]
    · rfl
    · intro nx
      simp [qdr, qqr]
    · intro i y r nx g1 g2 g3 g4 g5
      have g6 : (i : Int) < (d.length : Int) := by omega
      obtain ⟨z, hz⟩ : ∃ z, d'[i]? = some z := ⟨d'[i]'(by omega), by simp⟩
      have hdz : d'.drop i = z :: d'.drop (i + 1) := by
        rw [List.drop_eq_getElem_cons (by omega)]
        rw [(List.getElem?_eq_some_iff.1 hz).2]
      unfold qdr
      simp only [g6, decide_true, cond_t, ixB_nat, g2, oB_s, h2 y (List.mem_of_getElem? g2), hz, h3 z (List.mem_of_getElem? hz), g4, g5]
      rw [hdz]
      show (bif (!qxk y z) then some false else some (qqr r (d'.drop (i + 1)))) = some (qxk y z && qqr r (d'.drop (i + 1)))
      cases qxk y z <;> rfl
theorem qw0 (P : En → Bool) : ∀ (L : List En) (i : Nat), fidx P i L = -1 ∨ ∃ (k : Nat) (e : En), fidx P i L = ((i + k : Nat) : Int) ∧ L[k]? = some e ∧ P e = true
  | [], i => .inl rfl
  | e :: L, i => by
    unfold fidx
    cases hp : P e with
    | true => exact .inr ⟨0, e, by simp, rfl, hp⟩
    | false =>
      rw [cond_f]
      rcases qw0 P L (i + 1) with h | ⟨k, x, h1, h2, h3⟩
      · exact .inl h
      · exact .inr ⟨k + 1, x, by rw [h1]; omega, h2, h3⟩
end Go.Proofs.YtmficjbenbhneaaDoor.Dn
