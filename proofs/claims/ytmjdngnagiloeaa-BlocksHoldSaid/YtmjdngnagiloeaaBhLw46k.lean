/- Addresses of subnets: what the program's Address and ddiref47's answer. -/
import Derived.Test.YtmjdngnagiloeaaBhLw46
set_option linter.all false
namespace Go.Proofs.Ytmjdngnagiloeaa.Dn
open Go Go.Pev
set_option linter.unusedVariables false
set_option linter.unusedSimpArgs false
set_option maxRecDepth 4000
theorem qbi0 {x : Int} (m : Int) (h : uok x) : qcg .andNot .u64 x m ≤ x := by
  rw [q13]
  have := qus (BitVec.ofInt 64 x) (BitVec.ofInt 64 m)
  have h2 := qwj h
  omega
theorem qbbp {x m : Int} (h : uok x) (h0 : qcg .and .u64 x m = 0) : qcg .andNot .u64 x m = x := by
  rw [q86] at h0
  rw [q13]
  have := qus (BitVec.ofInt 64 x) (BitVec.ofInt 64 m)
  have h2 := qwj h
  omega
theorem qe2.sorted {l : List AV} (h : qe2 l) (i : Nat) (y : AV) (hy : l[i]? = some y) : ∀ j z, i < j → l[j]? = some z → ltY y z := by
  intro j
  induction j with
  | zero => intro z hj; omega
  | succ j ih =>
    intro z hj hz
    obtain ⟨x, hx⟩ : ∃ x, l[j]? = some x := by
      have := (List.getElem?_eq_some_iff.1 hz).1
      exact ⟨l[j], by simp⟩
    have h1 := (h (j + 1) z hz).lt j x rfl hx
    by_cases hij : i = j
    · subst hij
      rw [hy] at hx; cases hx
      exact h1
    · exact q88 (ih x (by omega) hx) h1
theorem qbkb {y z : AV} (hy : qlx y) (hw : q34 y z = true) (hne : atP (gB z.cells 0) (gI z.cells 1) (gI z.cells 2) (gI z.cells 3) y = false) : ltY z y ∧ gI y.cells 3 > gI z.cells 3 := by
  unfold q34 qoz qmn at hw
  simp only [Bool.and_eq_true, beq_iff_eq, decide_eq_true_eq] at hw
  obtain ⟨h1, h2, h3, h4, h5, h6, h7⟩ := hw
  have hp := h1
  simp only [qfq, Bool.and_eq_true, beq_iff_eq] at hp
  have hb : gI y.cells 3 ≠ gI z.cells 3 := by
    intro hb
    rw [← h5, hb] at hp
    rw [qbbp hy.2.1 hp.1.2] at h6
    rw [qbbp hy.2.2.1 hp.2] at h7
    have : atP (gB z.cells 0) (gI z.cells 1) (gI z.cells 2) (gI z.cells 3) y = true := qnn.2 ⟨h5.symm, h6, h7, hb⟩
    rw [this] at hne
    cases hne
  have a1 := qbi0 (qkn (qbg (gB z.cells 0) - gI z.cells 3).toNat).1 hy.2.1
  have a2 := qbi0 (qkn (qbg (gB z.cells 0) - gI z.cells 3).toNat).2 hy.2.2.1
  rw [h6] at a1
  rw [h7] at a2
  refine ⟨.inr ⟨h5, ?_⟩, by omega⟩
  omega
end Go.Proofs.Ytmjdngnagiloeaa.Dn
