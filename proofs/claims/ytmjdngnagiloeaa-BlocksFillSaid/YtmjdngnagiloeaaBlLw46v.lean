/- Tables of blocks: BlocksHold. -/
import Derived.Test.YtmjdngnagiloeaaBlLw46u
set_option linter.all false
namespace Go.Proofs.Ytmjdngnagiloeaa.Dn
open Go Go.Pev
set_option linter.unusedVariables false
set_option linter.unusedSimpArgs false
set_option maxRecDepth 4000
theorem qbiq {l : List AV} (ht : qfq l) {y z : AV} (hy : y ∈ l) (hz : z ∈ l) (h : pqY z = pqY y) : z = y := by
  obtain ⟨i, hi⟩ := List.getElem?_of_mem hy
  obtain ⟨j, hj⟩ := List.getElem?_of_mem hz
  have h1 : atP (gB y.cells 0) (gI y.cells 1) (gI y.cells 2) (gI y.cells 3) z = true := qbqc.2 h
  have := qfq.uniq ht hi hj (quv.2 ⟨rfl, rfl, rfl, rfl⟩) h1
  subst this
  rw [hi] at hj; cases hj; rfl
end Go.Proofs.Ytmjdngnagiloeaa.Dn
