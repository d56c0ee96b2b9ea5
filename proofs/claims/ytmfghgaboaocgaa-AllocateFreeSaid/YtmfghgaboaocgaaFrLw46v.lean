/- Tables of blocks: BlocksHold. -/
import Derived.Test.YtmfghgaboaocgaaFrLw46u
set_option linter.all false
namespace Go.Proofs.Ytmfghgaboaocgaa.Dn
open Go Go.Pev
set_option linter.unusedVariables false
set_option linter.unusedSimpArgs false
set_option maxRecDepth 4000
theorem qbne {l : List AV} (ht : qg2 l) {y z : AV} (hy : y ∈ l) (hz : z ∈ l) (h : pqY z = pqY y) : z = y := by
  obtain ⟨i, hi⟩ := List.getElem?_of_mem hy
  obtain ⟨j, hj⟩ := List.getElem?_of_mem hz
  have h1 : atP (gB y.cells 0) (gI y.cells 1) (gI y.cells 2) (gI y.cells 3) z = true := qbmh.2 h
  have := qg2.uniq ht hi hj (qt2.2 ⟨rfl, rfl, rfl, rfl⟩) h1
  subst this
  rw [hi] at hj; cases hj; rfl
end Go.Proofs.Ytmfghgaboaocgaa.Dn
