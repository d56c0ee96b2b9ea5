/- Split and Join, the program's answer and the reference's. -/
import Derived.Test.YtmfghgaboaocgaaChLw46g
set_option linter.all false
namespace Go.Proofs.Ytmfghgaboaocgaa.Dn
open Go Go.Pev
set_option linter.unusedVariables false
set_option linter.unusedSimpArgs false
set_option maxRecDepth 4000
theorem qb54 {l : List AV} (hl : qcc l) (hn : l.length ≤ 100000) {b : AV} (hb : qvq b) : qcc (insF b l) := ⟨by rw [qbsc]; omega, fun y hy => by
  rcases qb04.1 hy with rfl | h
  · exact hb
  · exact hl.2 y h⟩
theorem q7w {l : List AV} (hl : qcc l) {v : Bool} {hi lo bits : Int} {y : AV} (h : l.find? (atP v hi lo bits) = some y) : qt7 l v hi lo bits = (y, true) := by
  unfold qt7; rw [h]; simp only
  rw [qb4t (hl.2 y (List.mem_of_find?_eq_some h)).1]
theorem qbgt {l : List AV} {v : Bool} {hi lo bits : Int} (h : l.find? (atP v hi lo bits) = none) : qt7 l v hi lo bits = (blk0, false) := by
  unfold qt7; rw [h]
end Go.Proofs.Ytmfghgaboaocgaa.Dn
