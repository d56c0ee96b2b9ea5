/- Tables of blocks: what is put in, taken out, split or joined leaves a table. -/
import Derived.Test.YtmjdngnagiloeaaBlLw46m
set_option linter.all false
namespace Go.Proofs.Ytmjdngnagiloeaa.Dn
open Go Go.Pev
set_option linter.unusedVariables false
set_option linter.unusedSimpArgs false
set_option maxRecDepth 4000
def atY (b y : AV) : Bool := atP (gB b.cells 0) (gI b.cells 1) (gI b.cells 2) (gI b.cells 3) y
theorem qbqc {b y : AV} : atY b y = true ↔ pqY y = pqY b := by
  unfold atY; rw [quv]; unfold pqY
  constructor
  · rintro ⟨h1, h2, h3, h4⟩; rw [h1, h2, h3, h4]
  · intro h; injection h with h1 h2 h3 h4; exact ⟨h1, h2, h3, h4⟩
theorem qbvh {l : List AV} (ht : qfq l) : l.Pairwise ltY := (qbio.1 ht).2.imp fun h => h.1
end Go.Proofs.Ytmjdngnagiloeaa.Dn
