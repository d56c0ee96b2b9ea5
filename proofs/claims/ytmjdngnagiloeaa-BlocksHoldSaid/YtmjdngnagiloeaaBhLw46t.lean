/- Tables of blocks: splitting and joining; BlocksStay. -/
import Derived.Test.YtmjdngnagiloeaaBhLw46s
set_option linter.all false
namespace Go.Proofs.Ytmjdngnagiloeaa.Dn
open Go Go.Pev
set_option linter.unusedVariables false
set_option linter.unusedSimpArgs false
set_option maxRecDepth 4000
theorem qbp5 {l : List AV} {q : AV → Bool} {y : AV} (hy : y ∈ l) (hq : q y = true) (h : ∀ z, z ∈ l → q z = true → z = y) : l.find? q = some y := by
  cases hf : l.find? q with
  | none => have := List.find?_eq_none.1 hf y hy; rw [hq] at this; simp at this
  | some z => rw [h z (List.mem_of_find?_eq_some hf) (List.find?_some hf)]
end Go.Proofs.Ytmjdngnagiloeaa.Dn
