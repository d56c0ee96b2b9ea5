/- Prefixes within others. -/
import Derived.Test.YtmjdngnagiloeaaBgLw03p
set_option linter.all false
namespace Go.Proofs.Ytmjdngnagiloeaa.Dn
open Go Go.Pev
set_option linter.unusedVariables false
set_option linter.unusedSimpArgs false
set_option maxRecDepth 4000
def qsf (v6 : Bool) (hi lo bits : Int) (w6 : Bool) (whi wlo wbits : Int) : Bool :=
  qdz v6 hi lo bits && (decide (bits ≥ wbits) && qtk w6 whi wlo wbits v6 hi lo)
theorem qbk7 (v6 : Bool) (hi lo bits : Int) (w6 : Bool) (whi wlo wbits : Int) : qjo v6 hi lo bits w6 whi wlo wbits = some (qsf v6 hi lo bits w6 whi wlo wbits) := by
  rw [q7t]; unfold qy4 qsf
  simp only [q9a, qbop, oB_s]
  cases h1 : qdz v6 hi lo bits
  · simp
  · cases h2 : qdz w6 whi wlo wbits
    · simp [qtk, h2]
    · cases h3 : decide (bits ≥ wbits) <;> simp
theorem qbxk (v6 : Bool) (hi lo bits : Int) (w6 : Bool) (whi wlo wbits : Int) (u1 : uok hi) (u2 : uok lo) : qok v6 hi lo bits w6 whi wlo wbits = some (qsf v6 hi lo bits w6 whi wlo wbits) := by
  rw [q36]; unfold qvl qsf
  simp only [q45, qb1y _ _ _ _ _ _ _ u1 u2, oB_s]
  cases h1 : qdz v6 hi lo bits
  · simp
  · cases h3 : decide (bits ≥ wbits) <;> simp
end Go.Proofs.Ytmjdngnagiloeaa.Dn
