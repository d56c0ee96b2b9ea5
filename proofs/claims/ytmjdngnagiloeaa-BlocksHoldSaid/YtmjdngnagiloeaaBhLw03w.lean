/- Prefixes within others. -/
import Derived.Test.YtmjdngnagiloeaaBhLw03p
set_option linter.all false
namespace Go.Proofs.Ytmjdngnagiloeaa.Dn
open Go Go.Pev
set_option linter.unusedVariables false
set_option linter.unusedSimpArgs false
set_option maxRecDepth 4000
def qoz (v6 : Bool) (hi lo bits : Int) (w6 : Bool) (whi wlo wbits : Int) : Bool :=
  qfq v6 hi lo bits && (decide (bits ≥ wbits) && qmn w6 whi wlo wbits v6 hi lo)
theorem q87 (v6 : Bool) (hi lo bits : Int) (w6 : Bool) (whi wlo wbits : Int) : qip v6 hi lo bits w6 whi wlo wbits = some (qoz v6 hi lo bits w6 whi wlo wbits) := by
  rw [qzx]; unfold qtn qoz
  simp only [q00, qwk, oB_s]
  cases h1 : qfq v6 hi lo bits
  · simp
  · cases h2 : qfq w6 whi wlo wbits
    · simp [qmn, h2]
    · cases h3 : decide (bits ≥ wbits) <;> simp
end Go.Proofs.Ytmjdngnagiloeaa.Dn
