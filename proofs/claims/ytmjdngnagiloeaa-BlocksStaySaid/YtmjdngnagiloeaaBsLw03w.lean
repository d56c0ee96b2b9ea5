/- Prefixes within others. -/
import Derived.Test.YtmjdngnagiloeaaBsLw03p
set_option linter.all false
namespace Go.Proofs.Ytmjdngnagiloeaa.Dn
open Go Go.Pev
set_option linter.unusedVariables false
set_option linter.unusedSimpArgs false
set_option maxRecDepth 4000
def qo8 (v6 : Bool) (hi lo bits : Int) (w6 : Bool) (whi wlo wbits : Int) : Bool :=
  qfl v6 hi lo bits && (decide (bits ≥ wbits) && qrb w6 whi wlo wbits v6 hi lo)
theorem q94 (v6 : Bool) (hi lo bits : Int) (w6 : Bool) (whi wlo wbits : Int) : qio v6 hi lo bits w6 whi wlo wbits = some (qo8 v6 hi lo bits w6 whi wlo wbits) := by
  rw [q0l]; unfold qtz qo8
  simp only [q1o, qbck, oB_s]
  cases h1 : qfl v6 hi lo bits
  · simp
  · cases h2 : qfl w6 whi wlo wbits
    · simp [qrb, h2]
    · cases h3 : decide (bits ≥ wbits) <;> simp
end Go.Proofs.Ytmjdngnagiloeaa.Dn
