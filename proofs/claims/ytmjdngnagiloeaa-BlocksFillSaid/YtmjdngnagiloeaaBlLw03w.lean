/- Prefixes within others. -/
import Derived.Test.YtmjdngnagiloeaaBlLw03p
set_option linter.all false
namespace Go.Proofs.Ytmjdngnagiloeaa.Dn
open Go Go.Pev
set_option linter.unusedVariables false
set_option linter.unusedSimpArgs false
set_option maxRecDepth 4000
def qqa (v6 : Bool) (hi lo bits : Int) (w6 : Bool) (whi wlo wbits : Int) : Bool :=
  qgk v6 hi lo bits && (decide (bits ≥ wbits) && qph w6 whi wlo wbits v6 hi lo)
theorem q4c (v6 : Bool) (hi lo bits : Int) (w6 : Bool) (whi wlo wbits : Int) : qg3 v6 hi lo bits w6 whi wlo wbits = some (qqa v6 hi lo bits w6 whi wlo wbits) := by
  rw [q17]; unfold qu4 qqa
  simp only [qxs, qx4, oB_s]
  cases h1 : qgk v6 hi lo bits
  · simp
  · cases h2 : qgk w6 whi wlo wbits
    · simp [qph, h2]
    · cases h3 : decide (bits ≥ wbits) <;> simp
end Go.Proofs.Ytmjdngnagiloeaa.Dn
