/- Prefixes within others. -/
import Derived.Test.YtmjdngnagiloeaaBcLw03p
set_option linter.all false
namespace Go.Proofs.Ytmjdngnagiloeaa.Dn
open Go Go.Pev
set_option linter.unusedVariables false
set_option linter.unusedSimpArgs false
set_option maxRecDepth 4000
def withinF (v6 : Bool) (hi lo bits : Int) (w6 : Bool) (whi wlo wbits : Int) : Bool :=
  prefOk v6 hi lo bits && (decide (bits ≥ wbits) && contF w6 whi wlo wbits v6 hi lo)
theorem p_pWithin (v6 : Bool) (hi lo bits : Int) (w6 : Bool) (whi wlo wbits : Int) : qgx v6 hi lo bits w6 whi wlo wbits = some (withinF v6 hi lo bits w6 whi wlo wbits) := by
  rw [qwo]; unfold qrg withinF
  simp only [p_pValid, p_pContains, oB_s]
  cases h1 : prefOk v6 hi lo bits
  · simp
  · cases h2 : prefOk w6 whi wlo wbits
    · simp [contF, h2]
    · cases h3 : decide (bits ≥ wbits) <;> simp
theorem p_rWithin (v6 : Bool) (hi lo bits : Int) (w6 : Bool) (whi wlo wbits : Int) (u1 : uok hi) (u2 : uok lo) : qkg v6 hi lo bits w6 whi wlo wbits = some (withinF v6 hi lo bits w6 whi wlo wbits) := by
  rw [qt7]; unfold qox withinF
  simp only [p_Valid03, p_rContains _ _ _ _ _ _ _ u1 u2, oB_s]
  cases h1 : prefOk v6 hi lo bits
  · simp
  · cases h3 : decide (bits ≥ wbits) <;> simp
end Go.Proofs.Ytmjdngnagiloeaa.Dn
