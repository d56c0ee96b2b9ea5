/- Prefixes within others. -/
import Derived.Test.YtmjdngnagiloeaaBfLw03p
set_option linter.all false
namespace Go.Proofs.Ytmjdngnagiloeaa.Dn
open Go Go.Pev
set_option linter.unusedVariables false
set_option linter.unusedSimpArgs false
set_option maxRecDepth 4000
def qnp (v6 : Bool) (hi lo bits : Int) (w6 : Bool) (whi wlo wbits : Int) : Bool :=
  qew v6 hi lo bits && (decide (bits ≥ wbits) && qnc w6 whi wlo wbits v6 hi lo)
theorem qblc (v6 : Bool) (hi lo bits : Int) (w6 : Bool) (whi wlo wbits : Int) : qjw v6 hi lo bits w6 whi wlo wbits = some (qnp v6 hi lo bits w6 whi wlo wbits) := by
  rw [q7n]; unfold qzl qnp
  simp only [q86, qbov, oB_s]
  cases h1 : qew v6 hi lo bits
  · simp
  · cases h2 : qew w6 whi wlo wbits
    · simp [qnc, h2]
    · cases h3 : decide (bits ≥ wbits) <;> simp
theorem q4z (v6 : Bool) (hi lo bits : Int) (w6 : Bool) (whi wlo wbits : Int) (u1 : uok hi) (u2 : uok lo) : qgu v6 hi lo bits w6 whi wlo wbits = some (qnp v6 hi lo bits w6 whi wlo wbits) := by
  rw [q32]; unfold qvt qnp
  simp only [q4y, qbow _ _ _ _ _ _ _ u1 u2, oB_s]
  cases h1 : qew v6 hi lo bits
  · simp
  · cases h3 : decide (bits ≥ wbits) <;> simp
end Go.Proofs.Ytmjdngnagiloeaa.Dn
