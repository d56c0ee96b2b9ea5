/- Prefixes within others. -/
import Derived.Test.YtmfghgaboaocgaaFrLw03p
set_option linter.all false
namespace Go.Proofs.Ytmfghgaboaocgaa.Dn
open Go Go.Pev
set_option linter.unusedVariables false
set_option linter.unusedSimpArgs false
set_option maxRecDepth 4000
def qm8 (v6 : Bool) (hi lo bits : Int) (w6 : Bool) (whi wlo wbits : Int) : Bool :=
  qf2 v6 hi lo bits && (decide (bits ≥ wbits) && q9q w6 whi wlo wbits v6 hi lo)
theorem qx6 (v6 : Bool) (hi lo bits : Int) (w6 : Bool) (whi wlo wbits : Int) : qfs v6 hi lo bits w6 whi wlo wbits = some (qm8 v6 hi lo bits w6 whi wlo wbits) := by
  rw [qzq]; unfold qt7 qm8
  simp only [q0p, qblw, oB_s]
  cases h1 : qf2 v6 hi lo bits
  · simp
  · cases h2 : qf2 w6 whi wlo wbits
    · simp [q9q, h2]
    · cases h3 : decide (bits ≥ wbits) <;> simp
end Go.Proofs.Ytmfghgaboaocgaa.Dn
