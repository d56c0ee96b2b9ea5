/- Prefixes within others. -/
import Derived.Test.YtmjdngnagiloeaaBnLw03p
set_option linter.all false
namespace Go.Proofs.Ytmjdngnagiloeaa.Dn
open Go Go.Pev
set_option linter.unusedVariables false
set_option linter.unusedSimpArgs false
set_option maxRecDepth 4000
def qng (v6 : Bool) (hi lo bits : Int) (w6 : Bool) (whi wlo wbits : Int) : Bool :=
  qfl v6 hi lo bits && (decide (bits ≥ wbits) && qqp w6 whi wlo wbits v6 hi lo)
theorem q1p (v6 : Bool) (hi lo bits : Int) (w6 : Bool) (whi wlo wbits : Int) : qgf v6 hi lo bits w6 whi wlo wbits = some (qng v6 hi lo bits w6 whi wlo wbits) := by
  rw [qzk]; unfold qtd qng
  simp only [q0m, qbbb, oB_s]
  cases h1 : qfl v6 hi lo bits
  · simp
  · cases h2 : qfl w6 whi wlo wbits
    · simp [qqp, h2]
    · cases h3 : decide (bits ≥ wbits) <;> simp
end Go.Proofs.Ytmjdngnagiloeaa.Dn
