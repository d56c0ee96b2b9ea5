/- Prefixes within others. -/
import Derived.Test.YtmfghgaboaocgaaChLw03p
set_option linter.all false
namespace Go.Proofs.Ytmfghgaboaocgaa.Dn
open Go Go.Pev
set_option linter.unusedVariables false
set_option linter.unusedSimpArgs false
set_option maxRecDepth 4000
def qm9 (v6 : Bool) (hi lo bits : Int) (w6 : Bool) (whi wlo wbits : Int) : Bool :=
  qdy v6 hi lo bits && (decide (bits ≥ wbits) && qbau w6 whi wlo wbits v6 hi lo)
theorem qbmq (v6 : Bool) (hi lo bits : Int) (w6 : Bool) (whi wlo wbits : Int) : qjd v6 hi lo bits w6 whi wlo wbits = some (qm9 v6 hi lo bits w6 whi wlo wbits) := by
  rw [q76]; unfold q0j qm9
  simp only [q9g, qb12, oB_s]
  cases h1 : qdy v6 hi lo bits
  · simp
  · cases h2 : qdy w6 whi wlo wbits
    · simp [qbau, h2]
    · cases h3 : decide (bits ≥ wbits) <;> simp
theorem q5x (v6 : Bool) (hi lo bits : Int) (w6 : Bool) (whi wlo wbits : Int) (u1 : uok hi) (u2 : uok lo) : qg8 v6 hi lo bits w6 whi wlo wbits = some (qm9 v6 hi lo bits w6 whi wlo wbits) := by
  rw [q4x]; unfold qwm qm9
  simp only [q0d, qb13 _ _ _ _ _ _ _ u1 u2, oB_s]
  cases h1 : qdy v6 hi lo bits
  · simp
  · cases h3 : decide (bits ≥ wbits) <;> simp
end Go.Proofs.Ytmfghgaboaocgaa.Dn
