/- The law of RolloverTries. -/
import Derived.Test.YtmoedhehjonnhaaGreatDoorRyLw22p
set_option linter.all false
namespace Go.Proofs.YtmoedhehjonnhaaGreatDoor.Dn
open Go Go.Pev
set_option linter.unusedVariables false
set_option linter.unusedSimpArgs false
set_option maxRecDepth 8000
def keq (a b : Mg) : Bool := a.z == b.z && (a.k == b.k && (a.s == b.s && true))
theorem q7x (L : List Mg) (i : Nat) : (kyL L)[i]? = (L[i]?).map Mg.key := by simp [kyL]
end Go.Proofs.YtmoedhehjonnhaaGreatDoor.Dn
