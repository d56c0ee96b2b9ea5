/- The law of RolloverTries. -/
import Derived.Test.YtmoedhehjonnhaaGreatDoorRoLw22p
set_option linter.all false
namespace Go.Proofs.YtmoedhehjonnhaaGreatDoor.Dn
open Go Go.Pev
set_option linter.unusedVariables false
set_option linter.unusedSimpArgs false
set_option maxRecDepth 8000
def keq (a b : Mg) : Bool := a.z == b.z && (a.k == b.k && (a.s == b.s && true))
end Go.Proofs.YtmoedhehjonnhaaGreatDoor.Dn
