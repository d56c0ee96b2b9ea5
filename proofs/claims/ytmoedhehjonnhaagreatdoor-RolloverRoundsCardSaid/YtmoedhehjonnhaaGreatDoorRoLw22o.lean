/- The reference's Safe: points and intervals. -/
import Derived.Test.YtmoedhehjonnhaaGreatDoorRoLw22n
set_option linter.all false
namespace Go.Proofs.YtmoedhehjonnhaaGreatDoor.Dn
open Go Go.Pev
set_option linter.unusedVariables false
set_option linter.unusedSimpArgs false
set_option maxRecDepth 8000
end Go.Proofs.YtmoedhehjonnhaaGreatDoor.Dn
