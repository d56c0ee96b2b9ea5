/- The law of RolloverSafes. -/
import Derived.Test.YtmoedhehjonnhaaGreatDoorRoLw22o
import Derived.Test.YtmoedhehjonnhaaGreatDoorRoLw22l
set_option linter.all false
namespace Go.Proofs.YtmoedhehjonnhaaGreatDoor.Dn
open Go Go.Pev
set_option linter.unusedVariables false
set_option linter.unusedSimpArgs false
set_option maxRecDepth 8000
end Go.Proofs.YtmoedhehjonnhaaGreatDoor.Dn
