import Derived.Test.YtoaaphlopbabeaaGreatDoorProg
import Derived.Test.YtoaaphlopbabeaaGreatDoorCILibD
import Derived.Test.YtoaaphlopbabeaaGreatDoorCIDn51x2
set_option linter.all false
namespace Go.Proofs.YtoaaphlopbabeaaGreatDoor.Dn
open Go Go.Pev
set_option maxRecDepth 100000
set_option maxHeartbeats 4000000
end Go.Proofs.YtoaaphlopbabeaaGreatDoor.Dn
