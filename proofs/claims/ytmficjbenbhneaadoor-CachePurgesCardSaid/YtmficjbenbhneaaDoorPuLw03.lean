/- Addresses and prefixes: what ddiref02, ddiref03 answer. -/
import Derived.Test.YtmficjbenbhneaaDoorPuDn29
import Derived.Test.YtmficjbenbhneaaDoorPuLibD
set_option linter.all false
namespace Go.Proofs.YtmficjbenbhneaaDoor.Dn
open Go Go.Pev
set_option linter.unusedVariables false
set_option linter.unusedSimpArgs false
def qec (v6 : Bool) (hi lo : Int) : Bool := v6 || (hi == 0 && decide (lo < 4294967296))
end Go.Proofs.YtmficjbenbhneaaDoor.Dn
