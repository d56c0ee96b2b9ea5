/- The parent of a prefix, the holder of an address, the children of a block. -/
import Derived.Test.YtmfghgaboaocgaaFrLw46p
set_option linter.all false
namespace Go.Proofs.Ytmfghgaboaocgaa.Dn
open Go Go.Pev
set_option linter.unusedVariables false
set_option linter.unusedSimpArgs false
set_option maxRecDepth 4000
end Go.Proofs.Ytmfghgaboaocgaa.Dn
