/- Tables of blocks: the examples of the chapter; BlocksChecks, BlocksChanges, BlocksFinds. -/
import Derived.Test.YtmfghgaboaocgaaFrLw46h
set_option linter.all false
namespace Go.Proofs.Ytmfghgaboaocgaa.Dn
open Go Go.Pev
set_option linter.unusedVariables false
set_option linter.unusedSimpArgs false
set_option maxRecDepth 4000
end Go.Proofs.Ytmfghgaboaocgaa.Dn
