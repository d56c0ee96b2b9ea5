/- Tables of blocks: what is put in, taken out, split or joined leaves a table. -/
import Derived.Test.YtmfghgaboaocgaaChLw46m
set_option linter.all false
namespace Go.Proofs.Ytmfghgaboaocgaa.Dn
open Go Go.Pev
set_option linter.unusedVariables false
set_option linter.unusedSimpArgs false
set_option maxRecDepth 4000
end Go.Proofs.Ytmfghgaboaocgaa.Dn
