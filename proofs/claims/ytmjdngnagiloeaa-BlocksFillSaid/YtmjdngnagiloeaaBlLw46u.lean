/- Tables of blocks: BlocksStay. -/
import Derived.Test.YtmjdngnagiloeaaBlLw46t
set_option linter.all false
namespace Go.Proofs.Ytmjdngnagiloeaa.Dn
open Go Go.Pev
set_option linter.unusedVariables false
set_option linter.unusedSimpArgs false
set_option maxRecDepth 4000
end Go.Proofs.Ytmjdngnagiloeaa.Dn
