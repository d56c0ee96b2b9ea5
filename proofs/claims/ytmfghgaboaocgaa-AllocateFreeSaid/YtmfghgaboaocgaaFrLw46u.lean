/- Tables of blocks: BlocksStay. -/
import Derived.Test.YtmfghgaboaocgaaFrLw46t
set_option linter.all false
namespace Go.Proofs.Ytmfghgaboaocgaa.Dn
open Go Go.Pev
set_option linter.unusedVariables false
set_option linter.unusedSimpArgs false
set_option maxRecDepth 4000
theorem qbrv {l : List AV} (ht : qg2 l) (hn : l.length ≤ 512) : qx8 l = 0 := (q9b hn).2 ht
end Go.Proofs.Ytmfghgaboaocgaa.Dn
