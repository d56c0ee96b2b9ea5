/- Addresses of subnets: what the program's Address and ddiref47's answer. -/
import Derived.Test.YtmfghgaboaocgaaChLw46
set_option linter.all false
namespace Go.Proofs.Ytmfghgaboaocgaa.Dn
open Go Go.Pev
set_option linter.unusedVariables false
set_option linter.unusedSimpArgs false
set_option maxRecDepth 4000
end Go.Proofs.Ytmfghgaboaocgaa.Dn
