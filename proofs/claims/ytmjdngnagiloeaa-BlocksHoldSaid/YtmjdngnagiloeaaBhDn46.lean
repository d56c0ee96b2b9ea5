import Derived.Test.YtmjdngnagiloeaaProg
import Derived.Test.YtmjdngnagiloeaaBhLibD
import Derived.Test.YtmjdngnagiloeaaBhDn46x3
set_option linter.all false
namespace Go.Proofs.Ytmjdngnagiloeaa.Dn
open Go Go.Pev
set_option linter.unusedVariables false
set_option linter.unusedSimpArgs false
set_option maxRecDepth 100000
set_option maxHeartbeats 4000000
end Go.Proofs.Ytmjdngnagiloeaa.Dn
