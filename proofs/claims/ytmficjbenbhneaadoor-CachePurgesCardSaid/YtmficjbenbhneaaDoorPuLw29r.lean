/- Caches: what Get finds; the law of CacheReads. -/
import Derived.Test.YtmficjbenbhneaaDoorPuLw29t
set_option linter.all false
namespace Go.Proofs.YtmficjbenbhneaaDoor.Dn
open Go Go.Pev
set_option linter.unusedVariables false
set_option linter.unusedSimpArgs false
set_option maxRecDepth 8000
theorem qber {L : List En} {n : List UInt8} {t now : Int} {k : Nat} {e : En} (h1 : qge L n t now = (k : Int)) (h2 : L[k]? = some e) : qce L n t now = some (k, e) := by
  unfold qce
  rw [h1, if_neg (by omega), Int.toNat_natCast, h2]
end Go.Proofs.YtmficjbenbhneaaDoor.Dn
