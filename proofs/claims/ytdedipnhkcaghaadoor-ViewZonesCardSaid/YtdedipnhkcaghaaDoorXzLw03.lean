/- Addresses and prefixes: what ddiref02, ddiref03 answer. -/
import Derived.Test.YtdedipnhkcaghaaDoorXzDnZ
import Derived.Test.YtdedipnhkcaghaaDoorXzLibC
set_option linter.all false
namespace Go.Proofs.YtdedipnhkcaghaaDoor.Dn
open Go Go.Pev
set_option linter.unusedVariables false
set_option linter.unusedSimpArgs false

def addrOk (v6 : Bool) (hi lo : Int) : Bool := v6 || (hi == 0 && decide (lo < 4294967296))
def longOf (v6 : Bool) : Int := if v6 then 128 else 32
/-- One more of the lowest bits. -/
def onesStep (p : Int × Int) : Int × Int := (IntKind.u64.wrap (IntKind.u64.wrap (p.1 * 2) + IntKind.u64.wrap (p.2.tdiv 9223372036854775808)), IntKind.u64.wrap (IntKind.u64.wrap (p.2 * 2) + 1))
def onesF : Nat → Int × Int
  | 0 => (0, 0)
  | n + 1 => onesStep (onesF n)
def prefOk (v6 : Bool) (hi lo bits : Int) : Bool :=
  addrOk v6 hi lo && decide (0 ≤ bits) && decide (bits ≤ longOf v6) && (ibits .and .u64 hi (onesF (longOf v6 - bits).toNat).1 == 0) && (ibits .and .u64 lo (onesF (longOf v6 - bits).toNat).2 == 0)
end Go.Proofs.YtdedipnhkcaghaaDoor.Dn

