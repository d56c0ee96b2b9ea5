/- Addresses and prefixes: what ddiref02, ddiref03 answer. -/
import Derived.Test.YtmfghgaboaocgaaFrDn47
import Derived.Test.YtmfghgaboaocgaaFrLibD
set_option linter.all false
namespace Go.Proofs.Ytmfghgaboaocgaa.Dn
open Go Go.Pev
set_option linter.unusedVariables false
set_option linter.unusedSimpArgs false
def qm7 (v6 : Bool) (hi lo : Int) : Bool := v6 || (hi == 0 && decide (lo < 4294967296))
def qt (v6 : Bool) : Int := if v6 then 128 else 32
def qbpk (p : Int × Int) : Int × Int := (IntKind.u64.wrap (IntKind.u64.wrap (p.1 * 2) + IntKind.u64.wrap (p.2.tdiv 9223372036854775808)), IntKind.u64.wrap (IntKind.u64.wrap (p.2 * 2) + 1))
def qlg : Nat → Int × Int
  | 0 => (0, 0)
  | n + 1 => qbpk (qlg n)
def qf2 (v6 : Bool) (hi lo bits : Int) : Bool :=
  qm7 v6 hi lo && decide (0 ≤ bits) && decide (bits ≤ qt v6) && (qce .and .u64 hi (qlg (qt v6 - bits).toNat).1 == 0) && (qce .and .u64 lo (qlg (qt v6 - bits).toNat).2 == 0)
end Go.Proofs.Ytmfghgaboaocgaa.Dn
