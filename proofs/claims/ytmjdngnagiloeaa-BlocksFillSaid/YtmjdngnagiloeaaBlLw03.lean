/- Addresses and prefixes: what ddiref02, ddiref03 answer. -/
import Derived.Test.YtmjdngnagiloeaaBlDn46
import Derived.Test.YtmjdngnagiloeaaBlLibD
set_option linter.all false
namespace Go.Proofs.Ytmjdngnagiloeaa.Dn
open Go Go.Pev
set_option linter.unusedVariables false
set_option linter.unusedSimpArgs false
def ql5 (v6 : Bool) (hi lo : Int) : Bool := v6 || (hi == 0 && decide (lo < 4294967296))
def qbi (v6 : Bool) : Int := if v6 then 128 else 32
def qbtm (p : Int × Int) : Int × Int := (IntKind.u64.wrap (IntKind.u64.wrap (p.1 * 2) + IntKind.u64.wrap (p.2.tdiv 9223372036854775808)), IntKind.u64.wrap (IntKind.u64.wrap (p.2 * 2) + 1))
def qlk : Nat → Int × Int
  | 0 => (0, 0)
  | n + 1 => qbtm (qlk n)
def qgk (v6 : Bool) (hi lo bits : Int) : Bool :=
  ql5 v6 hi lo && decide (0 ≤ bits) && decide (bits ≤ qbi v6) && (qcg .and .u64 hi (qlk (qbi v6 - bits).toNat).1 == 0) && (qcg .and .u64 lo (qlk (qbi v6 - bits).toNat).2 == 0)
end Go.Proofs.Ytmjdngnagiloeaa.Dn
