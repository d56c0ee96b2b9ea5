/- Prefixes: what the program's words of layers 2 and 3, and ddiref03's, answer. -/
import Derived.Test.YtmficjbenbhneaaDoorReLw03
set_option linter.all false
namespace Go.Proofs.YtmficjbenbhneaaDoor.Dn
open Go Go.Pev
set_option linter.unusedVariables false
set_option linter.unusedSimpArgs false
set_option maxRecDepth 4000
def uok (x : Int) : Prop := 0 ≤ x ∧ x ≤ 18446744073709551615
theorem q7q (n : Nat) (h : n < 18446744073709551616) : IntKind.u64.wrap (n : Int) = n := wu64 (by omega) (by omega)
theorem qbg8 (x y : Int) : qe8 .and .u64 x y = ((BitVec.ofInt 64 x &&& BitVec.ofInt 64 y).toNat : Int) := by
  have := (BitVec.ofInt 64 x &&& BitVec.ofInt 64 y).isLt
  show IntKind.u64.wrap ((BitVec.ofInt 64 x &&& BitVec.ofInt 64 y).toNat : Int) = _
  exact q7q _ (by omega)
theorem qbch (x y : Int) : qe8 .andNot .u64 x y = ((BitVec.ofInt 64 x &&& ~~~BitVec.ofInt 64 y).toNat : Int) := by
  have := (BitVec.ofInt 64 x &&& ~~~BitVec.ofInt 64 y).isLt
  show IntKind.u64.wrap ((BitVec.ofInt 64 x &&& ~~~BitVec.ofInt 64 y).toNat : Int) = _
  exact q7q _ (by omega)
theorem qbds (v6 : Bool) (hi lo : Int) : qsg v6 hi lo = some (qd3 v6 hi lo) := by
  rw [q43]; unfold qkk qd3
  have : decide (lo ≤ 4294967295) = decide (lo < 4294967296) := by apply decide_eq_decide.2; omega
  cases v6 <;> cases (hi == 0) <;> simp [this]
end Go.Proofs.YtmficjbenbhneaaDoor.Dn
