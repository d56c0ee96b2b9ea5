/- Prefixes: what the program's words of layers 2 and 3, and ddiref03's, answer. -/
import Derived.Test.YtmficjbenbhneaaDoorToLw03
set_option linter.all false
namespace Go.Proofs.YtmficjbenbhneaaDoor.Dn
open Go Go.Pev
set_option linter.unusedVariables false
set_option linter.unusedSimpArgs false
set_option maxRecDepth 4000
def uok (x : Int) : Prop := 0 ≤ x ∧ x ≤ 18446744073709551615
theorem q79 (n : Nat) (h : n < 18446744073709551616) : IntKind.u64.wrap (n : Int) = n := wu64 (by omega) (by omega)
theorem qbhp (x y : Int) : qfa .and .u64 x y = ((BitVec.ofInt 64 x &&& BitVec.ofInt 64 y).toNat : Int) := by
  have := (BitVec.ofInt 64 x &&& BitVec.ofInt 64 y).isLt
  show IntKind.u64.wrap ((BitVec.ofInt 64 x &&& BitVec.ofInt 64 y).toNat : Int) = _
  exact q79 _ (by omega)
theorem qbc0 (x y : Int) : qfa .andNot .u64 x y = ((BitVec.ofInt 64 x &&& ~~~BitVec.ofInt 64 y).toNat : Int) := by
  have := (BitVec.ofInt 64 x &&& ~~~BitVec.ofInt 64 y).isLt
  show IntKind.u64.wrap ((BitVec.ofInt 64 x &&& ~~~BitVec.ofInt 64 y).toNat : Int) = _
  exact q79 _ (by omega)
theorem qbec (v6 : Bool) (hi lo : Int) : qsx v6 hi lo = some (qd8 v6 hi lo) := by
  rw [q5k]; unfold qkt qd8
  have : decide (lo ≤ 4294967295) = decide (lo < 4294967296) := by apply decide_eq_decide.2; omega
  cases v6 <;> cases (hi == 0) <;> simp [this]
end Go.Proofs.YtmficjbenbhneaaDoor.Dn
