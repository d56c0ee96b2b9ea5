/- Names: what ddiref01 answers. -/
import Derived.Test.YtmoedhehjonnhaaGreatDoorRoDn22
import Derived.Test.YtmoedhehjonnhaaGreatDoorRoLibD
set_option linter.all false
namespace Go.Proofs.YtmoedhehjonnhaaGreatDoor.Dn
open Go Go.Pev
set_option linter.unusedVariables false
set_option linter.unusedSimpArgs false
def labC (c : UInt8) : Bool := (decide (97 ≤ c.toNat) && decide (c.toNat ≤ 122)) || (decide (48 ≤ c.toNat) && decide (c.toNat ≤ 57)) || c.toNat == 45 || c.toNat == 95
def q3l (x : List UInt8) : Bool := x == [42] || (decide (1 ≤ x.length) && decide (x.length ≤ 63) && x.all labC)
def spl : List UInt8 → List UInt8 → List (List UInt8)
  | _, [] => []
  | cur, c :: r => if c = 46 then cur :: spl [] r else spl (cur ++ [c]) r
def q0g (x : List UInt8) : Bool := decide (2 ≤ x.length) && decide (x.length ≤ 254) && x.getLast? == some 46
def qro : Bool → List (List UInt8) → Bool
  | _, [] => true
  | f, l :: ls => q3l l && (f || !(l == [42])) && qro false ls
def q0h (x : List UInt8) : List (List UInt8) × Bool :=
  if x = [46] then ([], true) else if q0g x = true ∧ qro true (spl [] x) = true then (spl [] x, true) else ([], false)
def qo0 (x : List UInt8) : Bool := (q0h x).2
end Go.Proofs.YtmoedhehjonnhaaGreatDoor.Dn
