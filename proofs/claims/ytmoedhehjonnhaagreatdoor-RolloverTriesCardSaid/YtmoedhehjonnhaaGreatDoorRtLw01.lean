/- Names: what ddiref01 answers. -/
import Derived.Test.YtmoedhehjonnhaaGreatDoorRtDn22
import Derived.Test.YtmoedhehjonnhaaGreatDoorRtLibD
set_option linter.all false
namespace Go.Proofs.YtmoedhehjonnhaaGreatDoor.Dn
open Go Go.Pev
set_option linter.unusedVariables false
set_option linter.unusedSimpArgs false
def labC (c : UInt8) : Bool := (decide (97 ≤ c.toNat) && decide (c.toNat ≤ 122)) || (decide (48 ≤ c.toNat) && decide (c.toNat ≤ 57)) || c.toNat == 45 || c.toNat == 95
def q5e (x : List UInt8) : Bool := x == [42] || (decide (1 ≤ x.length) && decide (x.length ≤ 63) && x.all labC)
def spl : List UInt8 → List UInt8 → List (List UInt8)
  | _, [] => []
  | cur, c :: r => if c = 46 then cur :: spl [] r else spl (cur ++ [c]) r
def q1x (x : List UInt8) : Bool := decide (2 ≤ x.length) && decide (x.length ≤ 254) && x.getLast? == some 46
def qs5 : Bool → List (List UInt8) → Bool
  | _, [] => true
  | f, l :: ls => q5e l && (f || !(l == [42])) && qs5 false ls
def q1y (x : List UInt8) : List (List UInt8) × Bool :=
  if x = [46] then ([], true) else if q1x x = true ∧ qs5 true (spl [] x) = true then (spl [] x, true) else ([], false)
def qqf (x : List UInt8) : Bool := (q1y x).2
end Go.Proofs.YtmoedhehjonnhaaGreatDoor.Dn
