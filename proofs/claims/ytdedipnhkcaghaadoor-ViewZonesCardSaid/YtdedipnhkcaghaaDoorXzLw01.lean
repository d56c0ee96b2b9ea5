/- Names: what ddiref01 answers. -/
import Derived.Test.YtdedipnhkcaghaaDoorXzDnZ
import Derived.Test.YtdedipnhkcaghaaDoorXzLibC
set_option linter.all false
namespace Go.Proofs.YtdedipnhkcaghaaDoor.Dn
open Go Go.Pev
set_option linter.unusedVariables false
set_option linter.unusedSimpArgs false

def labC (c : UInt8) : Bool := (decide (97 ≤ c.toNat) && decide (c.toNat ≤ 122)) || (decide (48 ≤ c.toNat) && decide (c.toNat ≤ 57)) || c.toNat == 45 || c.toNat == 95
def isLab (x : List UInt8) : Bool := x == [42] || (decide (1 ≤ x.length) && decide (x.length ≤ 63) && x.all labC)

/-- The parts that end with a dot. -/
def spl : List UInt8 → List UInt8 → List (List UInt8)
  | _, [] => []
  | cur, c :: r => if c = 46 then cur :: spl [] r else spl (cur ++ [c]) r
/-- A name without its root. -/
def endsOk (x : List UInt8) : Bool := decide (2 ≤ x.length) && decide (x.length ≤ 254) && x.getLast? == some 46
/-- The labels may stand: a star only as the first one of all. -/
def labsOk : Bool → List (List UInt8) → Bool
  | _, [] => true
  | f, l :: ls => isLab l && (f || !(l == [42])) && labsOk false ls
def splitW (x : List UInt8) : List (List UInt8) × Bool :=
  if x = [46] then ([], true) else if endsOk x = true ∧ labsOk true (spl [] x) = true then (spl [] x, true) else ([], false)
def okName (x : List UInt8) : Bool := (splitW x).2
def avS (l : List (List UInt8)) : List AV := l.map AV.str

end Go.Proofs.YtdedipnhkcaghaaDoor.Dn

