/- Names: what ddiref01 answers. -/
import Derived.Test.YtmficjbenbhneaaDoorPuDn29
import Derived.Test.YtmficjbenbhneaaDoorPuLibD
set_option linter.all false
namespace Go.Proofs.YtmficjbenbhneaaDoor.Dn
open Go Go.Pev
set_option linter.unusedVariables false
set_option linter.unusedSimpArgs false
def labC (c : UInt8) : Bool := (decide (97 ≤ c.toNat) && decide (c.toNat ≤ 122)) || (decide (48 ≤ c.toNat) && decide (c.toNat ≤ 57)) || c.toNat == 45 || c.toNat == 95
def q6f (x : List UInt8) : Bool := x == [42] || (decide (1 ≤ x.length) && decide (x.length ≤ 63) && x.all labC)
def spl : List UInt8 → List UInt8 → List (List UInt8)
  | _, [] => []
  | cur, c :: r => if c = 46 then cur :: spl [] r else spl (cur ++ [c]) r
def qnn (x : List UInt8) : Bool := decide (2 ≤ x.length) && decide (x.length ≤ 254) && x.getLast? == some 46
def qsn : Bool → List (List UInt8) → Bool
  | _, [] => true
  | f, l :: ls => q6f l && (f || !(l == [42])) && qsn false ls
def qih (x : List UInt8) : List (List UInt8) × Bool :=
  if x = [46] then ([], true) else if qnn x = true ∧ qsn true (spl [] x) = true then (spl [] x, true) else ([], false)
def qu (x : List UInt8) : Bool := (qih x).2
def avS (l : List (List UInt8)) : List AV := l.map AV.str
theorem q34 : ∀ (r cur : List UInt8), (spl cur r).length ≤ r.length
  | [], _ => by simp [spl]
  | c :: r, cur => by
    unfold spl; split
    · have := q34 r []; simp; omega
    · have := q34 r (cur ++ [c]); simp; omega
end Go.Proofs.YtmficjbenbhneaaDoor.Dn
