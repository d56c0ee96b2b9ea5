/- Data of records: ddiref04, ddiref05, ddiref07 answer always. -/
import Derived.Test.YtmficjbenbhneaaDoorPuLw01
import Derived.Test.YtmficjbenbhneaaDoorPuLw03
set_option linter.all false
namespace Go.Proofs.YtmficjbenbhneaaDoor.Dn
open Go Go.Pev
set_option linter.unusedVariables false
set_option linter.unusedSimpArgs false
def mnem (t : Int) : List UInt8 :=
  if t = 1 then [65] else if t = 2 then [78, 83] else if t = 5 then [67, 78, 65, 77, 69] else if t = 6 then [83, 79, 65] else if t = 12 then [80, 84, 82] else if t = 15 then [77, 88] else if t = 16 then [84, 88, 84] else if t = 28 then [65, 65, 65, 65]
  else if t = 33 then [83, 82, 86] else if t = 39 then [68, 78, 65, 77, 69] else if t = 43 then [68, 83] else if t = 46 then [82, 82, 83, 73, 71] else if t = 47 then [78, 83, 69, 67] else if t = 48 then [68, 78, 83, 75, 69, 89] else []
def qii (t : Int) : Bool := !(mnem t == [])
def qnr (x : List UInt8) : Bool := qu x && !(x.head? == some 42)
theorem qbcz (x : List UInt8) (h : qu x = true) : x ≠ [] := by
  rintro rfl
  simp [qu, qih, qnn] at h
def inB (n m : Int) : Bool := decide (n ≥ 0) && decide (n ≤ m)
def u32B (n : Int) : Bool := decide (n ≥ 0) && decide (n < 4294967296)
def q2o (x : List UInt8) : Bool := decide ((x.length : Int) ≥ 1) && decide ((x.length : Int) ≤ 255)
def allF (b : Int) : Nat → Bool
  | 0 => true
  | n + 1 => (!((qfj .and .u64 (b.fdiv (2 ^ (63 - n))) 1) == 1) || qii (63 - n : Nat)) && allF b n
theorem co {R : Type} (k : Bool → Option R) (p a b : Bool) : (bif p then k a else k b) = k (bif p then a else b) := by cases p <;> rfl
def qew (t : Int) (v6 : Bool) (hi lo : Int) (h m x : List UInt8) (a b c d e f bits : Int) : Bool × Int × Int × List UInt8 × List UInt8 × List UInt8 × Int × Int × Int × Int × Int × Int × Int :=
  if t = 1 ∨ t = 28 then (v6, hi, lo, [], [], [], 0, 0, 0, 0, 0, 0, 0)
  else if t = 2 ∨ t = 5 ∨ t = 12 ∨ t = 39 then (false, 0, 0, h, [], [], 0, 0, 0, 0, 0, 0, 0)
  else if t = 6 then (false, 0, 0, h, m, [], a, b, c, d, e, 0, 0)
  else if t = 15 then (false, 0, 0, h, [], [], a, 0, 0, 0, 0, 0, 0)
  else if t = 16 then (false, 0, 0, [], [], x, 0, 0, 0, 0, 0, 0, 0)
  else if t = 33 then (false, 0, 0, h, [], [], a, b, c, 0, 0, 0, 0)
  else if t = 43 ∨ t = 48 then (false, 0, 0, [], [], x, a, b, c, 0, 0, 0, 0)
  else if t = 46 then (false, 0, 0, h, [], x, a, b, c, d, e, f, 0)
  else (false, 0, 0, h, [], [], 0, 0, 0, 0, 0, 0, bits)
def q8d (t : Int) (v6 : Bool) (hi lo : Int) (h m x : List UInt8) (a b c d e f bits : Int) : Bool :=
  qii t && (qew t v6 hi lo h m x a b c d e f bits == (v6, hi, lo, h, m, x, a, b, c, d, e, f, bits)) &&
    (if t = 1 then qec v6 hi lo && !v6
     else if t = 28 then v6
     else if t = 6 then qnr h && (qnr m && (u32B a && (inB b 2147483647 && (inB c 2147483647 && (inB d 2147483647 && inB e 2147483647)))))
     else if t = 15 then qnr h && inB a 65535
     else if t = 16 then decide ((x.length : Int) ≤ 255)
     else if t = 33 then qnr h && (inB a 65535 && (inB b 65535 && inB c 65535))
     else if t = 43 then inB a 65535 && (inB b 255 && (inB c 255 && q2o x))
     else if t = 46 then (qii a && a != 46) && (inB b 127 && (inB c 2147483647 && (inB d 4294967295 && (inB e 4294967295 && (inB f 65535 && (qnr h && q2o x))))))
     else if t = 47 then (qu h && bits != 0) && allF bits 64
     else if t = 48 then ((a == 256 || a == 257) && b == 3) && (inB c 255 && q2o x)
     else qnr h)
theorem qbea (p q : Bool) : (bif p then some q else some false) = some (p && q) := by cases p <;> rfl
def q2p (n : List UInt8) (t ttl : Int) (v6 : Bool) (hi lo : Int) (h m x : List UInt8) (a b c d e f bits : Int) : Bool :=
  qu n && (((qii t && decide (ttl ≥ 0)) && decide (ttl ≤ 2147483647)) && q8d t v6 hi lo h m x a b c d e f bits)
end Go.Proofs.YtmficjbenbhneaaDoor.Dn
