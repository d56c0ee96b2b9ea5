/- Data: the program's Valid is the document's. -/
import Derived.Test.YtmficjbenbhneaaDoorPuLw05q
set_option linter.all false
namespace Go.Proofs.YtmficjbenbhneaaDoor.Dn
open Go Go.Pev
set_option linter.unusedVariables false
set_option linter.unusedSimpArgs false
set_option maxRecDepth 4000
theorem qbeb (n : Int) : qo4 n = some (u32B n) := by rw [q0q]; rfl
theorem qbc1 (n m : Int) : qq n m = some (inB n m) := by rw [q0r]; rfl
theorem qbgg (x : List UInt8) : qku x = some (q2o x) := by rw [q5q]; rfl
theorem qbec {α : Type} (p : Bool) (a b : α) : (bif p then some a else some b) = some (bif p then a else b) := by cases p <;> rfl
theorem u_eq (u : Bool × Int × Int × List UInt8 × List UInt8 × List UInt8 × Int × Int × Int × Int × Int × Int × Int) (v6 : Bool) (hi lo : Int) (h m x : List UInt8) (a b c d e f bits : Int) :
    (u == (v6, hi, lo, h, m, x, a, b, c, d, e, f, bits)) = ((v6 == u.1) && ((hi == u.2.1) && ((lo == u.2.2.1) && ((h == u.2.2.2.1) && ((m == u.2.2.2.2.1) && ((x == u.2.2.2.2.2.1) && ((a == u.2.2.2.2.2.2.1) && ((b == u.2.2.2.2.2.2.2.1) && ((c == u.2.2.2.2.2.2.2.2.1) && ((d == u.2.2.2.2.2.2.2.2.2.1) && ((e == u.2.2.2.2.2.2.2.2.2.2.1) && ((f == u.2.2.2.2.2.2.2.2.2.2.2.1) && (bits == u.2.2.2.2.2.2.2.2.2.2.2.2))))))))))))) := by
  show ((u.1 == v6) && ((u.2.1 == hi) && ((u.2.2.1 == lo) && ((u.2.2.2.1 == h) && ((u.2.2.2.2.1 == m) && ((u.2.2.2.2.2.1 == x) && ((u.2.2.2.2.2.2.1 == a) && ((u.2.2.2.2.2.2.2.1 == b) && ((u.2.2.2.2.2.2.2.2.1 == c) && ((u.2.2.2.2.2.2.2.2.2.1 == d) && ((u.2.2.2.2.2.2.2.2.2.2.1 == e) && ((u.2.2.2.2.2.2.2.2.2.2.2.1 == f) && (u.2.2.2.2.2.2.2.2.2.2.2.2 == bits))))))))))))) = _
  rw [BEq.comm (a := u.1), BEq.comm (a := u.2.1), BEq.comm (a := u.2.2.1), BEq.comm (a := u.2.2.2.1), BEq.comm (a := u.2.2.2.2.1), BEq.comm (a := u.2.2.2.2.2.1), BEq.comm (a := u.2.2.2.2.2.2.1), BEq.comm (a := u.2.2.2.2.2.2.2.1), BEq.comm (a := u.2.2.2.2.2.2.2.2.1), BEq.comm (a := u.2.2.2.2.2.2.2.2.2.1), BEq.comm (a := u.2.2.2.2.2.2.2.2.2.2.1), BEq.comm (a := u.2.2.2.2.2.2.2.2.2.2.2.1), BEq.comm (a := u.2.2.2.2.2.2.2.2.2.2.2.2)]
theorem qbc2 (t : Int) (v6 : Bool) (hi lo : Int) (h m x : List UInt8) (a b c d e f bits : Int) (hh : h.length ≤ 9223372036854775807) (hm : m.length ≤ 9223372036854775807) (ub : uok bits) :
    qrh t v6 hi lo h m x a b c d e f bits = some (q8d t v6 hi lo h m x a b c d e f bits) := by
  rw [q23]; unfold qja q8d
  simp only [qx8, qgv, qvn, qf1, qvp, qf2, qvr, qf3, qvt, qf4, qbd9, q9y h hh, q9y m hm, qfq h hh, qbeb, qbc1, qbgg, q8e, qbhr, oB_s, qbec, u_eq, qbgf ub]
  have ks : ∀ z : Int, z ∈ qns → qii z = true := by
    intro z hz
    simp only [qns, List.mem_cons, List.not_mem_nil, or_false] at hz
    rcases hz with rfl | rfl | rfl | rfl | rfl | rfl | rfl | rfl | rfl | rfl | rfl | rfl | rfl | rfl <;> rfl
  by_cases h1 : t = 1
  · subst h1
    simp only [ks 1 (by decide), qew]
    rw [Option.some.injEq, Bool.eq_iff_iff]; simp [qec]; try grind
  by_cases h2 : t = 28
  · subst h2
    simp only [ks 28 (by decide), qew]
    rw [Option.some.injEq, Bool.eq_iff_iff]; simp [qec]; try grind
  by_cases h3 : t = 2
  · subst h3
    simp only [ks 2 (by decide), qew]
    rw [Option.some.injEq, Bool.eq_iff_iff]; simp [qec]; try grind
  by_cases h4 : t = 5
  · subst h4
    simp only [ks 5 (by decide), qew]
    rw [Option.some.injEq, Bool.eq_iff_iff]; simp [qec]; try grind
  by_cases h5 : t = 12
  · subst h5
    simp only [ks 12 (by decide), qew]
    rw [Option.some.injEq, Bool.eq_iff_iff]; simp [qec]; try grind
  by_cases h6 : t = 39
  · subst h6
    simp only [ks 39 (by decide), qew]
    rw [Option.some.injEq, Bool.eq_iff_iff]; simp [qec]; try grind
  by_cases h7 : t = 6
  · subst h7
    simp only [ks 6 (by decide), qew]
    rw [Option.some.injEq, Bool.eq_iff_iff]; simp [qec]; try grind
  by_cases h8 : t = 15
  · subst h8
    simp only [ks 15 (by decide), qew]
    rw [Option.some.injEq, Bool.eq_iff_iff]; simp [qec]; try grind
  by_cases h9 : t = 16
  · subst h9
    simp only [ks 16 (by decide), qew]
    rw [Option.some.injEq, Bool.eq_iff_iff]; simp [qec]; try grind
  by_cases h10 : t = 33
  · subst h10
    simp only [ks 33 (by decide), qew]
    rw [Option.some.injEq, Bool.eq_iff_iff]; simp [qec]; try grind
  by_cases h11 : t = 43
  · subst h11
    simp only [ks 43 (by decide), qew]
    rw [Option.some.injEq, Bool.eq_iff_iff]; simp [qec]; try grind
  by_cases h12 : t = 46
  · subst h12
    simp only [ks 46 (by decide), qew]
    rw [Option.some.injEq, Bool.eq_iff_iff]; simp [qec]; try grind
  by_cases h13 : t = 47
  · subst h13
    simp only [ks 47 (by decide), qew]
    rw [Option.some.injEq, Bool.eq_iff_iff]; simp [qec]; try grind
  by_cases h14 : t = 48
  · subst h14
    simp only [ks 48 (by decide), qew]
    rw [Option.some.injEq, Bool.eq_iff_iff]; simp [qec]; try grind
  have hk : qii t = false := by
    rw [q5d]
    simp [qns, Ne.symm h1, Ne.symm h2, Ne.symm h3, Ne.symm h4, Ne.symm h5, Ne.symm h6, Ne.symm h7, Ne.symm h8, Ne.symm h9, Ne.symm h10, Ne.symm h11, Ne.symm h12, Ne.symm h13, Ne.symm h14]
  simp [hk, h1, h2, h3, h4, h5, h6, h7, h8, h9, h10, h11, h12, h13, h14]
end Go.Proofs.YtmficjbenbhneaaDoor.Dn
