/- Data: the program's Valid is the document's. -/
import Derived.Test.YtmficjbenbhneaaDoorReLw05q
set_option linter.all false
namespace Go.Proofs.YtmficjbenbhneaaDoor.Dn
open Go Go.Pev
set_option linter.unusedVariables false
set_option linter.unusedSimpArgs false
set_option maxRecDepth 4000
theorem qbdu (n : Int) : qog n = some (u32B n) := by rw [q0b]; rfl
theorem qbck (n m : Int) : qr n m = some (inB n m) := by rw [q0c]; rfl
theorem qbfy (x : List UInt8) : qkm x = some (q2b x) := by rw [q45]; rfl
theorem qbdv {α : Type} (p : Bool) (a b : α) : (bif p then some a else some b) = some (bif p then a else b) := by cases p <;> rfl
theorem u_eq (u : Bool × Int × Int × List UInt8 × List UInt8 × List UInt8 × Int × Int × Int × Int × Int × Int × Int) (v6 : Bool) (hi lo : Int) (h m x : List UInt8) (a b c d e f bits : Int) :
    (u == (v6, hi, lo, h, m, x, a, b, c, d, e, f, bits)) = ((v6 == u.1) && ((hi == u.2.1) && ((lo == u.2.2.1) && ((h == u.2.2.2.1) && ((m == u.2.2.2.2.1) && ((x == u.2.2.2.2.2.1) && ((a == u.2.2.2.2.2.2.1) && ((b == u.2.2.2.2.2.2.2.1) && ((c == u.2.2.2.2.2.2.2.2.1) && ((d == u.2.2.2.2.2.2.2.2.2.1) && ((e == u.2.2.2.2.2.2.2.2.2.2.1) && ((f == u.2.2.2.2.2.2.2.2.2.2.2.1) && (bits == u.2.2.2.2.2.2.2.2.2.2.2.2))))))))))))) := by
  show ((u.1 == v6) && ((u.2.1 == hi) && ((u.2.2.1 == lo) && ((u.2.2.2.1 == h) && ((u.2.2.2.2.1 == m) && ((u.2.2.2.2.2.1 == x) && ((u.2.2.2.2.2.2.1 == a) && ((u.2.2.2.2.2.2.2.1 == b) && ((u.2.2.2.2.2.2.2.2.1 == c) && ((u.2.2.2.2.2.2.2.2.2.1 == d) && ((u.2.2.2.2.2.2.2.2.2.2.1 == e) && ((u.2.2.2.2.2.2.2.2.2.2.2.1 == f) && (u.2.2.2.2.2.2.2.2.2.2.2.2 == bits))))))))))))) = _
  rw [BEq.comm (a := u.1), BEq.comm (a := u.2.1), BEq.comm (a := u.2.2.1), BEq.comm (a := u.2.2.2.1), BEq.comm (a := u.2.2.2.2.1), BEq.comm (a := u.2.2.2.2.2.1), BEq.comm (a := u.2.2.2.2.2.2.1), BEq.comm (a := u.2.2.2.2.2.2.2.1), BEq.comm (a := u.2.2.2.2.2.2.2.2.1), BEq.comm (a := u.2.2.2.2.2.2.2.2.2.1), BEq.comm (a := u.2.2.2.2.2.2.2.2.2.2.1), BEq.comm (a := u.2.2.2.2.2.2.2.2.2.2.2.1), BEq.comm (a := u.2.2.2.2.2.2.2.2.2.2.2.2)]
theorem qbcl (t : Int) (v6 : Bool) (hi lo : Int) (h m x : List UInt8) (a b c d e f bits : Int) (hh : h.length ≤ 9223372036854775807) (hm : m.length ≤ 9223372036854775807) (ub : uok bits) :
    qqu t v6 hi lo h m x a b c d e f bits = some (q7r t v6 hi lo h m x a b c d e f bits) := by
  rw [q2n]; unfold qi2 q7r
  simp only [qxr, qgj, qu4, qfq, qu6, qfr, qu8, qfs, qva, qft, qbds, q9g h hh, q9g m hm, qef h hh, qbdu, qbck, qbfy, q7s, qbg9, oB_s, qbdv, u_eq, qbfx ub]
  have ks : ∀ z : Int, z ∈ qm8 → qh7 z = true := by
    intro z hz
    simp only [qm8, List.mem_cons, List.not_mem_nil, or_false] at hz
    rcases hz with rfl | rfl | rfl | rfl | rfl | rfl | rfl | rfl | rfl | rfl | rfl | rfl | rfl | rfl <;> rfl
  by_cases h1 : t = 1
  · subst h1
    simp only [ks 1 (by decide), qem]
    rw [Option.some.injEq, Bool.eq_iff_iff]; simp [qd3]; try grind
  by_cases h2 : t = 28
  · subst h2
    simp only [ks 28 (by decide), qem]
    rw [Option.some.injEq, Bool.eq_iff_iff]; simp [qd3]; try grind
  by_cases h3 : t = 2
  · subst h3
    simp only [ks 2 (by decide), qem]
    rw [Option.some.injEq, Bool.eq_iff_iff]; simp [qd3]; try grind
  by_cases h4 : t = 5
  · subst h4
    simp only [ks 5 (by decide), qem]
    rw [Option.some.injEq, Bool.eq_iff_iff]; simp [qd3]; try grind
  by_cases h5 : t = 12
  · subst h5
    simp only [ks 12 (by decide), qem]
    rw [Option.some.injEq, Bool.eq_iff_iff]; simp [qd3]; try grind
  by_cases h6 : t = 39
  · subst h6
    simp only [ks 39 (by decide), qem]
    rw [Option.some.injEq, Bool.eq_iff_iff]; simp [qd3]; try grind
  by_cases h7 : t = 6
  · subst h7
    simp only [ks 6 (by decide), qem]
    rw [Option.some.injEq, Bool.eq_iff_iff]; simp [qd3]; try grind
  by_cases h8 : t = 15
  · subst h8
    simp only [ks 15 (by decide), qem]
    rw [Option.some.injEq, Bool.eq_iff_iff]; simp [qd3]; try grind
  by_cases h9 : t = 16
  · subst h9
    simp only [ks 16 (by decide), qem]
    rw [Option.some.injEq, Bool.eq_iff_iff]; simp [qd3]; try grind
  by_cases h10 : t = 33
  · subst h10
    simp only [ks 33 (by decide), qem]
    rw [Option.some.injEq, Bool.eq_iff_iff]; simp [qd3]; try grind
  by_cases h11 : t = 43
  · subst h11
    simp only [ks 43 (by decide), qem]
    rw [Option.some.injEq, Bool.eq_iff_iff]; simp [qd3]; try grind
  by_cases h12 : t = 46
  · subst h12
    simp only [ks 46 (by decide), qem]
    rw [Option.some.injEq, Bool.eq_iff_iff]; simp [qd3]; try grind
  by_cases h13 : t = 47
  · subst h13
    simp only [ks 47 (by decide), qem]
    rw [Option.some.injEq, Bool.eq_iff_iff]; simp [qd3]; try grind
  by_cases h14 : t = 48
  · subst h14
    simp only [ks 48 (by decide), qem]
    rw [Option.some.injEq, Bool.eq_iff_iff]; simp [qd3]; try grind
  have hk : qh7 t = false := by
    rw [q4u]
    simp [qm8, Ne.symm h1, Ne.symm h2, Ne.symm h3, Ne.symm h4, Ne.symm h5, Ne.symm h6, Ne.symm h7, Ne.symm h8, Ne.symm h9, Ne.symm h10, Ne.symm h11, Ne.symm h12, Ne.symm h13, Ne.symm h14]
  simp [hk, h1, h2, h3, h4, h5, h6, h7, h8, h9, h10, h11, h12, h13, h14]
end Go.Proofs.YtmficjbenbhneaaDoor.Dn
