/- Data: the program's Valid is the document's. -/
import Derived.Test.YtmficjbenbhneaaDoorToLw05q
set_option linter.all false
namespace Go.Proofs.YtmficjbenbhneaaDoor.Dn
open Go Go.Pev
set_option linter.unusedVariables false
set_option linter.unusedSimpArgs false
set_option maxRecDepth 4000
theorem qbee (n : Int) : qow n = some (u32B n) := by rw [q0o]; rfl
theorem qbc3 (n m : Int) : qq n m = some (inB n m) := by rw [q0p]; rfl
theorem qbgf (x : List UInt8) : qkv x = some (q2o x) := by rw [q5m]; rfl
theorem qbef {α : Type} (p : Bool) (a b : α) : (bif p then some a else some b) = some (bif p then a else b) := by cases p <;> rfl
theorem u_eq (u : Bool × Int × Int × List UInt8 × List UInt8 × List UInt8 × Int × Int × Int × Int × Int × Int × Int) (v6 : Bool) (hi lo : Int) (h m x : List UInt8) (a b c d e f bits : Int) :
    (u == (v6, hi, lo, h, m, x, a, b, c, d, e, f, bits)) = ((v6 == u.1) && ((hi == u.2.1) && ((lo == u.2.2.1) && ((h == u.2.2.2.1) && ((m == u.2.2.2.2.1) && ((x == u.2.2.2.2.2.1) && ((a == u.2.2.2.2.2.2.1) && ((b == u.2.2.2.2.2.2.2.1) && ((c == u.2.2.2.2.2.2.2.2.1) && ((d == u.2.2.2.2.2.2.2.2.2.1) && ((e == u.2.2.2.2.2.2.2.2.2.2.1) && ((f == u.2.2.2.2.2.2.2.2.2.2.2.1) && (bits == u.2.2.2.2.2.2.2.2.2.2.2.2))))))))))))) := by
  show ((u.1 == v6) && ((u.2.1 == hi) && ((u.2.2.1 == lo) && ((u.2.2.2.1 == h) && ((u.2.2.2.2.1 == m) && ((u.2.2.2.2.2.1 == x) && ((u.2.2.2.2.2.2.1 == a) && ((u.2.2.2.2.2.2.2.1 == b) && ((u.2.2.2.2.2.2.2.2.1 == c) && ((u.2.2.2.2.2.2.2.2.2.1 == d) && ((u.2.2.2.2.2.2.2.2.2.2.1 == e) && ((u.2.2.2.2.2.2.2.2.2.2.2.1 == f) && (u.2.2.2.2.2.2.2.2.2.2.2.2 == bits))))))))))))) = _
  rw [BEq.comm (a := u.1), BEq.comm (a := u.2.1), BEq.comm (a := u.2.2.1), BEq.comm (a := u.2.2.2.1), BEq.comm (a := u.2.2.2.2.1), BEq.comm (a := u.2.2.2.2.2.1), BEq.comm (a := u.2.2.2.2.2.2.1), BEq.comm (a := u.2.2.2.2.2.2.2.1), BEq.comm (a := u.2.2.2.2.2.2.2.2.1), BEq.comm (a := u.2.2.2.2.2.2.2.2.2.1), BEq.comm (a := u.2.2.2.2.2.2.2.2.2.2.1), BEq.comm (a := u.2.2.2.2.2.2.2.2.2.2.2.1), BEq.comm (a := u.2.2.2.2.2.2.2.2.2.2.2.2)]
theorem qbc4 (t : Int) (v6 : Bool) (hi lo : Int) (h m x : List UInt8) (a b c d e f bits : Int) (hh : h.length ≤ 9223372036854775807) (hm : m.length ≤ 9223372036854775807) (ub : uok bits) :
    qre t v6 hi lo h m x a b c d e f bits = some (q8a t v6 hi lo h m x a b c d e f bits) := by
  rw [q21]; unfold qjc q8a
  simp only [qx7, qgn, qvl, qft, qvn, qfu, qvp, qfv, qvr, qfw, qbec, q9z h hh, q9z m hm, qfh h hh, qbee, qbc3, qbgf, q8b, qbhq, oB_s, qbef, u_eq, qbge ub]
  have ks : ∀ z : Int, z ∈ qng → qie z = true := by
    intro z hz
    simp only [qng, List.mem_cons, List.not_mem_nil, or_false] at hz
    rcases hz with rfl | rfl | rfl | rfl | rfl | rfl | rfl | rfl | rfl | rfl | rfl | rfl | rfl | rfl <;> rfl
  by_cases h1 : t = 1
  · subst h1
    simp only [ks 1 (by decide), qeo]
    rw [Option.some.injEq, Bool.eq_iff_iff]; simp [qd8]; try grind
  by_cases h2 : t = 28
  · subst h2
    simp only [ks 28 (by decide), qeo]
    rw [Option.some.injEq, Bool.eq_iff_iff]; simp [qd8]; try grind
  by_cases h3 : t = 2
  · subst h3
    simp only [ks 2 (by decide), qeo]
    rw [Option.some.injEq, Bool.eq_iff_iff]; simp [qd8]; try grind
  by_cases h4 : t = 5
  · subst h4
    simp only [ks 5 (by decide), qeo]
    rw [Option.some.injEq, Bool.eq_iff_iff]; simp [qd8]; try grind
  by_cases h5 : t = 12
  · subst h5
    simp only [ks 12 (by decide), qeo]
    rw [Option.some.injEq, Bool.eq_iff_iff]; simp [qd8]; try grind
  by_cases h6 : t = 39
  · subst h6
    simp only [ks 39 (by decide), qeo]
    rw [Option.some.injEq, Bool.eq_iff_iff]; simp [qd8]; try grind
  by_cases h7 : t = 6
  · subst h7
    simp only [ks 6 (by decide), qeo]
    rw [Option.some.injEq, Bool.eq_iff_iff]; simp [qd8]; try grind
  by_cases h8 : t = 15
  · subst h8
    simp only [ks 15 (by decide), qeo]
    rw [Option.some.injEq, Bool.eq_iff_iff]; simp [qd8]; try grind
  by_cases h9 : t = 16
  · subst h9
    simp only [ks 16 (by decide), qeo]
    rw [Option.some.injEq, Bool.eq_iff_iff]; simp [qd8]; try grind
  by_cases h10 : t = 33
  · subst h10
    simp only [ks 33 (by decide), qeo]
    rw [Option.some.injEq, Bool.eq_iff_iff]; simp [qd8]; try grind
  by_cases h11 : t = 43
  · subst h11
    simp only [ks 43 (by decide), qeo]
    rw [Option.some.injEq, Bool.eq_iff_iff]; simp [qd8]; try grind
  by_cases h12 : t = 46
  · subst h12
    simp only [ks 46 (by decide), qeo]
    rw [Option.some.injEq, Bool.eq_iff_iff]; simp [qd8]; try grind
  by_cases h13 : t = 47
  · subst h13
    simp only [ks 47 (by decide), qeo]
    rw [Option.some.injEq, Bool.eq_iff_iff]; simp [qd8]; try grind
  by_cases h14 : t = 48
  · subst h14
    simp only [ks 48 (by decide), qeo]
    rw [Option.some.injEq, Bool.eq_iff_iff]; simp [qd8]; try grind
  have hk : qie t = false := by
    rw [q5a]
    simp [qng, Ne.symm h1, Ne.symm h2, Ne.symm h3, Ne.symm h4, Ne.symm h5, Ne.symm h6, Ne.symm h7, Ne.symm h8, Ne.symm h9, Ne.symm h10, Ne.symm h11, Ne.symm h12, Ne.symm h13, Ne.symm h14]
  simp [hk, h1, h2, h3, h4, h5, h6, h7, h8, h9, h10, h11, h12, h13, h14]
end Go.Proofs.YtmficjbenbhneaaDoor.Dn
