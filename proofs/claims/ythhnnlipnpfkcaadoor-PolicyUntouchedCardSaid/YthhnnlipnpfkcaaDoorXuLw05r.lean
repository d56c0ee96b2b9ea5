/- Data: the program's Valid is the document's. -/
import Derived.Test.YthhnnlipnpfkcaaDoorXuLw05q
set_option linter.all false
namespace Go.Proofs.YthhnnlipnpfkcaaDoor.Dn
open Go Go.Pev
set_option linter.unusedVariables false
set_option linter.unusedSimpArgs false
set_option maxRecDepth 4000

theorem p_serial (n : Int) : serial_Valid n = some (u32B n) := by rw [serial_Valid_eq]; rfl
theorem p_within' (n m : Int) : rdata_within n m = some (inB n m) := by rw [rdata_within_eq]; rfl
theorem p_long' (x : List UInt8) : rdata_long x = some (textOk x) := by rw [rdata_long_eq]; rfl
theorem some_out {α : Type} (p : Bool) (a b : α) : (bif p then some a else some b) = some (bif p then a else b) := by cases p <;> rfl
theorem u_eq (u : Bool × Int × Int × List UInt8 × List UInt8 × List UInt8 × Int × Int × Int × Int × Int × Int × Int) (v6 : Bool) (hi lo : Int) (h m x : List UInt8) (a b c d e f bits : Int) :
    (u == (v6, hi, lo, h, m, x, a, b, c, d, e, f, bits)) = ((v6 == u.1) && ((hi == u.2.1) && ((lo == u.2.2.1) && ((h == u.2.2.2.1) && ((m == u.2.2.2.2.1) && ((x == u.2.2.2.2.2.1) && ((a == u.2.2.2.2.2.2.1) && ((b == u.2.2.2.2.2.2.2.1) && ((c == u.2.2.2.2.2.2.2.2.1) && ((d == u.2.2.2.2.2.2.2.2.2.1) && ((e == u.2.2.2.2.2.2.2.2.2.2.1) && ((f == u.2.2.2.2.2.2.2.2.2.2.2.1) && (bits == u.2.2.2.2.2.2.2.2.2.2.2.2))))))))))))) := by
  show ((u.1 == v6) && ((u.2.1 == hi) && ((u.2.2.1 == lo) && ((u.2.2.2.1 == h) && ((u.2.2.2.2.1 == m) && ((u.2.2.2.2.2.1 == x) && ((u.2.2.2.2.2.2.1 == a) && ((u.2.2.2.2.2.2.2.1 == b) && ((u.2.2.2.2.2.2.2.2.1 == c) && ((u.2.2.2.2.2.2.2.2.2.1 == d) && ((u.2.2.2.2.2.2.2.2.2.2.1 == e) && ((u.2.2.2.2.2.2.2.2.2.2.2.1 == f) && (u.2.2.2.2.2.2.2.2.2.2.2.2 == bits))))))))))))) = _
  rw [BEq.comm (a := u.1), BEq.comm (a := u.2.1), BEq.comm (a := u.2.2.1), BEq.comm (a := u.2.2.2.1), BEq.comm (a := u.2.2.2.2.1), BEq.comm (a := u.2.2.2.2.2.1), BEq.comm (a := u.2.2.2.2.2.2.1), BEq.comm (a := u.2.2.2.2.2.2.2.1), BEq.comm (a := u.2.2.2.2.2.2.2.2.1), BEq.comm (a := u.2.2.2.2.2.2.2.2.2.1), BEq.comm (a := u.2.2.2.2.2.2.2.2.2.2.1), BEq.comm (a := u.2.2.2.2.2.2.2.2.2.2.2.1), BEq.comm (a := u.2.2.2.2.2.2.2.2.2.2.2.2)]
theorem p_rdValid (t : Int) (v6 : Bool) (hi lo : Int) (h m x : List UInt8) (a b c d e f bits : Int) (hh : h.length ≤ 9223372036854775807) (hm : m.length ≤ 9223372036854775807) (ub : uok bits) :
    rdata_Valid t v6 hi lo h m x a b c d e f bits = some (dataOk t v6 hi lo h m x a b c d e f bits) := by
  rw [rdata_Valid_eq]; unfold rdata_Valid_i dataOk
  simp only [rdata_Valid_J7_eq, rdata_Valid_J7_i, rdata_Valid_J17_eq, rdata_Valid_J17_i, rdata_Valid_J38_eq, rdata_Valid_J38_i, rdata_Valid_J68_eq, rdata_Valid_J68_i, rdata_Valid_J80_eq, rdata_Valid_J80_i, p_aValid, p_host' h hh, p_host' m hm, p_dValid' h hh, p_serial, p_within', p_long', p_Known', p_all', oB_s, some_out, u_eq, allF_eq ub]
  have ks : ∀ z : Int, z ∈ kindNs → knownB z = true := by
    intro z hz
    simp only [kindNs, List.mem_cons, List.not_mem_nil, or_false] at hz
    rcases hz with rfl | rfl | rfl | rfl | rfl | rfl | rfl | rfl | rfl | rfl | rfl | rfl | rfl | rfl <;> rfl
  by_cases h1 : t = 1
  · subst h1
    simp only [ks 1 (by decide), usedOf]
    rw [Option.some.injEq, Bool.eq_iff_iff]; simp [addrOk]; try grind
  by_cases h2 : t = 28
  · subst h2
    simp only [ks 28 (by decide), usedOf]
    rw [Option.some.injEq, Bool.eq_iff_iff]; simp [addrOk]; try grind
  by_cases h3 : t = 2
  · subst h3
    simp only [ks 2 (by decide), usedOf]
    rw [Option.some.injEq, Bool.eq_iff_iff]; simp [addrOk]; try grind
  by_cases h4 : t = 5
  · subst h4
    simp only [ks 5 (by decide), usedOf]
    rw [Option.some.injEq, Bool.eq_iff_iff]; simp [addrOk]; try grind
  by_cases h5 : t = 12
  · subst h5
    simp only [ks 12 (by decide), usedOf]
    rw [Option.some.injEq, Bool.eq_iff_iff]; simp [addrOk]; try grind
  by_cases h6 : t = 39
  · subst h6
    simp only [ks 39 (by decide), usedOf]
    rw [Option.some.injEq, Bool.eq_iff_iff]; simp [addrOk]; try grind
  by_cases h7 : t = 6
  · subst h7
    simp only [ks 6 (by decide), usedOf]
    rw [Option.some.injEq, Bool.eq_iff_iff]; simp [addrOk]; try grind
  by_cases h8 : t = 15
  · subst h8
    simp only [ks 15 (by decide), usedOf]
    rw [Option.some.injEq, Bool.eq_iff_iff]; simp [addrOk]; try grind
  by_cases h9 : t = 16
  · subst h9
    simp only [ks 16 (by decide), usedOf]
    rw [Option.some.injEq, Bool.eq_iff_iff]; simp [addrOk]; try grind
  by_cases h10 : t = 33
  · subst h10
    simp only [ks 33 (by decide), usedOf]
    rw [Option.some.injEq, Bool.eq_iff_iff]; simp [addrOk]; try grind
  by_cases h11 : t = 43
  · subst h11
    simp only [ks 43 (by decide), usedOf]
    rw [Option.some.injEq, Bool.eq_iff_iff]; simp [addrOk]; try grind
  by_cases h12 : t = 46
  · subst h12
    simp only [ks 46 (by decide), usedOf]
    rw [Option.some.injEq, Bool.eq_iff_iff]; simp [addrOk]; try grind
  by_cases h13 : t = 47
  · subst h13
    simp only [ks 47 (by decide), usedOf]
    rw [Option.some.injEq, Bool.eq_iff_iff]; simp [addrOk]; try grind
  by_cases h14 : t = 48
  · subst h14
    simp only [ks 48 (by decide), usedOf]
    rw [Option.some.injEq, Bool.eq_iff_iff]; simp [addrOk]; try grind
  have hk : knownB t = false := by
    rw [known_any]
    simp [kindNs, Ne.symm h1, Ne.symm h2, Ne.symm h3, Ne.symm h4, Ne.symm h5, Ne.symm h6, Ne.symm h7, Ne.symm h8, Ne.symm h9, Ne.symm h10, Ne.symm h11, Ne.symm h12, Ne.symm h13, Ne.symm h14]
  simp [hk, h1, h2, h3, h4, h5, h6, h7, h8, h9, h10, h11, h12, h13, h14]
end Go.Proofs.YthhnnlipnpfkcaaDoor.Dn

