/- Tables of blocks: BlocksNest. -/
import Derived.Test.YtmfghgaboaocgaaFrLw46i
set_option linter.all false
namespace Go.Proofs.Ytmfghgaboaocgaa.Dn
open Go Go.Pev
set_option linter.unusedVariables false
set_option linter.unusedSimpArgs false
set_option maxRecDepth 4000
theorem pick {l : List AV} {n : Int} (hn : 0 ≤ n ∧ n ≤ 255) (h0 : 0 < l.length) (hl : l.length ≤ 1000) :
    ∃ y, ixB l ((IntKind.i64.wrap n).tmod (l.length : Int)) = some y ∧ y ∈ l := by
  obtain ⟨m, rfl⟩ := Int.eq_ofNat_of_zero_le hn.1
  rw [w64 (by omega) (by omega), ← Int.ofNat_tmod, ixB_nat]
  have hlt := Nat.mod_lt m h0
  refine ⟨l[m % l.length], ?_, List.getElem_mem _⟩
  simp [hlt]
end Go.Proofs.Ytmfghgaboaocgaa.Dn
