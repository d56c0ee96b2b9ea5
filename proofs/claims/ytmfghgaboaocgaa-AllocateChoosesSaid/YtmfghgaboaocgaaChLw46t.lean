/- Tables of blocks: splitting and joining; BlocksStay. -/
import Derived.Test.YtmfghgaboaocgaaChLw46s
set_option linter.all false
namespace Go.Proofs.Ytmfghgaboaocgaa.Dn
open Go Go.Pev
set_option linter.unusedVariables false
set_option linter.unusedSimpArgs false
set_option maxRecDepth 4000
theorem qb1b {p : Pq} (hp : p.good) (h : p.half = true) : p.low.np.sub p.np ∧ p.high.np.sub p.np ∧ p.low.np.k + 1 = p.np.k ∧ p.high.np.k + 1 = p.np.k := by
  have hk := (Pq.half_iff hp).1 h
  rw [Pq.low_np hp h, Pq.high_np hp h]
  refine ⟨Np.low_sub hp.np_ok hk, Np.high_sub hp.np_ok hk, ?_, ?_⟩
  · show p.np.k - 1 + 1 = p.np.k; omega
  · show p.np.k - 1 + 1 = p.np.k; omega
end Go.Proofs.Ytmfghgaboaocgaa.Dn
