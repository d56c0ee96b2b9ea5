/- Tables of blocks: splitting and joining; BlocksStay. -/
import Derived.Test.YtmfghgaboaocgaaFrLw46s
set_option linter.all false
namespace Go.Proofs.Ytmfghgaboaocgaa.Dn
open Go Go.Pev
set_option linter.unusedVariables false
set_option linter.unusedSimpArgs false
set_option maxRecDepth 4000
theorem qbk7 {p : Pq} (hp : p.good) (h : p.half = true) : p.low.np.sub p.np ∧ p.high.np.sub p.np ∧ p.low.np.k + 1 = p.np.k ∧ p.high.np.k + 1 = p.np.k := by
  have hk := (Pq.half_iff hp).1 h
  rw [Pq.low_np hp h, Pq.high_np hp h]
  refine ⟨Np.low_sub hp.np_ok hk, Np.high_sub hp.np_ok hk, ?_, ?_⟩
  · show p.np.k - 1 + 1 = p.np.k; omega
  · show p.np.k - 1 + 1 = p.np.k; omega
theorem qbot {l : List AV} {q : AV → Bool} {y : AV} (hy : y ∈ l) (hq : q y = true) (h : ∀ z, z ∈ l → q z = true → z = y) : l.find? q = some y := by
  cases hf : l.find? q with
  | none => have := List.find?_eq_none.1 hf y hy; rw [hq] at this; simp at this
  | some z => rw [h z (List.mem_of_find?_eq_some hf) (List.find?_some hf)]
end Go.Proofs.Ytmfghgaboaocgaa.Dn
