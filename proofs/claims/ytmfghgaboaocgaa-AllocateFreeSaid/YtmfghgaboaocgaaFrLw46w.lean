/- What is free in a container: in order, disjoint, everything, and as_ large as_ can be. -/
import Derived.Test.YtmfghgaboaocgaaFrLw46v
set_option linter.all false
namespace Go.Proofs.Ytmfghgaboaocgaa.Dn
open Go Go.Pev
set_option linter.unusedVariables false
set_option linter.unusedSimpArgs false
set_option maxRecDepth 4000
theorem q5j {C : List AV} (hC : qjt C) : ∀ (n : Nat) (p : Pq), p.good → ∀ q, q ∈ qgm C n p → q.good ∧ q.np.sub p.np ∧ ∀ c, c ∈ C → ovP (pqY c) q = false
  | 0, p, hp, q, hq => by simp [qgm] at hq
  | n + 1, p, hp, q, hq => by
    unfold qgm at hq
    cases hW : C.any fun b => winP p (pqY b) with
    | true => simp [hW] at hq
    | false =>
      cases hO : C.any fun b => ovP (pqY b) p with
      | false =>
        simp [hW, hO] at hq
        subst hq
        exact ⟨hp, Np.sub_refl hp.np_ok, fun c hc => by have := List.any_eq_false.1 hO c hc; simpa using this⟩
      | true =>
        cases hh : p.half with
        | false => simp [hW, hO, hh] at hq
        | true =>
          rw [hW, hO, hh] at hq
          simp only [cond_f, Bool.not_true, cond_t, List.mem_append] at hq
          obtain ⟨s1, s2, _, _⟩ := qbk7 hp hh
          rcases hq with hq | hq
          · obtain ⟨a, b, c⟩ := q5j hC n p.low (Pq.low_good hp hh) q hq
            exact ⟨a, Np.sub_trans b s1, c⟩
          · obtain ⟨a, b, c⟩ := q5j hC n p.high (Pq.high_good hp hh) q hq
            exact ⟨a, Np.sub_trans b s2, c⟩
end Go.Proofs.Ytmfghgaboaocgaa.Dn
