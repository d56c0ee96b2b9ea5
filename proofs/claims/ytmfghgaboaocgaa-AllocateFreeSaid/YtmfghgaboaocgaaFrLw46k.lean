/- Addresses of subnets: what the program's Address and ddiref47's answer. -/
import Derived.Test.YtmfghgaboaocgaaFrLw46
set_option linter.all false
namespace Go.Proofs.Ytmfghgaboaocgaa.Dn
open Go Go.Pev
set_option linter.unusedVariables false
set_option linter.unusedSimpArgs false
set_option maxRecDepth 4000
theorem qg2.sorted {l : List AV} (h : qg2 l) (i : Nat) (y : AV) (hy : l[i]? = some y) : ∀ j z, i < j → l[j]? = some z → ltY y z := by
  intro j
  induction j with
  | zero => intro z hj; omega
  | succ j ih =>
    intro z hj hz
    obtain ⟨x, hx⟩ : ∃ x, l[j]? = some x := by
      have := (List.getElem?_eq_some_iff.1 hz).1
      exact ⟨l[j], by simp⟩
    have h1 := (h (j + 1) z hz).lt j x rfl hx
    by_cases hij : i = j
    · subst hij
      rw [hy] at hx; cases hx
      exact h1
    · exact q89 (ih x (by omega) hx) h1
end Go.Proofs.Ytmfghgaboaocgaa.Dn
