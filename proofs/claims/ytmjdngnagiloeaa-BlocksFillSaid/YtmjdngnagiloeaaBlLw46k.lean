/- Addresses of subnets: what the program's Address and ddiref47's answer. -/
import Derived.Test.YtmjdngnagiloeaaBlLw46
set_option linter.all false
namespace Go.Proofs.Ytmjdngnagiloeaa.Dn
open Go Go.Pev
set_option linter.unusedVariables false
set_option linter.unusedSimpArgs false
set_option maxRecDepth 4000
theorem qfq.sorted {l : List AV} (h : qfq l) (i : Nat) (y : AV) (hy : l[i]? = some y) : ∀ j z, i < j → l[j]? = some z → ltY y z := by
  intro j
  induction j with
  | zero => intro z hj; omega
  | succ j ih =>
    intro z hj hz
    obtain ⟨x, hx⟩ : ∃ x, l[j]? = some x := by
      have := (List.getElem?_eq_some_iff.1 hz).1
      exact ⟨l[j], by simp⟩
    have h1 := (h (j + 1) z hz).lt j x rfl hx
    by_cases hij : i = j
    · subst hij
      rw [hy] at hx; cases hx
      exact h1
    · exact qblh (ih x (by omega) hx) h1
end Go.Proofs.Ytmjdngnagiloeaa.Dn
