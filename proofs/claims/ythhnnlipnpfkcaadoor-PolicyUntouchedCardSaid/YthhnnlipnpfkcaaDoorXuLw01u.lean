/- Names: ddiref01's Labels and Under answer as the program's; loops with an index. -/
import Derived.Test.YthhnnlipnpfkcaaDoorXuLw01p
set_option linter.all false
namespace Go.Proofs.YthhnnlipnpfkcaaDoor.Dn
open Go Go.Pev
set_option linter.unusedVariables false
set_option linter.unusedSimpArgs false
set_option maxRecDepth 4000

/-- Over a list, with the place. -/
theorem for_idx {α R : Type} (l : List α) (hl : l.length ≤ 9223372036854775807) (L : Nat → Int → Option R) (B : Int → (Int → Option R) → Option R) (hL : ∀ n i, L (n + 1) i = B i (L n))
    (S : Nat → List α → Option R) (h0 : ∀ nx, B (l.length : Int) nx = S l.length [])
    (hs : ∀ (i : Nat) (a : α) (r : List α) nx, l.drop i = a :: r → l[i]? = some a → i < l.length → IntKind.i64.wrap ((i : Int) + 1) = ((i + 1 : Nat) : Int) → nx ((i + 1 : Nat) : Int) = S (i + 1) r → B (i : Int) nx = S i (a :: r)) :
    L FU 0 = S 0 l := by
  have := for_list0 l hl L B hL (fun r => S (l.length - r.length) r) (fun nx => by simpa using h0 nx) (fun i a r nx h1 h2 h3 h4 h5 => by
    have hr : r.length = l.length - (i + 1) := by
      have := congrArg List.length h1
      simp at this; omega
    have e1 : l.length - r.length = i + 1 := by omega
    have e2 : l.length - (a :: r).length = i := by simp; omega
    simp only [e1] at h5
    simp only [e2]
    exact hs i a r nx h1 h2 h3 h4 h5)
  simpa using this

/-! ### Cells -/
theorem fitC_cons {l : LT} {ls : List LT} {cs : List AV} (h : fitC (l :: ls) cs = true) : ∃ x r, cs = x :: r ∧ fitL l x = true ∧ fitC ls r = true := by
  cases cs with
  | nil => simp [fitC] at h
  | cons x r =>
    simp only [fitC] at h
    cases hl : fitL l x
    · rw [hl] at h; cases h
    · rw [hl] at h; exact ⟨x, r, rfl, hl, h⟩
theorem fitC_nil {cs : List AV} (h : fitC [] cs = true) : cs = [] := by
  cases cs with
  | nil => rfl
  | cons x r => simp [fitC] at h
theorem fitC_mk {l : LT} {ls : List LT} {x : AV} {r : List AV} (h1 : fitL l x = true) (h2 : fitC ls r = true) : fitC (l :: ls) (x :: r) = true := by
  simp only [fitC, h1, h2]
theorem fitV_st {ls : List LT} {cs : List AV} (h : fitC ls cs = true) : fitV (.st ls) (.agg cs) = true := by
  simp [fitV, Pev.isAgg, AV.cells, h]
theorem fitL_sl {e : Nat} {x : AV} (h : fitL (.sl e) x = true) : x = .nils ∨ ∃ xs, x = .sl e xs := by
  unfold fitL at h
  cases x with
  | nils => exact .inl rfl
  | sl e' xs => exact .inr ⟨xs, by rw [Nat.eq_of_beq_eq_true h]⟩
  | _ => simp at h
theorem fitL_op_sl {e : Nat} {x : AV} (h : fitL (.sl e) x = true) : fitL .op x = true := by
  rcases fitL_sl h with rfl | ⟨xs, rfl⟩ <;> rfl

/-- How many labels two names have in common, from the end. -/
def comm : List (List UInt8) → List (List UInt8) → Nat
  | a :: r, b :: s => if a = b then comm r s + 1 else 0
  | _, _ => 0
end Go.Proofs.YthhnnlipnpfkcaaDoor.Dn

