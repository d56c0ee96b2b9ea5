/- Names: ddiref01's Labels and Under answer as_ the program's; loops with an index. -/
import Derived.Test.YtmficjbenbhneaaDoorPuLw01p
set_option linter.all false
namespace Go.Proofs.YtmficjbenbhneaaDoor.Dn
open Go Go.Pev
set_option linter.unusedVariables false
set_option linter.unusedSimpArgs false
set_option maxRecDepth 4000
theorem q36 {α R : Type} (l : List α) (hl : l.length ≤ 9223372036854775807) (L : Nat → Int → Option R) (B : Int → (Int → Option R) → Option R) (hL : ∀ n i, L (n + 1) i = B i (L n))
    (S : Nat → List α → Option R) (h0 : ∀ nx, B (l.length : Int) nx = S l.length [])
    (hs : ∀ (i : Nat) (a : α) (r : List α) nx, l.drop i = a :: r → l[i]? = some a → i < l.length → IntKind.i64.wrap ((i : Int) + 1) = ((i + 1 : Nat) : Int) → nx ((i + 1 : Nat) : Int) = S (i + 1) r → B (i : Int) nx = S i (a :: r)) :
    L FU 0 = S 0 l := by
  have := qq5 l hl L B hL (fun r => S (l.length - r.length) r) (fun nx => by simpa using h0 nx) (fun i a r nx h1 h2 h3 h4 h5 => by
    have hr : r.length = l.length - (i + 1) := by
      have := congrArg List.length h1
      simp at this; omega
    have e1 : l.length - r.length = i + 1 := by omega
    have e2 : l.length - (a :: r).length = i := by simp; omega
    simp only [e1] at h5
    simp only [e2]
    exact hs i a r nx h1 h2 h3 h4 h5)
  simpa using this
theorem qnq {l : LT} {ls : List LT} {cs : List AV} (h : fitC (l :: ls) cs = true) : ∃ x r, cs = x :: r ∧ fitL l x = true ∧ fitC ls r = true := by
  cases cs with
  | nil => simp [fitC] at h
  | cons x r =>
    simp only [fitC] at h
    cases hl : fitL l x
    · rw [hl] at h; cases h
    · rw [hl] at h; exact ⟨x, r, rfl, hl, h⟩
theorem qhf {l : LT} {ls : List LT} {x : AV} {r : List AV} (h1 : fitL l x = true) (h2 : fitC ls r = true) : fitC (l :: ls) (x :: r) = true := by
  simp only [fitC, h1, h2]
theorem qbgd {ls : List LT} {cs : List AV} (h : fitC ls cs = true) : fitV (.st ls) (.agg cs) = true := by
  simp [fitV, Pev.isAgg, AV.cells, h]
theorem qbge {e : Nat} {x : AV} (h : fitL (.sl e) x = true) : x = .nils ∨ ∃ xs, x = .sl e xs := by
  unfold fitL at h
  cases x with
  | nils => exact .inl rfl
  | sl e' xs => exact .inr ⟨xs, by rw [Nat.eq_of_beq_eq_true h]⟩
  | _ => simp at h
theorem qba5 {e : Nat} {x : AV} (h : fitL (.sl e) x = true) : fitL .op x = true := by
  rcases qbge h with rfl | ⟨xs, rfl⟩ <;> rfl
theorem qmk : ∀ (x cur : List UInt8), x.getLast? = some 46 → (spl cur x).flatMap (· ++ [46]) = cur ++ x
  | [], cur, h => by simp at h
  | [c], cur, h => by
    have : c = 46 := by simpa using h
    subst this
    simp [spl]
  | c :: d :: r, cur, h => by
    have h' : (d :: r).getLast? = some 46 := by simpa using h
    unfold spl
    split
    · rename_i hc
      subst hc
      simp [qmk (d :: r) [] h']
    · rw [qmk (d :: r) _ h']
      simp
theorem qxf {x : List UInt8} (h : qu x = true) : x = [46] ∧ qbu x = [] ∨ x ≠ [46] ∧ 2 ≤ x.length ∧ x.getLast? = some 46 ∧ qsn true (spl [] x) = true ∧ qbu x = spl [] x := by
  unfold qu at h
  unfold qbu
  unfold qih at h ⊢
  by_cases h1 : x = [46]
  · left; exact ⟨h1, by rw [if_pos h1]⟩
  · right
    rw [if_neg h1] at h ⊢
    split at h
    · rename_i h2
      rw [if_pos h2]
      have h3 := h2.1
      simp only [qnn, Bool.and_eq_true, decide_eq_true_eq, beq_iff_eq] at h3
      exact ⟨h1, h3.1.1, h3.2, h2.2, rfl⟩
    · cases h
def comm : List (List UInt8) → List (List UInt8) → Nat
  | a :: r, b :: s => if a = b then comm r s + 1 else 0
  | _, _ => 0
theorem q8b (l : List (List UInt8)) (i : Nat) (h : i < l.length) : (avS l)[l.length - 1 - i]? = some (.str (l.reverse[i]'(by simpa using h))) := by
  unfold avS
  rw [List.getElem?_map, List.getElem_reverse, List.getElem?_eq_getElem (by omega)]
  rfl
theorem q2l {x : List UInt8} : (qbu x).length ≤ 254 := by
  unfold qbu qih
  split
  · simp
  · split
    · rename_i h
      have h3 := h.1
      simp only [qnn, Bool.and_eq_true, decide_eq_true_eq, beq_iff_eq] at h3
      have := q34 x []
      simp; omega
    · simp
end Go.Proofs.YtmficjbenbhneaaDoor.Dn
