/- Names: ddiref01's Labels and Under answer as_ the program's; loops with an index. -/
import Derived.Test.YtmoedhehjonnhaaGreatDoorRsLw01p
set_option linter.all false
namespace Go.Proofs.YtmoedhehjonnhaaGreatDoor.Dn
open Go Go.Pev
set_option linter.unusedVariables false
set_option linter.unusedSimpArgs false
set_option maxRecDepth 4000
theorem qlm {l : LT} {ls : List LT} {cs : List AV} (h : fitC (l :: ls) cs = true) : ∃ x r, cs = x :: r ∧ fitL l x = true ∧ fitC ls r = true := by
  cases cs with
  | nil => simp [fitC] at h
  | cons x r =>
    simp only [fitC] at h
    cases hl : fitL l x
    · rw [hl] at h; cases h
    · rw [hl] at h; exact ⟨x, r, rfl, hl, h⟩
theorem qbl9 {cs : List AV} (h : fitC [] cs = true) : cs = [] := by
  cases cs with
  | nil => rfl
  | cons x r => simp [fitC] at h
theorem q8e : ∀ (x cur : List UInt8), x.getLast? = some 46 → (spl cur x).flatMap (· ++ [46]) = cur ++ x
  | [], cur, h => by simp at h
  | [c], cur, h => by
    have : c = 46 := by simpa using h
    subst this
    simp [spl]
  | c :: d :: r, cur, h => by
    have h' : (d :: r).getLast? = some 46 := by simpa using h
    unfold spl
    split
    · rename_i hc
      subst hc
      simp [q8e (d :: r) [] h']
    · rw [q8e (d :: r) _ h']
      simp
theorem q45 {x : List UInt8} (h : qka x = true) : x = [46] ∧ qqr x = [] ∨ x ≠ [46] ∧ 2 ≤ x.length ∧ x.getLast? = some 46 ∧ qi5 true (spl [] x) = true ∧ qqr x = spl [] x := by
  unfold qka at h
  unfold qqr
  unfold qul at h ⊢
  by_cases h1 : x = [46]
  · left; exact ⟨h1, by rw [if_pos h1]⟩
  · right
    rw [if_neg h1] at h ⊢
    split at h
    · rename_i h2
      rw [if_pos h2]
      have h3 := h2.1
      simp only [qm6, Bool.and_eq_true, decide_eq_true_eq, beq_iff_eq] at h3
      exact ⟨h1, h3.1.1, h3.2, h2.2, rfl⟩
    · cases h
theorem qbkj (x : List UInt8) (hx : x.length ≤ 9223372036854775807) : qko x = some (avS (qqr x)) := by
  rw [q3o]; unfold qip
  rw [qbhm x hx]; rfl
theorem qbkk {x : List UInt8} (h : qka x = true) : ((qqr x).head? = some [42]) ↔ x.head? = some 42 := by
  rcases q45 h with ⟨rfl, e⟩ | ⟨y1, y2, y3, y4, y5⟩
  · simp [e]
  · rw [y5]
    have jy := q8e x [] y3
    rw [List.nil_append] at jy
    cases hs : spl [] x with
    | nil => rw [hs] at jy; simp at jy; subst jy; simp at y2
    | cons l ls =>
      rw [hs] at jy y4
      simp only [qi5, Bool.and_eq_true] at y4
      have hl := y4.1.1
      simp only [List.head?_cons, Option.some.injEq]
      constructor
      · intro e; subst e; rw [← jy]; simp
      · intro e
        unfold qv0 at hl
        simp only [Bool.or_eq_true, beq_iff_eq, Bool.and_eq_true, decide_eq_true_eq] at hl
        rcases hl with hl | ⟨⟨hl1, _⟩, hl2⟩
        · exact hl
        · cases l with
          | nil => simp at hl1
          | cons c r =>
            rw [← jy] at e
            have : c = 42 := by simpa using e
            subst this
            simp [labC] at hl2
end Go.Proofs.YtmoedhehjonnhaaGreatDoor.Dn
