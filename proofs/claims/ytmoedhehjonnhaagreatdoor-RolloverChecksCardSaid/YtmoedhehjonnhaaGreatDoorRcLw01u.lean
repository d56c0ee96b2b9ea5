/- Names: ddiref01's Labels and Under answer as_ the program's; loops with an index. -/
import Derived.Test.YtmoedhehjonnhaaGreatDoorRcLw01p
set_option linter.all false
namespace Go.Proofs.YtmoedhehjonnhaaGreatDoor.Dn
open Go Go.Pev
set_option linter.unusedVariables false
set_option linter.unusedSimpArgs false
set_option maxRecDepth 4000
theorem qlw {l : LT} {ls : List LT} {cs : List AV} (h : fitC (l :: ls) cs = true) : ∃ x r, cs = x :: r ∧ fitL l x = true ∧ fitC ls r = true := by
  cases cs with
  | nil => simp [fitC] at h
  | cons x r =>
    simp only [fitC] at h
    cases hl : fitL l x
    · rw [hl] at h; cases h
    · rw [hl] at h; exact ⟨x, r, rfl, hl, h⟩
theorem qbl0 {cs : List AV} (h : fitC [] cs = true) : cs = [] := by
  cases cs with
  | nil => rfl
  | cons x r => simp [fitC] at h
theorem q8j : ∀ (x cur : List UInt8), x.getLast? = some 46 → (spl cur x).flatMap (· ++ [46]) = cur ++ x
  | [], cur, h => by simp at h
  | [c], cur, h => by
    have : c = 46 := by simpa using h
    subst this
    simp [spl]
  | c :: d :: r, cur, h => by
    have h' : (d :: r).getLast? = some 46 := by simpa using h
    unfold spl
    split
    · rename_i hc
      subst hc
      simp [q8j (d :: r) [] h']
    · rw [q8j (d :: r) _ h']
      simp
theorem q5b {x : List UInt8} (h : qkh x = true) : x = [46] ∧ qq0 x = [] ∨ x ≠ [46] ∧ 2 ≤ x.length ∧ x.getLast? = some 46 ∧ qjc true (spl [] x) = true ∧ qq0 x = spl [] x := by
  unfold qkh at h
  unfold qq0
  unfold quu at h ⊢
  by_cases h1 : x = [46]
  · left; exact ⟨h1, by rw [if_pos h1]⟩
  · right
    rw [if_neg h1] at h ⊢
    split at h
    · rename_i h2
      rw [if_pos h2]
      have h3 := h2.1
      simp only [qnb, Bool.and_eq_true, decide_eq_true_eq, beq_iff_eq] at h3
      exact ⟨h1, h3.1.1, h3.2, h2.2, rfl⟩
    · cases h
theorem qbj9 (x : List UInt8) (hx : x.length ≤ 9223372036854775807) : qkx x = some (avS (qq0 x)) := by
  rw [q3u]; unfold qix
  rw [qbhf x hx]; rfl
theorem qbka {x : List UInt8} (h : qkh x = true) : ((qq0 x).head? = some [42]) ↔ x.head? = some 42 := by
  rcases q5b h with ⟨rfl, e⟩ | ⟨y1, y2, y3, y4, y5⟩
  · simp [e]
  · rw [y5]
    have jy := q8j x [] y3
    rw [List.nil_append] at jy
    cases hs : spl [] x with
    | nil => rw [hs] at jy; simp at jy; subst jy; simp at y2
    | cons l ls =>
      rw [hs] at jy y4
      simp only [qjc, Bool.and_eq_true] at y4
      have hl := y4.1.1
      simp only [List.head?_cons, Option.some.injEq]
      constructor
      · intro e; subst e; rw [← jy]; simp
      · intro e
        unfold qwg at hl
        simp only [Bool.or_eq_true, beq_iff_eq, Bool.and_eq_true, decide_eq_true_eq] at hl
        rcases hl with hl | ⟨⟨hl1, _⟩, hl2⟩
        · exact hl
        · cases l with
          | nil => simp at hl1
          | cons c r =>
            rw [← jy] at e
            have : c = 42 := by simpa using e
            subst this
            simp [labC] at hl2
end Go.Proofs.YtmoedhehjonnhaaGreatDoor.Dn
