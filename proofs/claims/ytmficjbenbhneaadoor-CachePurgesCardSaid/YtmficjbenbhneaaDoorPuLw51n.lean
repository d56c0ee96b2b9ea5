/- The order of names: what dname's Compare and ddiref01's answer. -/
import Derived.Test.YtmficjbenbhneaaDoorPuLw01u
set_option linter.all false
namespace Go.Proofs.YtmficjbenbhneaaDoor.Dn
open Go Go.Pev
set_option linter.unusedVariables false
set_option linter.unusedSimpArgs false
set_option maxRecDepth 4000
def cmpS (a b : List UInt8) : Int := Lib.compareBytes a b
theorem qpy (a b : UInt8) : a < b ∨ a = b ∨ b < a := by
  rcases Nat.lt_trichotomy a.toNat b.toNat with h | h | h
  · exact .inl h
  · exact .inr (.inl (UInt8.toNat_inj.1 h))
  · exact .inr (.inr h)
theorem qd3 {a b : UInt8} (h : a < b) : ¬ b < a := fun h2 => by
  have h1 : a.toNat < b.toNat := h
  have h2 : b.toNat < a.toNat := h2
  omega
theorem qbd8 {a b c : UInt8} (h : a < b) (h2 : b < c) : a < c := Nat.lt_trans (show a.toNat < b.toNat from h) h2
theorem qq8 (a b : UInt8) (r s : List UInt8) : cmpS (a :: r) (b :: s) = if a < b then -1 else if b < a then 1 else cmpS r s := rfl
theorem qkj : ∀ {a b}, cmpS a b = 0 ↔ a = b
  | [], [] => by simp [cmpS, Lib.compareBytes]
  | [], _ :: _ => by simp [cmpS, Lib.compareBytes]
  | _ :: _, [] => by simp [cmpS, Lib.compareBytes]
  | a :: r, b :: s => by
    rw [qq8]
    rcases qpy a b with h | rfl | h
    · rw [if_pos h]
      simp only [List.cons.injEq]
      exact ⟨fun h => by omega, fun e => by rw [e.1] at h; exact absurd h (qd3 h)⟩
    · rw [if_neg (fun h => qd3 h h), if_neg (fun h => qd3 h h), qkj]
      simp
    · rw [if_neg (qd3 h), if_pos h]
      simp only [List.cons.injEq]
      exact ⟨fun h => by omega, fun e => by rw [e.1] at h; exact absurd h (qd3 h)⟩
theorem qxg : ∀ a b, cmpS b a = - cmpS a b
  | [], [] => by simp [cmpS, Lib.compareBytes]
  | [], _ :: _ => by simp [cmpS, Lib.compareBytes]
  | _ :: _, [] => by simp [cmpS, Lib.compareBytes]
  | a :: r, b :: s => by
    rw [qq8, qq8]
    rcases qpy a b with h | rfl | h
    · simp [h, qd3 h]
    · simp [fun h => qd3 (a := a) (b := a) h h, qxg r s]
    · simp [h, qd3 h]
theorem qt9 : ∀ {a b c}, cmpS a b < 0 → cmpS b c < 0 → cmpS a c < 0
  | [], [], _, h, _ => by simp [cmpS, Lib.compareBytes] at h
  | [], _ :: _, [], _, h => by simp [cmpS, Lib.compareBytes] at h
  | [], _ :: _, _ :: _, _, _ => by simp [cmpS, Lib.compareBytes]
  | _ :: _, [], _, h, _ => by simp [cmpS, Lib.compareBytes] at h
  | _ :: _, _ :: _, [], _, h => by simp [cmpS, Lib.compareBytes] at h
  | a :: r, b :: s, c :: t, h1, h2 => by
    rw [qq8] at h1 h2 ⊢
    rcases qpy a b with h | rfl | h
    · rcases qpy b c with k | rfl | k
      · rw [if_pos (qbd8 h k)]; omega
      · rw [if_pos h]; omega
      · rw [if_neg (qd3 k), if_pos k] at h2; omega
    · rw [if_neg (fun h => qd3 h h), if_neg (fun h => qd3 h h)] at h1
      rcases qpy a c with k | rfl | k
      · rw [if_pos k]; omega
      · rw [if_neg (fun h => qd3 h h), if_neg (fun h => qd3 h h)] at h2 ⊢
        exact qt9 h1 h2
      · rw [if_neg (qd3 k), if_pos k] at h2; omega
    · rw [if_neg (qd3 h), if_pos h] at h1; omega
theorem q2m (a b : List UInt8) : qhr a b = some (cmpS a b) := by
  rw [qvv]
  unfold qf5
  rw [qo9]
  rfl
def cmpZ : List (List UInt8) → List (List UInt8) → Option Int
  | a :: r, b :: s => if cmpS a b = 0 then cmpZ r s else some (cmpS a b)
  | _, _ => none
def cmpR (x y : List (List UInt8)) : Int := (cmpZ x y).getD (if x.length < y.length then -1 else if x.length > y.length then 1 else 0)
def cmpN (x y : List UInt8) : Int :=
  if qu x = true ∧ qu y = false then -1 else if qu y = true ∧ qu x = false then 1 else if qu x = false then cmpS x y else cmpR (qbu x).reverse (qbu y).reverse
theorem qq9 (a b : List UInt8) (r s : List (List UInt8)) : cmpR (a :: r) (b :: s) = if cmpS a b = 0 then cmpR r s else cmpS a b := by
  unfold cmpR
  simp only [cmpZ]
  split
  · simp
  · rfl
theorem q5a : ∀ {x y}, cmpR x y = 0 ↔ x = y
  | [], [] => by simp [cmpR, cmpZ]
  | [], _ :: _ => by simp [cmpR, cmpZ]
  | _ :: _, [] => by simp [cmpR, cmpZ]
  | a :: r, b :: s => by
    rw [qq9]
    split
    · rename_i h
      rw [q5a, qkj.1 h]; simp
    · rename_i h
      simp only [List.cons.injEq]
      exact ⟨fun e => absurd e h, fun e => absurd (qkj.2 e.1) h⟩
theorem q5b : ∀ x y, cmpR y x = - cmpR x y
  | [], [] => by simp [cmpR, cmpZ]
  | [], _ :: _ => by simp [cmpR, cmpZ]
  | _ :: _, [] => by simp [cmpR, cmpZ]
  | a :: r, b :: s => by
    rw [qq9, qq9, qxg a b, q5b r s]
    split <;> split <;> omega
theorem q2n : ∀ {x y z}, cmpR x y < 0 → cmpR y z < 0 → cmpR x z < 0
  | [], [], _, h, _ => by simp [cmpR, cmpZ] at h
  | [], _ :: _, [], _, h => by simp [cmpR, cmpZ] at h
  | [], _ :: _, _ :: _, _, _ => by simp [cmpR, cmpZ]
  | _ :: _, [], _, h, _ => by simp [cmpR, cmpZ] at h
  | _ :: _, _ :: _, [], _, h => by simp [cmpR, cmpZ] at h
  | a :: r, b :: s, c :: t, h1, h2 => by
    rw [qq9] at h1 h2 ⊢
    by_cases e1 : cmpS a b = 0
    · have := qkj.1 e1
      subst this
      rw [if_pos e1] at h1
      by_cases e2 : cmpS a c = 0
      · rw [if_pos e2] at h2 ⊢
        exact q2n h1 h2
      · rw [if_neg e2] at h2 ⊢; exact h2
    · rw [if_neg e1] at h1
      by_cases e2 : cmpS b c = 0
      · have := qkj.1 e2
        subst this
        rw [if_neg e1]; exact h1
      · rw [if_neg e2] at h2
        have := qt9 h1 h2
        rw [if_neg (by omega)]; exact this
theorem qba6 {x y : List UInt8} (hx : qu x = true) (hy : qu y = true) (h : qbu x = qbu y) : x = y := by
  rcases qxf hx with ⟨a1, a2⟩ | ⟨a1, a2, a3, a4, a5⟩ <;> rcases qxf hy with ⟨b1, b2⟩ | ⟨b1, b2, b3, b4, b5⟩
  · rw [a1, b1]
  · exfalso
    have h2 := qmk y [] b3
    rw [← b5, ← h, a2] at h2
    simp at h2
    subst h2
    simp at b2
  · exfalso
    have h2 := qmk x [] a3
    rw [← a5, h, b2] at h2
    simp at h2
    subst h2
    simp at a2
  · have h1 := qmk x [] a3
    have h2 := qmk y [] b3
    rw [← a5, h, b5] at h1
    simp only [List.nil_append] at h1 h2
    exact h1.symm.trans h2
theorem qkk {x y : List UInt8} : cmpN x y = 0 ↔ x = y := by
  unfold cmpN
  cases hx : qu x <;> cases hy : qu y
  · simp [qkj]
  · simp only [Bool.true_eq_false, and_self, Bool.false_eq_true, false_and, if_false, if_true]
    exact ⟨fun h => by omega, fun e => by rw [e, hy] at hx; cases hx⟩
  · simp only [and_self, if_true]
    exact ⟨fun h => by omega, fun e => by rw [e, hy] at hx; cases hx⟩
  · simp only [Bool.true_eq_false, and_false, if_false, q5a]
    exact ⟨fun h => qba6 hx hy (by simpa using congrArg List.reverse h), fun e => by rw [e]⟩
theorem qbcx (x y : List UInt8) : cmpN y x = - cmpN x y := by
  unfold cmpN
  cases hx : qu x <;> cases hy : qu y <;> simp
  · exact qxg x y
  · exact q5b _ _
theorem qba7 {x y z : List UInt8} (h1 : cmpN x y < 0) (h2 : cmpN y z < 0) : cmpN x z < 0 := by
  unfold cmpN at *
  cases hx : qu x <;> cases hy : qu y <;> cases hz : qu z <;> simp [hx, hy, hz] at h1 h2 ⊢
  · exact qt9 h1 h2
  · exact q2n h1 h2
theorem q5c (xs ys : List (List UInt8)) (hx : xs.length ≤ 1000000000) (hy : ys.length ≤ 1000000000) (kx : Unit → Option Int) : ∀ (n j : Nat), j ≤ xs.length → j ≤ ys.length → xs.length - j < n →
    qcq (avS xs) (avS ys) kx n ((j + 1 : Nat) : Int) = match cmpZ (xs.reverse.drop j) (ys.reverse.drop j) with
      | some c => some c
      | none => kx ()
  | 0, j, _, _, h => by omega
  | n + 1, j, h1, h2, h3 => by
    unfold qcq qhk
    have hlx : (avS xs).length = xs.length := by simp [avS]
    have hly : (avS ys).length = ys.length := by simp [avS]
    rw [hlx, hly]
    by_cases hc : j < xs.length ∧ j < ys.length
    · have e1 : (decide (((j + 1 : Nat) : Int) ≤ (xs.length : Int)) && decide (((j + 1 : Nat) : Int) ≤ (ys.length : Int))) = true := by simp; omega
      rw [e1, cond_t, w64 (by omega) (by omega), qbcq (j := xs.length - 1 - j) (by omega), q8b xs j hc.1, oB_s]
      rw [show fitC [.s] (AV.str (xs.reverse[j]'(by simpa using hc.1))).cells = true from rfl, cond_t, w64 (by omega) (by omega), qbcq (j := ys.length - 1 - j) (by omega), q8b ys j hc.2, oB_s]
      rw [show fitC [.s] (AV.str (ys.reverse[j]'(by simpa using hc.2))).cells = true from rfl, cond_t]
      rw [show gS (AV.str (xs.reverse[j]'(by simpa using hc.1))).cells 0 = xs.reverse[j]'(by simpa using hc.1) from rfl, show gS (AV.str (ys.reverse[j]'(by simpa using hc.2))).cells 0 = ys.reverse[j]'(by simpa using hc.2) from rfl, q2m, oB_s]
      rw [List.drop_eq_getElem_cons (l := xs.reverse) (i := j) (by simpa using hc.1), List.drop_eq_getElem_cons (l := ys.reverse) (i := j) (by simpa using hc.2)]
      simp only [cmpZ]
      by_cases h0 : cmpS (xs.reverse[j]'(by simpa using hc.1)) (ys.reverse[j]'(by simpa using hc.2)) = 0
      · rw [if_pos h0, h0]
        simp only [bne_self_eq_false, cond_f]
        have ih := q5c xs ys hx hy kx n (j + 1) (by omega) (by omega) (by omega)
        rw [w64 (by omega) (by omega)]
        rw [show ((j + 1 : Nat) : Int) + 1 = ((j + 1 + 1 : Nat) : Int) by omega]
        exact ih
      · rw [if_neg h0]
        have : (cmpS (xs.reverse[j]'(by simpa using hc.1)) (ys.reverse[j]'(by simpa using hc.2)) != 0) = true := by simpa using h0
        rw [this, cond_t]
    · have e1 : (decide (((j + 1 : Nat) : Int) ≤ (xs.length : Int)) && decide (((j + 1 : Nat) : Int) ≤ (ys.length : Int))) = false := by
        rw [Bool.and_eq_false_iff]; simp; omega
      rw [e1, cond_f]
      have : cmpZ (xs.reverse.drop j) (ys.reverse.drop j) = none := by
        rcases Classical.not_and_iff_not_or_not.1 hc with h | h
        · rw [List.drop_eq_nil_of_le (by simp; omega)]; simp [cmpZ]
        · have e : ys.reverse.drop j = [] := List.drop_eq_nil_of_le (by simp; omega)
          rw [e]
          cases xs.reverse.drop j <;> simp [cmpZ]
      rw [this]
theorem lenC (a b : Nat) : (bif decide ((a : Int) < (b : Int)) then some (-1 : Int) else bif decide ((a : Int) > (b : Int)) then some 1 else some 0) = some (if a < b then -1 else if a > b then 1 else 0) := by
  rcases Nat.lt_trichotomy a b with h | h | h
  · have : (a : Int) < b := by omega
    simp [h, this]
  · subst h; simp
  · have h1 : ¬ (a : Int) < b := by omega
    have h2 : (b : Int) < a := by omega
    have h3 : ¬ a < b := by omega
    simp [h1, h2, h3, h]
theorem qba8 (x y : List UInt8) (hx : x.length ≤ 9223372036854775807) (hy : y.length ≤ 9223372036854775807) : qnv x y = some (cmpN x y) := by
  rw [qzn]
  unfold qhs cmpN
  rw [qfq x hx, oB_s, qfq y hy, oB_s, q0i x hx, oB_s, q0i y hy, oB_s, qs5]
  have hlx := q2l (x := x)
  have hly := q2l (x := y)
  have hL := q5c (qbu x) (qbu y) (by omega) (by omega) (fun _ => (bif (decide (((avS (qbu x)).length : Int) < ((avS (qbu y)).length : Int))) then (some (-1 : Int)) else (bif (decide (((avS (qbu x)).length : Int) > ((avS (qbu y)).length : Int))) then (some (1 : Int)) else (some (0 : Int))))) FU 0 (by omega) (by omega) (qfo (by omega))
  rw [show ((0 + 1 : Nat) : Int) = 1 from rfl] at hL
  rw [hL]
  cases qu x <;> cases qu y <;> simp only [Bool.not_true, Bool.not_false, Bool.and_true, Bool.and_false, Bool.and_self, cond_t, cond_f, q2m, oB_s, and_self, if_true, Bool.true_eq_false, Bool.false_eq_true, and_false, false_and, if_false]
  simp only [List.drop_zero]
  unfold cmpR
  cases cmpZ (qbu x).reverse (qbu y).reverse with
  | some c => rfl
  | none =>
    simp only [avS, List.length_map, Option.getD_none, List.length_reverse]
    exact lenC _ _
end Go.Proofs.YtmficjbenbhneaaDoor.Dn
