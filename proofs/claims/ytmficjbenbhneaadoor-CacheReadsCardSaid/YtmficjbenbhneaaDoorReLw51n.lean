/- The order of names: what dname's Compare and ddiref01's answer. -/
import Derived.Test.YtmficjbenbhneaaDoorReLw01u
set_option linter.all false
namespace Go.Proofs.YtmficjbenbhneaaDoor.Dn
open Go Go.Pev
set_option linter.unusedVariables false
set_option linter.unusedSimpArgs false
set_option maxRecDepth 4000
def cmpS (a b : List UInt8) : Int := Lib.compareBytes a b
theorem qpd (a b : UInt8) : a < b ∨ a = b ∨ b < a := by
  rcases Nat.lt_trichotomy a.toNat b.toNat with h | h | h
  · exact .inl h
  · exact .inr (.inl (UInt8.toNat_inj.1 h))
  · exact .inr (.inr h)
theorem qdu {a b : UInt8} (h : a < b) : ¬ b < a := fun h2 => by
  have h1 : a.toNat < b.toNat := h
  have h2 : b.toNat < a.toNat := h2
  omega
theorem qbdr {a b c : UInt8} (h : a < b) (h2 : b < c) : a < c := Nat.lt_trans (show a.toNat < b.toNat from h) h2
theorem qqn (a b : UInt8) (r s : List UInt8) : cmpS (a :: r) (b :: s) = if a < b then -1 else if b < a then 1 else cmpS r s := rfl
theorem qka : ∀ {a b}, cmpS a b = 0 ↔ a = b
  | [], [] => by simp [cmpS, Lib.compareBytes]
  | [], _ :: _ => by simp [cmpS, Lib.compareBytes]
  | _ :: _, [] => by simp [cmpS, Lib.compareBytes]
  | a :: r, b :: s => by
    rw [qqn]
    rcases qpd a b with h | rfl | h
    · rw [if_pos h]
      simp only [List.cons.injEq]
      exact ⟨fun h => by omega, fun e => by rw [e.1] at h; exact absurd h (qdu h)⟩
    · rw [if_neg (fun h => qdu h h), if_neg (fun h => qdu h h), qka]
      simp
    · rw [if_neg (qdu h), if_pos h]
      simp only [List.cons.injEq]
      exact ⟨fun h => by omega, fun e => by rw [e.1] at h; exact absurd h (qdu h)⟩
theorem qww : ∀ a b, cmpS b a = - cmpS a b
  | [], [] => by simp [cmpS, Lib.compareBytes]
  | [], _ :: _ => by simp [cmpS, Lib.compareBytes]
  | _ :: _, [] => by simp [cmpS, Lib.compareBytes]
  | a :: r, b :: s => by
    rw [qqn, qqn]
    rcases qpd a b with h | rfl | h
    · simp [h, qdu h]
    · simp [fun h => qdu (a := a) (b := a) h h, qww r s]
    · simp [h, qdu h]
theorem qto : ∀ {a b c}, cmpS a b < 0 → cmpS b c < 0 → cmpS a c < 0
  | [], [], _, h, _ => by simp [cmpS, Lib.compareBytes] at h
  | [], _ :: _, [], _, h => by simp [cmpS, Lib.compareBytes] at h
  | [], _ :: _, _ :: _, _, _ => by simp [cmpS, Lib.compareBytes]
  | _ :: _, [], _, h, _ => by simp [cmpS, Lib.compareBytes] at h
  | _ :: _, _ :: _, [], _, h => by simp [cmpS, Lib.compareBytes] at h
  | a :: r, b :: s, c :: t, h1, h2 => by
    rw [qqn] at h1 h2 ⊢
    rcases qpd a b with h | rfl | h
    · rcases qpd b c with k | rfl | k
      · rw [if_pos (qbdr h k)]; omega
      · rw [if_pos h]; omega
      · rw [if_neg (qdu k), if_pos k] at h2; omega
    · rw [if_neg (fun h => qdu h h), if_neg (fun h => qdu h h)] at h1
      rcases qpd a c with k | rfl | k
      · rw [if_pos k]; omega
      · rw [if_neg (fun h => qdu h h), if_neg (fun h => qdu h h)] at h2 ⊢
        exact qto h1 h2
      · rw [if_neg (qdu k), if_pos k] at h2; omega
    · rw [if_neg (qdu h), if_pos h] at h1; omega
theorem q19 (a b : List UInt8) : qhh a b = some (cmpS a b) := by
  rw [qvc]
  unfold qfu
  rw [qol]
  rfl
def cmpZ : List (List UInt8) → List (List UInt8) → Option Int
  | a :: r, b :: s => if cmpS a b = 0 then cmpZ r s else some (cmpS a b)
  | _, _ => none
def cmpR (x y : List (List UInt8)) : Int := (cmpZ x y).getD (if x.length < y.length then -1 else if x.length > y.length then 1 else 0)
def cmpN (x y : List UInt8) : Int :=
  if qq x = true ∧ qq y = false then -1 else if qq y = true ∧ qq x = false then 1 else if qq x = false then cmpS x y else cmpR (qbt x).reverse (qbt y).reverse
theorem qqo (a b : List UInt8) (r s : List (List UInt8)) : cmpR (a :: r) (b :: s) = if cmpS a b = 0 then cmpR r s else cmpS a b := by
  unfold cmpR
  simp only [cmpZ]
  split
  · simp
  · rfl
theorem q4r : ∀ {x y}, cmpR x y = 0 ↔ x = y
  | [], [] => by simp [cmpR, cmpZ]
  | [], _ :: _ => by simp [cmpR, cmpZ]
  | _ :: _, [] => by simp [cmpR, cmpZ]
  | a :: r, b :: s => by
    rw [qqo]
    split
    · rename_i h
      rw [q4r, qka.1 h]; simp
    · rename_i h
      simp only [List.cons.injEq]
      exact ⟨fun e => absurd e h, fun e => absurd (qka.2 e.1) h⟩
theorem q4s : ∀ x y, cmpR y x = - cmpR x y
  | [], [] => by simp [cmpR, cmpZ]
  | [], _ :: _ => by simp [cmpR, cmpZ]
  | _ :: _, [] => by simp [cmpR, cmpZ]
  | a :: r, b :: s => by
    rw [qqo, qqo, qww a b, q4s r s]
    split <;> split <;> omega
theorem q2a : ∀ {x y z}, cmpR x y < 0 → cmpR y z < 0 → cmpR x z < 0
  | [], [], _, h, _ => by simp [cmpR, cmpZ] at h
  | [], _ :: _, [], _, h => by simp [cmpR, cmpZ] at h
  | [], _ :: _, _ :: _, _, _ => by simp [cmpR, cmpZ]
  | _ :: _, [], _, h, _ => by simp [cmpR, cmpZ] at h
  | _ :: _, _ :: _, [], _, h => by simp [cmpR, cmpZ] at h
  | a :: r, b :: s, c :: t, h1, h2 => by
    rw [qqo] at h1 h2 ⊢
    by_cases e1 : cmpS a b = 0
    · have := qka.1 e1
      subst this
      rw [if_pos e1] at h1
      by_cases e2 : cmpS a c = 0
      · rw [if_pos e2] at h2 ⊢
        exact q2a h1 h2
      · rw [if_neg e2] at h2 ⊢; exact h2
    · rw [if_neg e1] at h1
      by_cases e2 : cmpS b c = 0
      · have := qka.1 e2
        subst this
        rw [if_neg e1]; exact h1
      · rw [if_neg e2] at h2
        have := qto h1 h2
        rw [if_neg (by omega)]; exact this
theorem qbar {x y : List UInt8} (hx : qq x = true) (hy : qq y = true) (h : qbt x = qbt y) : x = y := by
  rcases qwv hx with ⟨a1, a2⟩ | ⟨a1, a2, a3, a4, a5⟩ <;> rcases qwv hy with ⟨b1, b2⟩ | ⟨b1, b2, b3, b4, b5⟩
  · rw [a1, b1]
  · exfalso
    have h2 := qma y [] b3
    rw [← b5, ← h, a2] at h2
    simp at h2
    subst h2
    simp at b2
  · exfalso
    have h2 := qma x [] a3
    rw [← a5, h, b2] at h2
    simp at h2
    subst h2
    simp at a2
  · have h1 := qma x [] a3
    have h2 := qma y [] b3
    rw [← a5, h, b5] at h1
    simp only [List.nil_append] at h1 h2
    exact h1.symm.trans h2
theorem qkb {x y : List UInt8} : cmpN x y = 0 ↔ x = y := by
  unfold cmpN
  cases hx : qq x <;> cases hy : qq y
  · simp [qka]
  · simp only [Bool.true_eq_false, and_self, Bool.false_eq_true, false_and, if_false, if_true]
    exact ⟨fun h => by omega, fun e => by rw [e, hy] at hx; cases hx⟩
  · simp only [and_self, if_true]
    exact ⟨fun h => by omega, fun e => by rw [e, hy] at hx; cases hx⟩
  · simp only [Bool.true_eq_false, and_false, if_false, q4r]
    exact ⟨fun h => qbar hx hy (by simpa using congrArg List.reverse h), fun e => by rw [e]⟩
theorem qbcg (x y : List UInt8) : cmpN y x = - cmpN x y := by
  unfold cmpN
  cases hx : qq x <;> cases hy : qq y <;> simp
  · exact qww x y
  · exact q4s _ _
theorem qbas {x y z : List UInt8} (h1 : cmpN x y < 0) (h2 : cmpN y z < 0) : cmpN x z < 0 := by
  unfold cmpN at *
  cases hx : qq x <;> cases hy : qq y <;> cases hz : qq z <;> simp [hx, hy, hz] at h1 h2 ⊢
  · exact qto h1 h2
  · exact q2a h1 h2
theorem q4t (xs ys : List (List UInt8)) (hx : xs.length ≤ 1000000000) (hy : ys.length ≤ 1000000000) (kx : Unit → Option Int) : ∀ (n j : Nat), j ≤ xs.length → j ≤ ys.length → xs.length - j < n →
    qcn (avS xs) (avS ys) kx n ((j + 1 : Nat) : Int) = match cmpZ (xs.reverse.drop j) (ys.reverse.drop j) with
      | some c => some c
      | none => kx ()
  | 0, j, _, _, h => by omega
  | n + 1, j, h1, h2, h3 => by
    unfold qcn qha
    have hlx : (avS xs).length = xs.length := by simp [avS]
    have hly : (avS ys).length = ys.length := by simp [avS]
    rw [hlx, hly]
    by_cases hc : j < xs.length ∧ j < ys.length
    · have e1 : (decide (((j + 1 : Nat) : Int) ≤ (xs.length : Int)) && decide (((j + 1 : Nat) : Int) ≤ (ys.length : Int))) = true := by simp; omega
      rw [e1, cond_t, w64 (by omega) (by omega), qbb9 (j := xs.length - 1 - j) (by omega), q7p xs j hc.1, oB_s]
      rw [show fitC [.s] (AV.str (xs.reverse[j]'(by simpa using hc.1))).cells = true from rfl, cond_t, w64 (by omega) (by omega), qbb9 (j := ys.length - 1 - j) (by omega), q7p ys j hc.2, oB_s]
      rw [show fitC [.s] (AV.str (ys.reverse[j]'(by simpa using hc.2))).cells = true from rfl, cond_t]
      rw [show gS (AV.str (xs.reverse[j]'(by simpa using hc.1))).cells 0 = xs.reverse[j]'(by simpa using hc.1) from rfl, show gS (AV.str (ys.reverse[j]'(by simpa using hc.2))).cells 0 = ys.reverse[j]'(by simpa using hc.2) from rfl, q19, oB_s]
      rw [List.drop_eq_getElem_cons (l := xs.reverse) (i := j) (by simpa using hc.1), List.drop_eq_getElem_cons (l := ys.reverse) (i := j) (by simpa using hc.2)]
      simp only [cmpZ]
      by_cases h0 : cmpS (xs.reverse[j]'(by simpa using hc.1)) (ys.reverse[j]'(by simpa using hc.2)) = 0
      · rw [if_pos h0, h0]
        simp only [bne_self_eq_false, cond_f]
        have ih := q4t xs ys hx hy kx n (j + 1) (by omega) (by omega) (by omega)
        rw [w64 (by omega) (by omega)]
        rw [show ((j + 1 : Nat) : Int) + 1 = ((j + 1 + 1 : Nat) : Int) by omega]
        exact ih
      · rw [if_neg h0]
        have : (cmpS (xs.reverse[j]'(by simpa using hc.1)) (ys.reverse[j]'(by simpa using hc.2)) != 0) = true := by simpa using h0
        rw [this, cond_t]
    · have e1 : (decide (((j + 1 : Nat) : Int) ≤ (xs.length : Int)) && decide (((j + 1 : Nat) : Int) ≤ (ys.length : Int))) = false := by
        rw [Bool.and_eq_false_iff]; simp; omega
      rw [e1, cond_f]
      have : cmpZ (xs.reverse.drop j) (ys.reverse.drop j) = none := by
        rcases Classical.not_and_iff_not_or_not.1 hc with h | h
        · rw [List.drop_eq_nil_of_le (by simp; omega)]; simp [cmpZ]
        · have e : ys.reverse.drop j = [] := List.drop_eq_nil_of_le (by simp; omega)
          rw [e]
          cases xs.reverse.drop j <;> simp [cmpZ]
      rw [this]
theorem lenC (a b : Nat) : (bif decide ((a : Int) < (b : Int)) then some (-1 : Int) else bif decide ((a : Int) > (b : Int)) then some 1 else some 0) = some (if a < b then -1 else if a > b then 1 else 0) := by
  rcases Nat.lt_trichotomy a b with h | h | h
  · have : (a : Int) < b := by omega
    simp [h, this]
  · subst h; simp
  · have h1 : ¬ (a : Int) < b := by omega
    have h2 : (b : Int) < a := by omega
    have h3 : ¬ a < b := by omega
    simp [h1, h2, h3, h]
theorem qbat (x y : List UInt8) (hx : x.length ≤ 9223372036854775807) (hy : y.length ≤ 9223372036854775807) : qnb x y = some (cmpN x y) := by
  rw [qy7]
  unfold qhi cmpN
  rw [qef x hx, oB_s, qef y hy, oB_s, qz0 x hx, oB_s, qz0 y hy, oB_s, qsk]
  have hlx := q18 (x := x)
  have hly := q18 (x := y)
  have hL := q4t (qbt x) (qbt y) (by omega) (by omega) (fun _ => (bif (decide (((avS (qbt x)).length : Int) < ((avS (qbt y)).length : Int))) then (some (-1 : Int)) else (bif (decide (((avS (qbt x)).length : Int) > ((avS (qbt y)).length : Int))) then (some (1 : Int)) else (some (0 : Int))))) FU 0 (by omega) (by omega) (qfd (by omega))
  rw [show ((0 + 1 : Nat) : Int) = 1 from rfl] at hL
  rw [hL]
  cases qq x <;> cases qq y <;> simp only [Bool.not_true, Bool.not_false, Bool.and_true, Bool.and_false, Bool.and_self, cond_t, cond_f, q19, oB_s, and_self, if_true, Bool.true_eq_false, Bool.false_eq_true, and_false, false_and, if_false]
  simp only [List.drop_zero]
  unfold cmpR
  cases cmpZ (qbt x).reverse (qbt y).reverse with
  | some c => rfl
  | none =>
    simp only [avS, List.length_map, Option.getD_none, List.length_reverse]
    exact lenC _ _
end Go.Proofs.YtmficjbenbhneaaDoor.Dn
