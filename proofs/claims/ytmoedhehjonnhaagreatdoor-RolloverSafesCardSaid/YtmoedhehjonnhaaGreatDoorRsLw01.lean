/- Names: what ddiref01 answers. -/
import Derived.Test.YtmoedhehjonnhaaGreatDoorRsDn22
import Derived.Test.YtmoedhehjonnhaaGreatDoorRsLibD
set_option linter.all false
namespace Go.Proofs.YtmoedhehjonnhaaGreatDoor.Dn
open Go Go.Pev
set_option linter.unusedVariables false
set_option linter.unusedSimpArgs false
def labC (c : UInt8) : Bool := (decide (97 ≤ c.toNat) && decide (c.toNat ≤ 122)) || (decide (48 ≤ c.toNat) && decide (c.toNat ≤ 57)) || c.toNat == 45 || c.toNat == 95
def qv0 (x : List UInt8) : Bool := x == [42] || (decide (1 ≤ x.length) && decide (x.length ≤ 63) && x.all labC)
theorem qbkg (x : List UInt8) (hx : x.length ≤ 9223372036854775807) : qnn x = some (qv0 x) := by
  rw [q1v]
  unfold qhy
  rw [quw, qlk x hx (qc1 x fun _ => some true) (fun i nx => qc0 x i nx fun _ => some true) (fun _ _ => rfl) (fun r => some (r.all labC))]
  · unfold qv0
    by_cases h1 : x = [42]
    · simp [h1]
    · have e1 : (x == [42]) = false := by simpa using h1
      rw [e1]
      by_cases h2 : x.length < 1
      · have : x.length = 0 := by omega
        simp [this]
      · by_cases h3 : 63 < x.length
        · have e : ¬ x.length ≤ 63 := by omega
          have e' : (63 : Int) < (x.length : Int) := by omega
          simp [e, e']
        · have a1 : ¬ ((x.length : Int) < 1) := by omega
          have a2 : ¬ ((63 : Int) < (x.length : Int)) := by omega
          have a3 : 1 ≤ x.length := by omega
          have a4 : x.length ≤ 63 := by omega
          simp [a1, a2, a3, a4]
  · intro nx; simp [qc0]
  · intro i a r nx h1 h2 h3 h4 h5
    have h6 : (i : Int) < (x.length : Int) := by omega
    have key : ∀ kn : Bool → Option Bool, qjg x i (a.toNat : Int) kn = kn (!labC a) := by
      intro kn
      have co : ∀ (p a b : Bool), (bif p then kn a else kn b) = kn (bif p then a else b) := by intro p; cases p <;> intros <;> rfl
      rw [quv]
      unfold qfp labC
      simp only [co]
      have fin : ∀ n : Fin 256, (bif (decide ((n.val : Int) ≥ (97 : Int))) && (decide ((n.val : Int) ≤ (122 : Int))) then false else (bif (decide ((n.val : Int) ≥ (48 : Int))) then (!(((decide ((n.val : Int) ≤ (57 : Int))) || ((n.val : Int) == (45 : Int))) || ((n.val : Int) == (95 : Int)))) else (!(((n.val : Int) == (45 : Int)) || ((n.val : Int) == (95 : Int)))))) =
          !((decide (97 ≤ n.val) && decide (n.val ≤ 122)) || (decide (48 ≤ n.val) && decide (n.val ≤ 57)) || n.val == 45 || n.val == 95) := by decide +kernel
      exact congrArg kn (fin ⟨a.toNat, a.toNat_lt⟩)
    unfold qc0
    simp only [h6, decide_true, cond_t, ixB_nat, h2, oB_s, key, h4]
    cases h7 : labC a
    · simp [h7]
    · simp only [Bool.not_true, cond_t, cond_f, h5, List.all_cons, h7, Bool.true_and]
def spl : List UInt8 → List UInt8 → List (List UInt8)
  | _, [] => []
  | cur, c :: r => if c = 46 then cur :: spl [] r else spl (cur ++ [c]) r
def qm6 (x : List UInt8) : Bool := decide (2 ≤ x.length) && decide (x.length ≤ 254) && x.getLast? == some 46
def qi5 : Bool → List (List UInt8) → Bool
  | _, [] => true
  | f, l :: ls => qv0 l && (f || !(l == [42])) && qi5 false ls
def qul (x : List UInt8) : List (List UInt8) × Bool :=
  if x = [46] then ([], true) else if qm6 x = true ∧ qi5 true (spl [] x) = true then (spl [] x, true) else ([], false)
def qka (x : List UInt8) : Bool := (qul x).2
def avS (l : List (List UInt8)) : List AV := l.map AV.str
theorem qbl6 (x : List UInt8) (hx : x.length ≤ 254) (kx : List AV → Option (List AV × Bool)) :
    qk6 x kx FU 0 0 [] = if qi5 true (spl [] x) = true then kx (avS (spl [] x)) else some ([], false) := by
  rw [qw6]
  -- the state: where the label began, where we are, the labels so far
  let S : (Int × Int × List AV) → Option (List AV × Bool) := fun s =>
    if qi5 (decide (s.1 = 0)) (spl ((x.take s.2.1.toNat).drop s.1.toNat) (x.drop s.2.1.toNat)) = true then kx (s.2.2 ++ avS (spl ((x.take s.2.1.toNat).drop s.1.toNat) (x.drop s.2.1.toNat))) else some ([], false)
  have key := q5h (fun n (s : Int × Int × List AV) => qee x kx n s.1 s.2.1 s.2.2) (fun s nx => qed x s.1 s.2.1 s.2.2 (fun a b c => nx (a, b, c)) kx) (fun _ _ => rfl)
    (fun s => 0 ≤ s.1 ∧ s.1 ≤ s.2.1 ∧ s.2.1 ≤ x.length ∧ s.2.2.length ≤ s.2.1) (fun s => (x.length - s.2.1).toNat) S ?_ FU (0, 0, []) (by simp) (qcc (by simp; omega))
  · have e : S (0, 0, []) = if qi5 true (spl [] x) = true then kx (avS (spl [] x)) else some ([], false) := by simp [S]
    rw [← e]; exact key
  · rintro ⟨st, i, acc⟩ ⟨h0, h1, h2, h3⟩ nx hn
    simp only at h0 h1 h2 h3
    obtain ⟨i, rfl⟩ : ∃ j : Nat, i = j := ⟨i.toNat, by omega⟩
    obtain ⟨st, rfl⟩ : ∃ j : Nat, st = j := ⟨st.toNat, by omega⟩
    have hw : IntKind.i64.wrap ((i : Int) + 1) = ((i + 1 : Nat) : Int) := w64 (by omega) (by omega)
    simp only [S, Int.toNat_natCast]
    by_cases hlt : i < x.length
    · have hd : x.drop i = x[i] :: x.drop (i + 1) := List.drop_eq_getElem_cons hlt
      have hi : x[i]? = some x[i] := by simp [hlt]
      have ht : x.take (i + 1) = x.take i ++ [x[i]] := (List.take_append_getElem hlt).symm
      have hlt' : (i : Int) < (x.length : Int) := by omega
      unfold qed
      simp only [hlt', decide_true, cond_t, ixB_nat, hi, oB_s, hw]
      by_cases hc : x[i] = 46
      · have hc' : (((x[i]).toNat : Int) != 46) = false := by rw [hc]; rfl
        have hcut : cutI x (some (st : Int)) (some (i : Int)) = some ((x.take i).drop st) := by
          simp only [cutI, Option.getD_some, Int.toNat_natCast]
          rw [if_pos ⟨by omega, by omega, by omega⟩]
        have hsl : ((x.take i).drop st).length ≤ 9223372036854775807 := by simp; omega
        simp only [hc', cond_f, hcut, oB_s, hd_self, Bool.and_true, cond_t, qw5, qgh, qbkg _ hsl]
        have hsz : (acc.length + 1) * 16 ≤ 140737488355328 := by omega
        have hnx := hn (((i + 1 : Nat) : Int), ((i + 1 : Nat) : Int), acc ++ [.str ((x.take i).drop st)]) ⟨by simp; omega, by simp, by simp; omega, by simp; omega⟩ (by simp; omega)
        simp only [S, Int.toNat_natCast] at hnx
        have hz : (x.take (i + 1)).drop (i + 1) = [] := by simp
        rw [hz] at hnx
        have hne : decide (((i + 1 : Nat) : Int) = 0) = false := by simp; omega
        rw [hne] at hnx
        rw [hd]
        simp only [spl, hc, if_true, qi5]
        cases hl : qv0 ((x.take i).drop st)
        · simp
        · by_cases hstar : (x.take i).drop st = [42]
          · rw [hstar] at hnx ⊢
            by_cases h00 : st = 0
            · have e1 : decide ((st : Int) > 0) = false := by simp; omega
              have e2 : decide ((st : Int) = 0) = true := by simp; omega
              simp only [e1, e2, Bool.not_true, cond_f, cond_t, beq_self_eq_true, List.length_singleton, hsz, decide_true, Bool.true_or, Bool.and_true, Bool.true_and]
              rw [hnx]
              simp [avS, List.append_assoc]
            · have e1 : decide ((st : Int) > 0) = true := by simp; omega
              have e2 : decide ((st : Int) = 0) = false := by simp; omega
              have e3 : 0 < st := by omega
              simp [e1, e2, e3, h00]
          · have e1 : ((x.take i).drop st == [42]) = false := by simpa using hstar
            simp only [e1, Bool.not_true, cond_f, cond_t, Bool.not_false, Bool.or_true, Bool.and_true, Bool.true_and, List.length_singleton, hsz, decide_true]
            rw [hnx]
            simp [avS, List.append_assoc]
      · have hc' : (((x[i]).toNat : Int) != 46) = true := by
          have : (x[i]).toNat ≠ 46 := fun h => hc (by rw [← UInt8.toNat_inj]; exact h)
          simp; omega
        simp only [hc', cond_t]
        have hnx := hn ((st : Int), ((i + 1 : Nat) : Int), acc) ⟨by simp, by simp; omega, by simp; omega, by simp; omega⟩ (by simp; omega)
        simp only [S, Int.toNat_natCast] at hnx
        rw [hnx, hd]
        simp only [spl, hc, if_false]
        have e : (x.take (i + 1)).drop st = (x.take i).drop st ++ [x[i]] := by
          rw [ht, List.drop_append_of_le_length (by simp; omega)]
        rw [e]
    · have : i = x.length := by omega
      subst this
      unfold qed
      simp [spl, qi5, avS]
theorem qbhm (x : List UInt8) (hx : x.length ≤ 9223372036854775807) : qlr x = some (avS (qul x).1, (qul x).2) := by
  rw [q6e]
  unfold qjh qul
  by_cases h1 : x = [46]
  · simp [h1, avS]
  · have e1 : (x == [46]) = false := by simpa using h1
    rw [if_neg h1]
    simp only [e1, cond_f, qw3, qgg, hd_self, Bool.and_true, cond_t]
    by_cases h2 : 2 ≤ x.length ∧ x.length ≤ 254
    · have a1 : ¬ ((x.length : Int) < 2) := by omega
      have a2 : ¬ ((254 : Int) < (x.length : Int)) := by omega
      have hw : IntKind.i64.wrap ((x.length : Int) - 1) = ((x.length - 1 : Nat) : Int) := by rw [w64 (by omega) (by omega)]; omega
      have hi : x[x.length - 1]? = some (x[x.length - 1]'(by omega)) := by simp <;> omega
      have hl : x.getLast? = some (x[x.length - 1]'(by omega)) := by rw [List.getLast?_eq_getElem?, hi]
      simp only [a1, gt_iff_lt, a2, decide_false, Bool.or_false, cond_f, hw, ixB_nat, hi, oB_s]
      by_cases h3 : x[x.length - 1]'(by omega) = 46
      · have h3' : (((x[x.length - 1]'(by omega)).toNat : Int) != 46) = false := by rw [h3]; rfl
        have hok : qm6 x = true := by simp [qm6, h2.1, h2.2, hl, h3]
        simp only [h3', cond_f]
        rw [qbl6 x h2.2]
        by_cases h4 : qi5 true (spl [] x) = true
        · simp [hok, h4]
        · simp [hok, h4, avS]
      · have h3' : (((x[x.length - 1]'(by omega)).toNat : Int) != 46) = true := by
          have : (x[x.length - 1]'(by omega)).toNat ≠ 46 := fun h => h3 (by rw [← UInt8.toNat_inj]; exact h)
          simp; omega
        have hok : qm6 x = false := by simp [qm6, hl, h3]
        simp only [h3', cond_t]
        simp [hok, avS]
    · have hok : qm6 x = false := by
        unfold qm6
        by_cases h : 2 ≤ x.length
        · have : ¬ x.length ≤ 254 := fun h' => h2 ⟨h, h'⟩
          simp [this]
        · simp [h]
      have a : (decide ((x.length : Int) < 2) || decide ((x.length : Int) > 254)) = true := by
        simp; omega
      simp only [a, cond_t]
      simp [hok, avS]
theorem qbkh (x : List UInt8) (hx : x.length ≤ 9223372036854775807) : qix x = some (qka x) := by
  rw [q6f]
  unfold qji
  rw [qbhm x hx]; rfl
end Go.Proofs.YtmoedhehjonnhaaGreatDoor.Dn
