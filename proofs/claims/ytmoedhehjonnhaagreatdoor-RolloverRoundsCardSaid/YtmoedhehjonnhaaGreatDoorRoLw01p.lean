/- Names: what the program's words of layer 1 answer. -/
import Derived.Test.YtmoedhehjonnhaaGreatDoorRoLw01
import Derived.Test.YtmoedhehjonnhaaGreatDoorRoLwSp
set_option linter.all false
namespace Go.Proofs.YtmoedhehjonnhaaGreatDoor.Dn
open Go Go.Pev
set_option linter.unusedVariables false
set_option linter.unusedSimpArgs false
set_option maxRecDepth 4000
def ordB (x : List UInt8) : Bool := decide (1 ≤ x.length) && decide (x.length ≤ 63) && x.all labC
theorem q71 (x : List UInt8) (hx : x.length ≤ 9223372036854775807) : qlt x = some (ordB x) := by
  rw [qwm]; unfold qg4
  rw [qqn, qvy x hx (qdv x (x.length : Int) fun _ => some true) (fun i nx => qdu x (x.length : Int) i nx fun _ => some true) (fun _ _ => rfl) (fun r => some (r.all labC))]
  · unfold ordB
    by_cases h1 : x = []
    · subst h1; rfl
    · have e1 : (x == []) = false := by simpa using h1
      have h2 : 1 ≤ x.length := by
        cases x with
        | nil => exact absurd rfl h1
        | cons a r => simp
      by_cases h3 : x.length ≤ 63
      · have : ¬ (x.length : Int) > 63 := by omega
        simp only [e1, this, h2, h3, decide_true, decide_false, Bool.or_self, cond_f, Bool.true_and]
      · have : (x.length : Int) > 63 := by omega
        simp [e1, this, h3]
  · intro nx; simp [qdu]
  · intro i a r nx h1 h2 h3 h4 h5
    have h6 : (i : Int) < (x.length : Int) := by omega
    have key : ∀ kn : Bool → Option Bool, qic x (a.toNat : Int) (x.length : Int) i kn = kn (!labC a) := by
      intro kn
      have co : ∀ (p a b : Bool), (bif p then kn a else kn b) = kn (bif p then a else b) := by intro p; cases p <;> intros <;> rfl
      rw [qqm]
      unfold qe7 labC
      simp only [co]
      have fin : ∀ n : Fin 256, (bif ((decide ((n.val : Int) < (97 : Int))) || (decide ((n.val : Int) > (122 : Int)))) then (bif (decide ((n.val : Int) < (48 : Int))) then (((n.val : Int) != (45 : Int)) && ((n.val : Int) != (95 : Int))) else (((decide ((n.val : Int) > (57 : Int))) && ((n.val : Int) != (45 : Int))) && ((n.val : Int) != (95 : Int)))) else false) =
          !((decide (97 ≤ n.val) && decide (n.val ≤ 122)) || (decide (48 ≤ n.val) && decide (n.val ≤ 57)) || n.val == 45 || n.val == 95) := by decide +kernel
      exact congrArg kn (fin ⟨a.toNat, a.toNat_lt⟩)
    unfold qdu
    simp only [h6, decide_true, cond_t, ixB_nat, h2, oB_s, key, h4]
    cases h7 : labC a
    · simp [h7]
    · simp only [Bool.not_true, cond_t, cond_f, h5, List.all_cons, h7, Bool.true_and]
def sufB (x y : List UInt8) : Bool := decide (y.length ≤ x.length) && x.drop (x.length - y.length) == y
theorem q6d (x y : List UInt8) (hx : x.length ≤ 9223372036854775807) : qja x y = some (sufB x y) := by
  rw [qru]; unfold qfo
  rw [qn7]; unfold qd5 sufB
  by_cases h : y.length ≤ x.length
  · have h1 : (x.length : Int) ≥ (y.length : Int) := by omega
    have w : IntKind.i64.wrap ((x.length : Int) - (y.length : Int)) = ((x.length - y.length : Nat) : Int) := by rw [w64 (by omega) (by omega)]; omega
    have hc : cutI x (some ((x.length - y.length : Nat) : Int)) none = some (x.drop (x.length - y.length)) := by
      unfold cutI
      simp only [Option.getD_none, Option.getD_some]
      rw [if_pos ⟨by omega, by omega, by omega⟩, Int.toNat_natCast, Int.toNat_natCast, List.take_length]
    simp only [h1, decide_true, cond_t, w, hc, oB_s, h, Bool.true_and]
  · have h1 : ¬ (x.length : Int) ≥ (y.length : Int) := by omega
    simp [h1, h]
def qp4 : Bool → List (List UInt8) → Bool
  | _, [] => true
  | f, l :: ls => (ordB l || (f && l == [42])) && qp4 false ls
def valB (x : List UInt8) : Bool := x == [46] || (decide (x.length < 255) && sufB x [46] && qp4 true (qcg [] (x.take (x.length - 1))))
theorem qyp : ∀ (s cur : List UInt8), ∀ l, l ∈ qcg cur s → l.length ≤ cur.length + s.length
  | [], cur, l, h => by simp [qcg] at h; subst h; simp
  | c :: r, cur, l, h => by
    unfold qcg at h
    split at h
    · rcases List.mem_cons.1 h with rfl | h
      · simp <;> omega
      · have := qyp r [] l h; simp at this ⊢; omega
    · have := qyp r _ l h; simp at this ⊢; omega
theorem qbd8 (ps : List (List UInt8)) (hps : ps.length ≤ 9223372036854775807) (hl : ∀ l, l ∈ ps → l.length ≤ 9223372036854775807) :
    qkp (ps.map AV.str) ((ps.map AV.str).length : Int) (fun _ => some true) FU 0 = some (qp4 true ps) := by
  have hlen : (ps.map AV.str).length = ps.length := by simp
  rw [quh, hlen]
  have key := qde (σ := Unit) ps hps (fun n i _ => qe6 (ps.map AV.str) (ps.length : Int) (fun _ => some true) n i) (fun i _ nx => qe5 (ps.map AV.str) (ps.length : Int) i (fun j => nx j ()) (fun _ => some true)) (fun _ _ _ => rfl)
    (fun _ _ => True) (fun r _ => some (qp4 (decide (r.length = ps.length)) r)) ?_ ?_ () FU trivial (qek (by omega))
  · simpa using key
  · intro s nx _
    simp [qe5, qp4]
  · intro i l r s nx h1 h2 h3 h4 _ h5
    have h6 : (i : Int) < (ps.length : Int) := by omega
    have hg : (ps.map AV.str)[i]? = some (.str l) := by simp [h2]
    have hr : r.length = ps.length - (i + 1) := by
      have := congrArg List.length h1
      simp at this
      omega
    unfold qe5
    simp only [h6, decide_true, cond_t, ixB_nat, hg, oB_s]
    rw [show fitC [.s] (AV.str l).cells = true from rfl, show gS (AV.str l).cells 0 = l from rfl]
    simp only [cond_t, qug, qgi, q71 l (hl l (List.mem_of_getElem? h2)), oB_s, h4, h5 () trivial, qp4]
    have e1 : decide (r.length = ps.length) = false := decide_eq_false (by omega)
    have e2 : decide ((l :: r).length = ps.length) = decide (i = 0) := decide_eq_decide.2 (by simp; omega)
    rw [e1, e2]
    by_cases hi : i = 0
    · subst hi
      cases ordB l <;> cases (l == [42]) <;> rfl
    · have a1 : decide ((i : Int) > 0) = true := decide_eq_true (by omega)
      have a2 : decide (i = 0) = false := decide_eq_false hi
      rw [a1, a2]
      cases ordB l <;> rfl
theorem qbba (x : List UInt8) (hx : x.length ≤ 9223372036854775807) : qgd x = some (valB x) := by
  rw [q0m]; unfold qjn valB
  by_cases h1 : x = [46]
  · subst h1; rfl
  · have e1 : (x == [46]) = false := by simpa using h1
    rw [e1]
    simp only [cond_f, que, qgh, q6d x _ hx, oB_s, Bool.false_or]
    by_cases h2 : x.length < 255
    · have e2 : ¬ (x.length : Int) ≥ 255 := by omega
      simp only [e2, decide_false, cond_f, h2, decide_true, Bool.true_and]
      cases h3 : sufB x [46] with
      | false => rfl
      | true =>
        have h4 : 1 ≤ x.length := by
          simp [sufB] at h3
          exact h3.1
        have w : IntKind.i64.wrap ((x.length : Int) - 1) = ((x.length - 1 : Nat) : Int) := by rw [w64 (by omega) (by omega)]; omega
        have hc : cutI x none (some ((x.length - 1 : Nat) : Int)) = some (x.take (x.length - 1)) := by
          unfold cutI
          simp only [Option.getD_none, Option.getD_some]
          rw [if_pos ⟨by omega, by omega, by omega⟩, Int.toNat_natCast]
          rfl
        have hpl := qmx (x.take (x.length - 1)) []
        have hcl : (x.take (x.length - 1)).count 46 ≤ (x.take (x.length - 1)).length := List.count_le_length
        have htl : (x.take (x.length - 1)).length ≤ 254 := by simp; omega
        simp only [Bool.not_true, cond_f, w, hc, oB_s, qbc4 _ (by omega : (x.take (x.length - 1)).length ≤ 1000000000)]
        rw [qbd8 _ (by omega) (fun l hl => by have := qyp _ _ l hl; simp only [List.length_nil] at this; omega)]
        simp
    · have e2 : (x.length : Int) ≥ 255 := by omega
      simp [e2, h2]
theorem qv1 : ∀ (y cur : List UInt8), spl cur (y ++ [46]) = qcg cur y
  | [], cur => by simp [spl, qcg]
  | c :: r, cur => by
    simp only [List.cons_append, spl, qcg]
    split
    · rw [qv1 r]
    · rw [qv1 r]
theorem q62 : ∀ (ls : List (List UInt8)) (f : Bool), qp4 f ls = qro f ls
  | [], f => rfl
  | l :: ls, f => by
    unfold qp4 qro
    rw [q62 ls false]
    by_cases h : l = [42]
    · subst h
      rw [show ordB [42] = false from by decide, show q3l [42] = true from by decide]
      cases f <;> rfl
    · have e : (l == [42]) = false := by simpa using h
      rw [e]
      rw [show q3l l = ordB l by simp [q3l, ordB, e]]
      cases ordB l <;> cases f <;> rfl
theorem qbd9 (x : List UInt8) : valB x = qo0 x := by
  unfold valB qo0 q0h
  by_cases h1 : x = [46]
  · subst h1; rfl
  · have e1 : (x == [46]) = false := by simpa using h1
    rw [e1, if_neg h1, Bool.false_or]
    rcases List.eq_nil_or_concat x with rfl | ⟨y, c, rfl⟩
    · rfl
    · rw [List.concat_eq_append] at *
      have hl : (y ++ [c]).length - 1 = y.length := by simp
      have hs : sufB (y ++ [c]) [46] = (c == 46) := by
        unfold sufB
        have : (y ++ [c]).length - ([46] : List UInt8).length = y.length := by simp
        rw [this]
        simp
      have he : q0g (y ++ [c]) = (decide (1 ≤ y.length) && decide ((y ++ [c]).length < 255) && (c == 46)) := by
        unfold q0g
        have a1 : decide (2 ≤ (y ++ [c]).length) = decide (1 ≤ y.length) := decide_eq_decide.2 (by simp)
        have a2 : decide ((y ++ [c]).length ≤ 254) = decide ((y ++ [c]).length < 255) := decide_eq_decide.2 (by omega)
        rw [a1, a2]
        simp
      rw [hl, hs, he, List.take_left]
      by_cases hc : c = 46
      · subst hc
        rw [qv1, q62]
        have hy : 1 ≤ y.length := by
          cases y with
          | nil => exact absurd rfl h1
          | cons a r => simp
        rw [decide_eq_true hy]
        cases decide ((y ++ [46]).length < 255) <;> cases qro true (qcg [] y) <;> simp
      · have hb : (c == 46) = false := by simpa using hc
        rw [hb]
        simp
theorem q9q (x : List UInt8) (hx : x.length ≤ 9223372036854775807) : qgd x = some (qo0 x) := by rw [qbba x hx, qbd9]
def q1f (x : List UInt8) : List (List UInt8) := (q0h x).1
end Go.Proofs.YtmoedhehjonnhaaGreatDoor.Dn
