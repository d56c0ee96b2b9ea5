/- Names: what the program's words of layer 1 answer. -/
import Derived.Test.YtmoedhehjonnhaaGreatDoorRyLw01
import Derived.Test.YtmoedhehjonnhaaGreatDoorRyLwSp
set_option linter.all false
namespace Go.Proofs.YtmoedhehjonnhaaGreatDoor.Dn
open Go Go.Pev
set_option linter.unusedVariables false
set_option linter.unusedSimpArgs false
set_option maxRecDepth 4000
def ordB (x : List UInt8) : Bool := decide (1 ≤ x.length) && decide (x.length ≤ 63) && x.all labC
theorem q8r (x : List UInt8) (hx : x.length ≤ 9223372036854775807) : qma x = some (ordB x) := by
  rw [qxg]; unfold qhj
  rw [qrh, qne x hx (qdz x (x.length : Int) fun _ => some true) (fun i nx => qdy x (x.length : Int) i nx fun _ => some true) (fun _ _ => rfl) (fun r => some (r.all labC))]
  · unfold ordB
    by_cases h1 : x = []
    · subst h1; rfl
    · have e1 : (x == []) = false := by simpa using h1
      have h2 : 1 ≤ x.length := by
        cases x with
        | nil => exact absurd rfl h1
        | cons a r => simp
      by_cases h3 : x.length ≤ 63
      · have : ¬ (x.length : Int) > 63 := by omega
        simp only [e1, this, h2, h3, decide_true, decide_false, Bool.or_self, cond_f, Bool.true_and]
      · have : (x.length : Int) > 63 := by omega
        simp [e1, this, h3]
  · intro nx; simp [qdy]
  · intro i a r nx h1 h2 h3 h4 h5
    have h6 : (i : Int) < (x.length : Int) := by omega
    have key : ∀ kn : Bool → Option Bool, qis x (a.toNat : Int) (x.length : Int) i kn = kn (!labC a) := by
      intro kn
      have co : ∀ (p a b : Bool), (bif p then kn a else kn b) = kn (bif p then a else b) := by intro p; cases p <;> intros <;> rfl
      rw [qrg]
      unfold qfh labC
      simp only [co]
      have fin : ∀ n : Fin 256, (bif ((decide ((n.val : Int) < (97 : Int))) || (decide ((n.val : Int) > (122 : Int)))) then (bif (decide ((n.val : Int) < (48 : Int))) then (((n.val : Int) != (45 : Int)) && ((n.val : Int) != (95 : Int))) else (((decide ((n.val : Int) > (57 : Int))) && ((n.val : Int) != (45 : Int))) && ((n.val : Int) != (95 : Int)))) else false) =
          !((decide (97 ≤ n.val) && decide (n.val ≤ 122)) || (decide (48 ≤ n.val) && decide (n.val ≤ 57)) || n.val == 45 || n.val == 95) := by decide +kernel
      exact congrArg kn (fin ⟨a.toNat, a.toNat_lt⟩)
    unfold qdy
    simp only [h6, decide_true, cond_t, ixB_nat, h2, oB_s, key, h4]
    cases h7 : labC a
    · simp [h7]
    · simp only [Bool.not_true, cond_t, cond_f, h5, List.all_cons, h7, Bool.true_and]
def sufB (x y : List UInt8) : Bool := decide (y.length ≤ x.length) && x.drop (x.length - y.length) == y
theorem q68 (x y : List UInt8) (hx : x.length ≤ 9223372036854775807) : qjo x y = some (sufB x y) := by
  rw [qso]; unfold qfz
  rw [qov]; unfold qed sufB
  by_cases h : y.length ≤ x.length
  · have h1 : (x.length : Int) ≥ (y.length : Int) := by omega
    have w : IntKind.i64.wrap ((x.length : Int) - (y.length : Int)) = ((x.length - y.length : Nat) : Int) := by rw [w64 (by omega) (by omega)]; omega
    have hc : cutI x (some ((x.length - y.length : Nat) : Int)) none = some (x.drop (x.length - y.length)) := by
      unfold cutI
      simp only [Option.getD_none, Option.getD_some]
      rw [if_pos ⟨by omega, by omega, by omega⟩, Int.toNat_natCast, Int.toNat_natCast, List.take_length]
    simp only [h1, decide_true, cond_t, w, hc, oB_s, h, Bool.true_and]
  · have h1 : ¬ (x.length : Int) ≥ (y.length : Int) := by omega
    simp [h1, h]
def qqx : Bool → List (List UInt8) → Bool
  | _, [] => true
  | f, l :: ls => (ordB l || (f && l == [42])) && qqx false ls
def valB (x : List UInt8) : Bool := x == [46] || (decide (x.length < 255) && sufB x [46] && qqx true (qck [] (x.take (x.length - 1))))
theorem qzk : ∀ (s cur : List UInt8), ∀ l, l ∈ qck cur s → l.length ≤ cur.length + s.length
  | [], cur, l, h => by simp [qck] at h; subst h; simp
  | c :: r, cur, l, h => by
    unfold qck at h
    split at h
    · rcases List.mem_cons.1 h with rfl | h
      · simp <;> omega
      · have := qzk r [] l h; simp at this ⊢; omega
    · have := qzk r _ l h; simp at this ⊢; omega
theorem qbe4 (ps : List (List UInt8)) (hps : ps.length ≤ 9223372036854775807) (hl : ∀ l, l ∈ ps → l.length ≤ 9223372036854775807) :
    qk5 (ps.map AV.str) ((ps.map AV.str).length : Int) (fun _ => some true) FU 0 = some (qqx true ps) := by
  have hlen : (ps.map AV.str).length = ps.length := by simp
  rw [qvb, hlen]
  have key := qco (σ := Unit) ps hps (fun n i _ => qfg (ps.map AV.str) (ps.length : Int) (fun _ => some true) n i) (fun i _ nx => qff (ps.map AV.str) (ps.length : Int) i (fun j => nx j ()) (fun _ => some true)) (fun _ _ _ => rfl)
    (fun _ _ => True) (fun r _ => some (qqx (decide (r.length = ps.length)) r)) ?_ ?_ () FU trivial (qd7 (by omega))
  · simpa using key
  · intro s nx _
    simp [qff, qqx]
  · intro i l r s nx h1 h2 h3 h4 _ h5
    have h6 : (i : Int) < (ps.length : Int) := by omega
    have hg : (ps.map AV.str)[i]? = some (.str l) := by simp [h2]
    have hr : r.length = ps.length - (i + 1) := by
      have := congrArg List.length h1
      simp at this
      omega
    unfold qff
    simp only [h6, decide_true, cond_t, ixB_nat, hg, oB_s]
    rw [show fitC [.s] (AV.str l).cells = true from rfl, show gS (AV.str l).cells 0 = l from rfl]
    simp only [cond_t, qva, qgx, q8r l (hl l (List.mem_of_getElem? h2)), oB_s, h4, h5 () trivial, qqx]
    have e1 : decide (r.length = ps.length) = false := decide_eq_false (by omega)
    have e2 : decide ((l :: r).length = ps.length) = decide (i = 0) := decide_eq_decide.2 (by simp; omega)
    rw [e1, e2]
    by_cases hi : i = 0
    · subst hi
      cases ordB l <;> cases (l == [42]) <;> rfl
    · have a1 : decide ((i : Int) > 0) = true := decide_eq_true (by omega)
      have a2 : decide (i = 0) = false := decide_eq_false hi
      rw [a1, a2]
      cases ordB l <;> rfl
theorem qbb2 (x : List UInt8) (hx : x.length ≤ 9223372036854775807) : qgs x = some (valB x) := by
  rw [q1k]; unfold qj1 valB
  by_cases h1 : x = [46]
  · subst h1; rfl
  · have e1 : (x == [46]) = false := by simpa using h1
    rw [e1]
    simp only [cond_f, qu8, qgw, q68 x _ hx, oB_s, Bool.false_or]
    by_cases h2 : x.length < 255
    · have e2 : ¬ (x.length : Int) ≥ 255 := by omega
      simp only [e2, decide_false, cond_f, h2, decide_true, Bool.true_and]
      cases h3 : sufB x [46] with
      | false => rfl
      | true =>
        have h4 : 1 ≤ x.length := by
          simp [sufB] at h3
          exact h3.1
        have w : IntKind.i64.wrap ((x.length : Int) - 1) = ((x.length - 1 : Nat) : Int) := by rw [w64 (by omega) (by omega)]; omega
        have hc : cutI x none (some ((x.length - 1 : Nat) : Int)) = some (x.take (x.length - 1)) := by
          unfold cutI
          simp only [Option.getD_none, Option.getD_some]
          rw [if_pos ⟨by omega, by omega, by omega⟩, Int.toNat_natCast]
          rfl
        have hpl := qng (x.take (x.length - 1)) []
        have hcl : (x.take (x.length - 1)).count 46 ≤ (x.take (x.length - 1)).length := List.count_le_length
        have htl : (x.take (x.length - 1)).length ≤ 254 := by simp; omega
        simp only [Bool.not_true, cond_f, w, hc, oB_s, qbdy _ (by omega : (x.take (x.length - 1)).length ≤ 1000000000)]
        rw [qbe4 _ (by omega) (fun l hl => by have := qzk _ _ l hl; simp only [List.length_nil] at this; omega)]
        simp
    · have e2 : (x.length : Int) ≥ 255 := by omega
      simp [e2, h2]
theorem qwu : ∀ (y cur : List UInt8), spl cur (y ++ [46]) = qck cur y
  | [], cur => by simp [spl, qck]
  | c :: r, cur => by
    simp only [List.cons_append, spl, qck]
    split
    · rw [qwu r]
    · rw [qwu r]
theorem q7u : ∀ (ls : List (List UInt8)) (f : Bool), qqx f ls = qsi f ls
  | [], f => rfl
  | l :: ls, f => by
    unfold qqx qsi
    rw [q7u ls false]
    by_cases h : l = [42]
    · subst h
      rw [show ordB [42] = false from by decide, show q4i [42] = true from by decide]
      cases f <;> rfl
    · have e : (l == [42]) = false := by simpa using h
      rw [e]
      rw [show q4i l = ordB l by simp [q4i, ordB, e]]
      cases ordB l <;> cases f <;> rfl
theorem qbe5 (x : List UInt8) : valB x = qpp x := by
  unfold valB qpp q1d
  by_cases h1 : x = [46]
  · subst h1; rfl
  · have e1 : (x == [46]) = false := by simpa using h1
    rw [e1, if_neg h1, Bool.false_or]
    rcases List.eq_nil_or_concat x with rfl | ⟨y, c, rfl⟩
    · rfl
    · rw [List.concat_eq_append] at *
      have hl : (y ++ [c]).length - 1 = y.length := by simp
      have hs : sufB (y ++ [c]) [46] = (c == 46) := by
        unfold sufB
        have : (y ++ [c]).length - ([46] : List UInt8).length = y.length := by simp
        rw [this]
        simp
      have he : q1c (y ++ [c]) = (decide (1 ≤ y.length) && decide ((y ++ [c]).length < 255) && (c == 46)) := by
        unfold q1c
        have a1 : decide (2 ≤ (y ++ [c]).length) = decide (1 ≤ y.length) := decide_eq_decide.2 (by simp)
        have a2 : decide ((y ++ [c]).length ≤ 254) = decide ((y ++ [c]).length < 255) := decide_eq_decide.2 (by omega)
        rw [a1, a2]
        simp
      rw [hl, hs, he, List.take_left]
      by_cases hc : c = 46
      · subst hc
        rw [qwu, q7u]
        have hy : 1 ≤ y.length := by
          cases y with
          | nil => exact absurd rfl h1
          | cons a r => simp
        rw [decide_eq_true hy]
        cases decide ((y ++ [46]).length < 255) <;> cases qsi true (qck [] y) <;> simp
      · have hb : (c == 46) = false := by simpa using hc
        rw [hb]
        simp
theorem qbah (x : List UInt8) (hx : x.length ≤ 9223372036854775807) : qgs x = some (qpp x) := by rw [qbb2 x hx, qbe5]
def q2d (x : List UInt8) : List (List UInt8) := (q1d x).1
end Go.Proofs.YtmoedhehjonnhaaGreatDoor.Dn
