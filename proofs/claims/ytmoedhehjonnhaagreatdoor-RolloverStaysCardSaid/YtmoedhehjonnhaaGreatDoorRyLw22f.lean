/- What a law looks at; the next change. -/
import Derived.Test.YtmoedhehjonnhaaGreatDoorRyLw22e
set_option linter.all false
namespace Go.Proofs.YtmoedhehjonnhaaGreatDoor.Dn
open Go Go.Pev
set_option linter.unusedVariables false
set_option linter.unusedSimpArgs false
set_option maxRecDepth 8000
def Mg.cut (e : Mg) : Mg := { e with z := e.z.take 300 }
def fewF (L : List Mg) : List Mg := (L.take 20).map Mg.cut
theorem qbd5 (z : List UInt8) : cutI z none (some (if (300 : Int) < (z.length : Int) then (300 : Int) else (z.length : Int))) = some (z.take 300) := by
  unfold cutI
  by_cases h : (300 : Int) < z.length
  · rw [if_pos h]
    simp only [Option.getD_none, Option.getD_some]
    rw [if_pos (by omega)]
    rfl
  · rw [if_neg h]
    simp only [Option.getD_none, Option.getD_some]
    rw [if_pos (by omega)]
    simp only [Int.toNat_natCast, Int.toNat_zero, List.drop_zero]
    rw [List.take_of_length_le (by omega), List.take_of_length_le (by omega)]
theorem qbf1 (L : List Mg) (hL : L.length ≤ 9223372036854775807) : qot (mgL L) = some (mgL (fewF L)) := by
  rw [qzn]
  unfold qi8
  rw [hd_self, Bool.and_self, cond_t, qu4]
  have hl : (L.take 20).length = min 20 L.length := by simp
  have key := qco (σ := List AV) (L.take 20) (by omega) (fun n i s => qd8 (mgL L) (fun a0q1 => (bif hd a0q1 a0q1.length then (some a0q1) else none)) n i s) (fun i s nx => qfe (mgL L) i s nx (fun a0q1 => (bif hd a0q1 a0q1.length then (some a0q1) else none))) (fun n i s => rfl)
    (fun i s => s.length = i) (fun r s => some (s ++ mgL (r.map Mg.cut))) (fun s nx hJ => by
      unfold qfe
      have h0 : (decide (((L.take 20).length : Int) < ((mgL L).length : Int)) && decide (((L.take 20).length : Int) < (20 : Int))) = false := by
        rw [qhg, hl]
        rw [Bool.and_eq_false_iff, decide_eq_false_iff_not, decide_eq_false_iff_not]
        omega
      rw [h0, cond_f]
      dsimp only
      rw [hd_self, cond_t]
      simp [mgL])
    (fun i e r s nx h1 h2 h3 h4 hJ hnx => by
      rw [hl] at h3
      have ha : L[i]? = some e := by rw [List.getElem?_take_of_lt (by omega)] at h2; exact h2
      have hg : (mgL L)[i]? = some e.av := by rw [qia, ha]; rfl
      unfold qfe
      have h0 : (decide ((i : Int) < ((mgL L).length : Int)) && decide ((i : Int) < (20 : Int))) = true := by
        rw [qhg, Bool.and_eq_true, decide_eq_true_eq, decide_eq_true_eq]
        omega
      have hcut : cutI (gS e.av.cells 0) none (some (if (300 : Int) < ((gS e.av.cells 0).length : Int) then (300 : Int) else ((gS e.av.cells 0).length : Int))) = some (e.z.take 300) := qbd5 e.z
      rw [h0, cond_t, ixB_nat, hg, oB_s, qjy, cond_t, hcut, oB_s, hd_self, cond_t]
      have hav : (AV.agg [(.str (e.z.take 300)), (.bool (gB e.av.cells 1)), (.int .i64 (gI e.av.cells 2)), (.int .i64 (gI e.av.cells 3)), (.int .i64 (gI e.av.cells 4)), (.int .i64 (gI e.av.cells 5)), (.int .i64 (gI e.av.cells 6))]) = e.cut.av := rfl
      rw [hav]
      have hd1 : hd [e.cut.av] ([e.cut.av] : List AV).length = true := rfl
      rw [hd1, cond_t, decide_eq_true (show (s.length + ([e.cut.av] : List AV).length) * 64 ≤ 140737488355328 by rw [hJ, List.length_singleton]; omega), cond_t, h4, hnx _ (by simp [hJ])]
      simp [mgL]) [] FU rfl (qd7 (by omega))
  rw [show (qd8 (mgL L) _ FU 0 [] = _) from key]
  simp [fewF]
theorem qbd6 (L : List Mg) : (fewF L).length ≤ 20 := by simp [fewF]; omega
theorem qbf2 (L : List Mg) : ∀ e, e ∈ fewF L → e.z.length ≤ 300 := by
  intro e he
  unfold fewF at he
  obtain ⟨x, _, rfl⟩ := List.mem_map.1 he
  simp [Mg.cut]; omega
theorem qbao (L : List Mg) : qi7 (fewF L) := fun e he => by have := qbf2 L e he; omega
def qol (now : Int) : Int × Bool → List Int → Int × Bool
  | s, [] => s
  | s, t :: r => qol now (bif decide (t > now) && (!s.2 || decide (t < s.1)) then (t, true) else s) r
def Mg.ts (e : Mg) : List Int := [e.p, e.a, e.r, e.m]
def qom (now : Int) : Int × Bool → List Mg → Int × Bool
  | s, [] => s
  | s, e :: L => qom now (qol now s e.ts) L
theorem qbcx (a b c d x : Int) (j : Nat) (h : ([a, b, c, d] : List Int)[j]? = some x) : vixa false 4 1 (.agg [(.int .i64 a), (.int .i64 b), (.int .i64 c), (.int .i64 d)]) (.int .i64 (j : Int)) = some (.int .i64 x) := by
  match j, h with
  | 0, h => simp at h; subst h; rfl
  | 1, h => simp at h; subst h; rfl
  | 2, h => simp at h; subst h; rfl
  | 3, h => simp at h; subst h; rfl
  | n + 4, h => simp at h
theorem qbcd (now b : Int) (f : Bool) (v12 : List AV) (v13 v14 : Int) (e : Mg) (kx : Int → Bool → Option (Int × Bool)) :
    qjn now v12 v13 v14 e.p e.a e.r e.m kx FU b f 0 = kx (qol now (b, f) e.ts).1 (qol now (b, f) e.ts).2 := by
  rw [qsn]
  exact qco (σ := Int × Bool) e.ts (by simp [Mg.ts]) (fun n i s => qej now v12 v13 v14 e.p e.a e.r e.m kx n s.1 s.2 i) (fun i s nx => qei now s.1 s.2 v12 v13 v14 e.p e.a e.r e.m i (fun x y j => nx j (x, y)) kx) (fun n i s => rfl)
    (fun _ _ => True) (fun r s => kx (qol now s r).1 (qol now s r).2) (fun s nx _ => by
      unfold qei
      have : ((e.ts.length : Nat) : Int) = 4 := rfl
      rw [this, decide_eq_false (by decide), cond_f]
      rfl)
    (fun i t r s nx h1 h2 h3 h4 _ hnx => by
      have h3' : i < 4 := h3
      unfold qei
      rw [decide_eq_true (show (i : Int) < 4 by omega), cond_t, qbcx _ _ _ _ t i h2]
      show (bif fitV (.one (.i .i64)) (.int .i64 t) then _ else none) = _
      have e1 : fitV (.one (.i .i64)) (.int .i64 t) = true := rfl
      have e2 : aI (.int .i64 t) = t := rfl
      rw [e1, cond_t, e2, qsm]
      unfold qfy
      rw [h4]
      unfold qol
      obtain ⟨b, f⟩ := s
      dsimp only
      have hn := fun s' => hnx s' trivial
      generalize ((i + 1 : Nat) : Int) = q at hn ⊢
      cases decide (t > now) <;> cases f <;> cases decide (t < b) <;> simp [hn]) (b, f) FU trivial (qd7 (by simp [Mg.ts]))
theorem qbap (L : List Mg) (now : Int) (hL : L.length ≤ 1000000) : qf9 (mgL L) now = some (qom now (0, false) L) := by
  rw [qyp]
  unfold qif
  rw [qum, qhg]
  exact qco (σ := Int × Bool) L (by omega) (fun n i s => qe6 now (mgL L) (L.length : Int) (fun v6q1 v7q2 => (some (v6q1, v7q2))) n s.1 s.2 i) (fun i s nx => qe5 now s.1 s.2 (mgL L) (L.length : Int) i (fun x y j => nx j (x, y)) (fun v6q1 v7q2 => (some (v6q1, v7q2)))) (fun n i s => rfl)
    (fun _ _ => True) (fun r s => some (qom now s r)) (fun s nx _ => by
      unfold qe5
      rw [decide_eq_false (show ¬ (L.length : Int) < (L.length : Int) by omega), cond_f]
      rfl)
    (fun i e r s nx h1 h2 h3 h4 _ hnx => by
      have hg : (mgL L)[i]? = some e.av := by rw [qia, h2]; rfl
      unfold qe5
      rw [decide_eq_true (show (i : Int) < (L.length : Int) by omega), cond_t, ixB_nat, hg, oB_s, qjy, cond_t]
      have ht : qet (gS e.av.cells 0) (gB e.av.cells 1) (gI e.av.cells 2) (gI e.av.cells 3) (gI e.av.cells 4) (gI e.av.cells 5) (gI e.av.cells 6) = some (.agg [.int .i64 e.p, .int .i64 e.a, .int .i64 e.r, .int .i64 e.m]) := q2f e
      rw [ht, oB_s]
      refine (qbcd now s.1 s.2 _ _ _ e _).trans ?_
      rw [h4]
      exact hnx _ trivial) (0, false) FU trivial (qd7 (by omega))
end Go.Proofs.YtmoedhehjonnhaaGreatDoor.Dn
