/- What a law looks at; the next change. -/
import Derived.Test.YtmoedhehjonnhaaGreatDoorRoLw22e
set_option linter.all false
namespace Go.Proofs.YtmoedhehjonnhaaGreatDoor.Dn
open Go Go.Pev
set_option linter.unusedVariables false
set_option linter.unusedSimpArgs false
set_option maxRecDepth 8000
def qte (now : Int) : Int × Bool → List Int → Int × Bool
  | s, [] => s
  | s, t :: r => qte now (bif decide (t > now) && (!s.2 || decide (t < s.1)) then (t, true) else s) r
def Mg.ts (e : Mg) : List Int := [e.p, e.a, e.r, e.m]
def q3n (now : Int) : Int × Bool → List Mg → Int × Bool
  | s, [] => s
  | s, e :: L => q3n now (qte now s e.ts) L
theorem qbb4 (a b c d x : Int) (j : Nat) (h : ([a, b, c, d] : List Int)[j]? = some x) : vixa false 4 1 (.agg [(.int .i64 a), (.int .i64 b), (.int .i64 c), (.int .i64 d)]) (.int .i64 (j : Int)) = some (.int .i64 x) := by
  match j, h with
  | 0, h => simp at h; subst h; rfl
  | 1, h => simp at h; subst h; rfl
  | 2, h => simp at h; subst h; rfl
  | 3, h => simp at h; subst h; rfl
  | n + 4, h => simp at h
theorem qbbk (now b : Int) (f : Bool) (v12 : List AV) (v13 v14 : Int) (e : Mg) (kx : Int → Bool → Option (Int × Bool)) :
    qi9 now v12 v13 v14 e.p e.a e.r e.m kx FU b f 0 = kx (qte now (b, f) e.ts).1 (qte now (b, f) e.ts).2 := by
  rw [qrt]
  exact qde (σ := Int × Bool) e.ts (by simp [Mg.ts]) (fun n i s => qec now v12 v13 v14 e.p e.a e.r e.m kx n s.1 s.2 i) (fun i s nx => qeb now s.1 s.2 v12 v13 v14 e.p e.a e.r e.m i (fun x y j => nx j (x, y)) kx) (fun n i s => rfl)
    (fun _ _ => True) (fun r s => kx (qte now s r).1 (qte now s r).2) (fun s nx _ => by
      unfold qeb
      have : ((e.ts.length : Nat) : Int) = 4 := rfl
      rw [this, decide_eq_false (by decide), cond_f]
      rfl)
    (fun i t r s nx h1 h2 h3 h4 _ hnx => by
      have h3' : i < 4 := h3
      unfold qeb
      rw [decide_eq_true (show (i : Int) < 4 by omega), cond_t, qbb4 _ _ _ _ t i h2]
      show (bif fitV (.one (.i .i64)) (.int .i64 t) then _ else none) = _
      have e1 : fitV (.one (.i .i64)) (.int .i64 t) = true := rfl
      have e2 : aI (.int .i64 t) = t := rfl
      rw [e1, cond_t, e2, qrs]
      unfold qfn
      rw [h4]
      unfold qte
      obtain ⟨b, f⟩ := s
      dsimp only
      have hn := fun s' => hnx s' trivial
      generalize ((i + 1 : Nat) : Int) = q at hn ⊢
      cases decide (t > now) <;> cases f <;> cases decide (t < b) <;> simp [hn]) (b, f) FU trivial (qek (by simp [Mg.ts]))
theorem qbei (L : List Mg) (now : Int) (hL : L.length ≤ 1000000) : qhp (mgL L) now = some (q3n now (0, false) L) := by
  rw [qxw]
  unfold qh0
  rw [qtv, qi4]
  exact qde (σ := Int × Bool) L (by omega) (fun n i s => qew now (mgL L) (L.length : Int) (fun v6q1 v7q2 => (some (v6q1, v7q2))) n s.1 s.2 i) (fun i s nx => qev now s.1 s.2 (mgL L) (L.length : Int) i (fun x y j => nx j (x, y)) (fun v6q1 v7q2 => (some (v6q1, v7q2)))) (fun n i s => rfl)
    (fun _ _ => True) (fun r s => some (q3n now s r)) (fun s nx _ => by
      unfold qev
      rw [decide_eq_false (show ¬ (L.length : Int) < (L.length : Int) by omega), cond_f]
      rfl)
    (fun i e r s nx h1 h2 h3 h4 _ hnx => by
      have hg : (mgL L)[i]? = some e.av := by rw [qi5, h2]; rfl
      unfold qev
      rw [decide_eq_true (show (i : Int) < (L.length : Int) by omega), cond_t, ixB_nat, hg, oB_s, qlj, cond_t]
      have ht : qel (gS e.av.cells 0) (gB e.av.cells 1) (gI e.av.cells 2) (gI e.av.cells 3) (gI e.av.cells 4) (gI e.av.cells 5) (gI e.av.cells 6) = some (.agg [.int .i64 e.p, .int .i64 e.a, .int .i64 e.r, .int .i64 e.m]) := q1h e
      rw [ht, oB_s]
      refine (qbbk now s.1 s.2 _ _ _ e _).trans ?_
      rw [h4]
      exact hnx _ trivial) (0, false) FU trivial (qek (by omega))
end Go.Proofs.YtmoedhehjonnhaaGreatDoor.Dn
