/- The replacement of a key. -/
import Derived.Test.YtmoedhehjonnhaaGreatDoorRoLw22g
set_option linter.all false
namespace Go.Proofs.YtmoedhehjonnhaaGreatDoor.Dn
open Go Go.Pev
set_option linter.unusedVariables false
set_option linter.unusedSimpArgs false
set_option maxRecDepth 8000
def qho (k : Bool) (now wait : Int) (e : Mg) : Option Mg :=
  bif e.k == k then (bif decide (e.a > now + wait) then none else some (bif decide (e.r > now + wait) then { e with r := now + wait, m := now + 2 * wait } else e)) else some e
def qch (k : Bool) (now wait : Int) (L : List Mg) : List Mg := L.filterMap (qho k now wait)
def actN (k : Bool) (now wait : Int) : Int := bif !k then now + wait else now
def newK (z : List UInt8) (k : Bool) (s now wait life : Int) : Mg := ⟨z, k, s, now, actN k now wait, actN k now wait + life, actN k now wait + life + wait⟩
def badN (now wait life : Int) : Bool := (((((decide (now < 0)) || (decide (now > (4294967295 : Int)))) || (decide (wait < 0))) || (decide (wait > (4294967295 : Int)))) || (decide (life < 1))) || (decide (life > (4294967295 : Int)))
def qmk (L : List Mg) (z : List UInt8) (k : Bool) (s now wait life : Int) : List Mg × Int :=
  bif chk L != 0 then ([], chk L) else bif badN now wait life then ([], 20) else
  bif decide ((newK z k s now wait life).m > 4294967295) || decide (now + 2 * wait > 4294967295) then ([], 20) else
  bif chk (qch k now wait L ++ [newK z k s now wait life]) != 0 then ([], chk (qch k now wait L ++ [newK z k s now wait life])) else (qch k now wait L ++ [newK z k s now wait life], 0)
theorem qv2 (k : Bool) (now wait : Int) (L : List Mg) : (qch k now wait L).length ≤ L.length := List.length_filterMap_le _ _
theorem qbdb {k : Bool} {now wait : Int} {e e' : Mg} (h : qho k now wait e = some e') : e'.z = e.z := by
  unfold qho at h
  cases h1 : e.k == k <;> rw [h1] at h
  · simp at h; rw [h]
  · cases h2 : decide (e.a > now + wait) <;> rw [h2] at h
    · cases h3 : decide (e.r > now + wait) <;> rw [h3] at h <;> (simp at h; subst h; rfl)
    · simp at h
theorem qxu {k : Bool} {now wait : Int} {L : List Mg} (h : qjk L) : qjk (qch k now wait L) := by
  intro e he
  unfold qch at he
  obtain ⟨x, h1, h2⟩ := List.mem_filterMap.1 he
  rw [qbdb h2]
  exact h x h1
theorem qbe8 (L : List Mg) (i : Int) (now wait : Int) (h0 : 0 ≤ now) (h1 : now ≤ 4294967295) (h2 : 0 ≤ wait) (h3 : wait ≤ 4294967295) (z : List UInt8) (k : Bool) (s : Int) (z1 : List UInt8) (k1 : Bool) (s1 p1 a1 r1 m1 : Int) (a2 : List AV) (e : Mg) (kn : Int → Int → Option (List AV × Int)) (kx : Unit → Option (List AV × Int)) :
    qjc now wait (mgL L) (L.length : Int) i z k s z1 k1 s1 p1 a1 r1 m1 a2 e.z e.k e.s e.p e.a e.r e.m kn kx = match qho k now wait e with
      | none => kx ()
      | some e' => kn e'.r e'.m := by
  rw [qr9]
  unfold qfr qho
  rw [w64 (show -9223372036854775808 ≤ now + wait by omega) (by omega), w64 (show -9223372036854775808 ≤ (2 : Int) * wait by omega) (by omega), w64 (show -9223372036854775808 ≤ now + 2 * wait by omega) (by omega), Bool.and_true]
  cases e.k == k with
  | false => rfl
  | true =>
    simp only [cond_t]
    cases decide (e.a > now + wait) with
    | true => rfl
    | false =>
      simp only [cond_f]
      cases decide (e.r > now + wait) <;> rfl
theorem qbe9 (l : List AV) (now wait life : Int) (h0 : 0 ≤ now) (h1 : now ≤ 4294967295) (h2 : 0 ≤ wait) (h3 : wait ≤ 4294967295) (z : List UInt8) (k : Bool) (s : Int) (z1 : List UInt8) (k1 : Bool) (s1 p1 r1 m1 : Int) (kn : Int → Option (List AV × Int)) :
    qjb l now wait life z k s z1 k1 s1 p1 now r1 m1 kn = kn (actN k now wait) := by
  rw [qr7]
  unfold qfq
  rw [w64 (show -9223372036854775808 ≤ now + wait by omega) (by omega)]
  cases k <;> rfl
theorem qbdc (L : List Mg) (hL : L.length ≤ 1000000) (now wait : Int) (h0 : 0 ≤ now) (h1 : now ≤ 4294967295) (h2 : 0 ≤ wait) (h3 : wait ≤ 4294967295) (z : List UInt8) (k : Bool) (s : Int) (z1 : List UInt8) (k1 : Bool) (s1 p1 a1 r1 m1 : Int) (kx : List AV → Option (List AV × Int)) :
    qjd now wait (mgL L) (L.length : Int) z k s z1 k1 s1 p1 a1 r1 m1 kx FU 0 [] = kx (mgL (qch k now wait L)) := by
  rw [qsa]
  have key := qde (σ := List AV) L (by omega) (fun n i q => qef now wait (mgL L) (L.length : Int) z k s z1 k1 s1 p1 a1 r1 m1 kx n i q) (fun i q nx => qee now wait (mgL L) (L.length : Int) i z k s z1 k1 s1 p1 a1 r1 m1 q nx kx) (fun n i q => rfl)
    (fun i q => q.length ≤ i) (fun r q => kx (q ++ mgL (qch k now wait r))) (fun q nx hJ => by
      unfold qee
      rw [decide_eq_false (show ¬ (L.length : Int) < (L.length : Int) by omega), cond_f]
      simp [mgL, qch])
    (fun i e r q nx h4 h5 h6 h7 hJ hnx => by
      have hg : (mgL L)[i]? = some e.av := by rw [qi5, h5]; rfl
      unfold qee
      rw [decide_eq_true (show (i : Int) < (L.length : Int) by omega), cond_t, ixB_nat, hg, oB_s, qlj, cond_t, hd_self, Bool.and_self, cond_t]
      refine (qbe8 L (i : Int) now wait h0 h1 h2 h3 z k s z1 k1 s1 p1 a1 r1 m1 q e _ _).trans ?_
      have hr : qch k now wait (e :: r) = (match qho k now wait e with
        | none => qch k now wait r
        | some e' => e' :: qch k now wait r) := by
        unfold qch
        rw [List.filterMap_cons]
        cases qho k now wait e <;> rfl
      rw [hr, h7]
      cases ht : qho k now wait e with
      | none =>
        dsimp only
        exact hnx q (by omega)
      | some e' =>
        dsimp only
        have he : (AV.agg [(.str (gS e.av.cells 0)), (.bool (gB e.av.cells 1)), (.int .i64 (gI e.av.cells 2)), (.int .i64 (gI e.av.cells 3)), (.int .i64 (gI e.av.cells 4)), (.int .i64 e'.r), (.int .i64 e'.m)]) = e'.av := by
          unfold qho at ht
          cases h8 : e.k == k <;> rw [h8] at ht
          · simp at ht; subst ht; rfl
          · cases h9 : decide (e.a > now + wait) <;> rw [h9] at ht
            · cases h10 : decide (e.r > now + wait) <;> rw [h10] at ht <;> (simp at ht; subst ht; rfl)
            · simp at ht
        have h1l : hd [e'.av] ([e'.av] : List AV).length = true := rfl
        rw [he]
        simp only [hd_self, cond_t]
        rw [decide_eq_true (show (q.length + ([e'.av] : List AV).length) * 64 ≤ 140737488355328 by rw [List.length_singleton]; omega), cond_t]
        refine (hnx (q ++ [e'.av]) (by simp; omega)).trans ?_
        simp [mgL]) [] FU (by simp) (qek (by omega))
  simpa using key
theorem q9z (L : List Mg) (hL : L.length ≤ 1000) (hz : qjk L) (z : List UInt8) (hzz : z.length ≤ 1000000) (k : Bool) (s now wait life : Int) :
    qe2 (mgL L) z k s now wait life = some (mgL (qmk L z k s now wait life).1, (qmk L z k s now wait life).2) := by
  rw [qyc]
  unfold qh6 qmk
  rw [qrq L (by omega) hz, oB_s]
  cases h1 : chk L != 0 with
  | true => rfl
  | false =>
    simp only [cond_f]
    have hb : ((((((decide (now < 0)) || (decide (now > (4294967295 : Int)))) || (decide (wait < 0))) || (decide (wait > (4294967295 : Int)))) || (decide (life < 1))) || (decide (life > (4294967295 : Int)))) = badN now wait life := rfl
    rw [hb]
    cases h2 : badN now wait life with
    | true => rfl
    | false =>
      simp only [cond_f]
      unfold badN at h2
      simp only [Bool.or_eq_false_iff, decide_eq_false_iff_not] at h2
      obtain ⟨⟨⟨⟨⟨n0, n1⟩, w0⟩, w1⟩, l0⟩, l1⟩ := h2
      rw [qbe9 (mgL L) now wait life (by omega) (by omega) (by omega) (by omega)]
      have ha : now ≤ actN k now wait ∧ actN k now wait ≤ now + wait := by
        unfold actN
        cases k <;> simp <;> omega
      generalize hact : actN k now wait = act at ha ⊢
      rw [w64 (show -9223372036854775808 ≤ act + life by omega) (by omega), w64 (show -9223372036854775808 ≤ act + life + wait by omega) (by omega), w64 (show -9223372036854775808 ≤ (2 : Int) * wait by omega) (by omega), w64 (show -9223372036854775808 ≤ now + 2 * wait by omega) (by omega)]
      have hn : newK z k s now wait life = ⟨z, k, s, now, act, act + life, act + life + wait⟩ := by
        unfold newK; rw [hact]
      rw [hn]
      cases h3 : (decide (act + life + wait > 4294967295) || decide (now + 2 * wait > 4294967295)) with
      | true => rfl
      | false =>
        simp only [cond_f]
        have hav : (AV.agg [(.str z), (.bool k), (.int .i64 s), (.int .i64 now), (.int .i64 act), (.int .i64 (act + life)), (.int .i64 (act + life + wait))]) = Mg.av ⟨z, k, s, now, act, act + life, act + life + wait⟩ := rfl
        rw [hav]
        have hnil : (hd [] ([] : List AV).length && true) = true := rfl
        rw [hnil, cond_t]
        have hR := qbdc L (by omega) now wait (by omega) (by omega) (by omega) (by omega) z k s z k s now act (act + life) (act + life + wait)
        rw [qi4]
        refine (hR _).trans ?_
        have hlen := qv2 k now wait L
        have h1l : hd [Mg.av ⟨z, k, s, now, act, act + life, act + life + wait⟩] ([Mg.av ⟨z, k, s, now, act, act + life, act + life + wait⟩] : List AV).length = true := rfl
        simp only [hd_self, cond_t]
        rw [decide_eq_true (show ((mgL (qch k now wait L)).length + ([Mg.av ⟨z, k, s, now, act, act + life, act + life + wait⟩] : List AV).length) * 64 ≤ 140737488355328 by rw [qi4, List.length_singleton]; omega), cond_t]
        have hap : mgL (qch k now wait L) ++ [Mg.av ⟨z, k, s, now, act, act + life, act + life + wait⟩] = mgL (qch k now wait L ++ [⟨z, k, s, now, act, act + life, act + life + wait⟩]) := by simp [mgL]
        have hsh : qjk (qch k now wait L ++ [⟨z, k, s, now, act, act + life, act + life + wait⟩]) := fun e he => by
          rcases List.mem_append.1 he with h | h
          · exact qxu hz e h
          · rw [List.mem_singleton] at h; subst h; exact hzz
        rw [hap]
        try simp only [hd_self, cond_t]
        rw [qrq _ (by simp; omega) hsh, oB_s]
        cases h5 : chk (qch k now wait L ++ [⟨z, k, s, now, act, act + life, act + life + wait⟩]) != 0 with
        | true => rfl
        | false => rfl
end Go.Proofs.YtmoedhehjonnhaaGreatDoor.Dn
