/- Whether a list is a plan: the reference. -/
import Derived.Test.YtmoedhehjonnhaaGreatDoorRsLw22d
set_option linter.all false
namespace Go.Proofs.YtmoedhehjonnhaaGreatDoor.Dn
open Go Go.Pev
set_option linter.unusedVariables false
set_option linter.unusedSimpArgs false
set_option maxRecDepth 8000
theorem qbmh (L : List Mg) (i : Nat) (hi : i < L.length) (hL : L.length ≤ 1000000) (hz : qic L) (hd : ∀ e, e ∈ L.take i → errD e.z e.s = 0) (e : Mg) (hez : e.z.length ≤ 1000000) (he : errD e.z e.s = 0) (kx : Unit → Option Int) :
    qk8 (mgL L) (i : Int) e.z e.k e.s e.p e.a e.r e.m kx FU 0 = bif ((L.take i).map tagM).contains (tagM e) then some 18 else kx () := by
  rw [qxm]
  have hl : (L.take i).length = i := by simp; omega
  refine qlk (L.take i) (by omega) (fun n j => qeg (mgL L) (i : Int) e.z e.k e.s e.p e.a e.r e.m kx n j) (fun j nx => qef (mgL L) (i : Int) j e.z e.k e.s e.p e.a e.r e.m nx kx) (fun n j => rfl)
    (fun r => bif (r.map tagM).contains (tagM e) then some 18 else kx ()) (fun nx => ?_) (fun j a r nx h1 h2 h3 h4 hnx => ?_)
  · unfold qef
    rw [hl, decide_eq_false (show ¬ (i : Int) < (i : Int) by omega), cond_f]
    rfl
  · rw [hl] at h3
    have ha : L[j]? = some a := by rw [List.getElem?_take_of_lt h3] at h2; exact h2
    have hg : (mgL L)[j]? = some a.av := by rw [qet, ha]; rfl
    have hda := hd a (List.mem_of_getElem? h2)
    have hza := hz a (List.mem_of_getElem? ha)
    unfold qef
    rw [decide_eq_true (show (j : Int) < (i : Int) by omega), cond_t, ixB_nat, hg, oB_s, qdx, cond_t]
    have x1 : gS a.av.cells 0 = a.z := rfl
    have x2 : gB a.av.cells 1 = a.k := rfl
    have x3 : gI a.av.cells 2 = a.s := rfl
    rw [x1, x2, x3, qbkp _ _ _ hza hda, oB_s, qbkp _ _ _ hez he, oB_s, h4, hnx]
    rw [List.map_cons, List.contains_cons]
    have e1 : (tagK a.z a.k a.s == tagK e.z e.k e.s) = (tagM e == tagM a) := by
      rw [Bool.eq_iff_iff]
      simp only [beq_iff_eq, tagM]
      exact eq_comm
    rw [e1]
    cases (tagM e == tagM a) <;> rfl
theorem qbmi (L : List Mg) (hL : L.length ≤ 1000000) (hz : qic L) : qqh (mgL L) = some (chk L) := by
  rw [q6m]
  unfold qjn chk
  rw [qcy]
  by_cases h16 : ((L.length : Int) > 16)
  · rw [decide_eq_true h16, cond_t, cond_t]
  rw [decide_eq_false h16, cond_f, cond_f, qxn]
  have key := qbw (σ := Unit) L (by omega) (fun n i _ => qcu (mgL L) (fun (_ : Unit) => (some 0)) n i) (fun i _ nx => qeh (mgL L) i (fun j => nx j ()) (fun (_ : Unit) => (some 0))) (fun n i s => rfl)
    (fun i _ => ∀ e, e ∈ L.take i → errD e.z e.s = 0) (fun r _ => some (chkS (qv2 L) ((L.take (L.length - r.length)).map tagM) r)) (fun s nx hJ => by
      unfold qeh
      rw [qcy, decide_eq_false (show ¬ (L.length : Int) < (L.length : Int) by omega), cond_f]; rfl)
    (fun i e r s nx h1 h2 h3 h4 hd hnx => by
      have hg : (mgL L)[i]? = some e.av := by rw [qet, h2]; rfl
      have hze : e.z.length ≤ 1000000 := hz e (List.mem_of_getElem? h2)
      obtain ⟨e00, hL0⟩ : ∃ e00, L[0]? = some e00 := ⟨L[0]'(by omega), by simp⟩
      have hg0 : (mgL L)[0]? = some e00.av := by rw [qet, hL0]; rfl
      have hz0 : qv2 L = e00.z := by
        unfold qv2
        rw [List.head?_eq_getElem?, hL0]; rfl
      have hrl : L.length - (e :: r).length = i := by
        have := congrArg List.length h1
        rw [List.length_drop] at this
        omega
      have hrl2 : L.length - r.length = i + 1 := by
        have := congrArg List.length h1
        rw [List.length_drop, List.length_cons] at this
        omega
      unfold qeh
      rw [qcy, decide_eq_true (show (i : Int) < (L.length : Int) by omega), cond_t, ixB_nat, hg, oB_s, qdx, cond_t]
      have hD := qbhr e.z e.k e.s hze
      have x1 : gS e.av.cells 0 = e.z := rfl
      have x2 : gB e.av.cells 1 = e.k := rfl
      have x3 : gI e.av.cells 2 = e.s := rfl
      have x4 : gI e.av.cells 3 = e.p := rfl
      have x5 : gI e.av.cells 4 = e.a := rfl
      have x6 : gI e.av.cells 5 = e.r := rfl
      have x7 : gI e.av.cells 6 = e.m := rfl
      rw [x1, x2, x3, x4, x5, x6, x7, hD, oB_s, qxl]
      unfold qgk
      rw [qbf2, ixB_zero, hg0, oB_s, qdx, cond_t]
      have y1 : gS e00.av.cells 0 = e00.z := rfl
      rw [y1, hrl]
      unfold chkS
      rw [hz0]
      cases h9 : errD e.z e.s != 0 with
      | true => simp
      | false =>
        have h10 : errD e.z e.s = 0 := by simpa using h9
        simp only [cond_f, Bool.false_or]
        cases h11 : !(e.z == e00.z) with
        | true => rfl
        | false =>
          simp only [cond_f]
          rw [qbmh L i h3 hL hz hd e hze h10]
          cases ((L.take i).map tagM).contains (tagM e) with
          | true => rfl
          | false =>
            simp only [cond_f]
            have hb : (((((decide (e.p < 0)) || (decide (e.p > e.a))) || (decide (e.a > e.r))) || (decide (e.r > e.m))) || (decide (e.m > (4294967295 : Int)))) = badT e := rfl
            rw [hb]
            cases badT e with
            | true => rfl
            | false =>
              simp only [cond_f]
              have ht : L.take (i + 1) = L.take i ++ [e] := by
                rw [List.take_succ, h2]; rfl
              have := hnx () (fun x hx => by
                rw [ht, List.mem_append, List.mem_singleton] at hx
                rcases hx with hx | rfl
                · exact hd x hx
                · exact h10)
              rw [hrl2, ht, List.map_append, hz0] at this
              rw [h4]
              exact this) () FU (by simp) (qcc (by omega))
  rw [show (qcu (mgL L) (fun (_ : Unit) => (some 0)) FU 0 = _) from key]
  simp
end Go.Proofs.YtmoedhehjonnhaaGreatDoor.Dn
