/- Whether a list is a plan. -/
import Derived.Test.YtmoedhehjonnhaaGreatDoorRoLw22c
set_option linter.all false
namespace Go.Proofs.YtmoedhehjonnhaaGreatDoor.Dn
open Go Go.Pev
set_option linter.unusedVariables false
set_option linter.unusedSimpArgs false
set_option maxRecDepth 8000
structure Mg where
  z : List UInt8
  k : Bool
  s : Int
  p : Int
  a : Int
  r : Int
  m : Int
def Mg.av (e : Mg) : AV := .agg [.str e.z, .bool e.k, .int .i64 e.s, .int .i64 e.p, .int .i64 e.a, .int .i64 e.r, .int .i64 e.m]
def mgL (L : List Mg) : List AV := L.map Mg.av
def inL (L : List Int) : List AV := L.map (AV.int .i64)
theorem qi4 (L : List Mg) : (mgL L).length = L.length := by simp [mgL]
theorem qrp (L : List Int) : (inL L).length = L.length := by simp [inL]
theorem qi5 (L : List Mg) (i : Nat) : (mgL L)[i]? = (L[i]?).map Mg.av := by simp [mgL]
theorem q5j (L : List Int) : (inL L).map (fun y => gI y.cells 0) = L := by
  unfold inL
  rw [List.map_map]
  exact (List.map_congr_left (fun z _ => rfl)).trans (List.map_id _)
theorem qlj (e : Mg) : fitC qc e.av.cells = true := rfl
def tagM (e : Mg) : Int := tagK e.z e.k e.s
def badT (e : Mg) : Bool := decide (e.p < 0) || decide (e.p > e.a) || decide (e.a > e.r) || decide (e.r > e.m) || decide (e.m > 4294967295)
def chkS (z0 : List UInt8) : List Int → List Mg → Int
  | _, [] => 0
  | tags, e :: L => bif errD e.z e.s != 0 || !(e.z == z0) then 18 else bif tags.contains (tagM e) then 18 else bif badT e then 20 else chkS z0 (tags ++ [tagM e]) L
def qwi (L : List Mg) : List UInt8 := (L.head?.map Mg.z).getD []
def chk (L : List Mg) : Int := bif decide ((L.length : Int) > 16) then 9 else chkS (qwi L) [] L
def qjk (L : List Mg) : Prop := ∀ e, e ∈ L → e.z.length ≤ 1000000
theorem qbef (a b : Int) : qod a b = some (decide (a < b)) := by
  rw [qy6]
  unfold qiu
  have h : qjs a = some false := by
    rw [qyb]
    unfold qh5
    simp
  rw [h]
  rfl
theorem q9w (p a r m : Int) : qd7 [.int .i64 p, .int .i64 a, .int .i64 r, .int .i64 m] = some (!decide (m < r) && (!decide (r < a) && !decide (a < p))) := by
  rw [qm3]
  unfold qdk
  rw [qlm]
  obtain ⟨q, hq⟩ : ∃ q, FU = q + 1 + 1 + 1 + 1 := ⟨FU - 4, by rw [qwb]⟩
  rw [hq]
  have st : ∀ (n j : Nat) (x y : Int), j < 3 → ([AV.int .i64 p, .int .i64 a, .int .i64 r, .int .i64 m] : List AV)[j + 1]? = some (.int .i64 y) → ([AV.int .i64 p, .int .i64 a, .int .i64 r, .int .i64 m] : List AV)[j]? = some (.int .i64 x) →
      qz [.int .i64 p, .int .i64 a, .int .i64 r, .int .i64 m] (fun (_ : Unit) => (some true)) (n + 1) ((j + 1 : Nat) : Int) = bif decide (y < x) then some false else qz [.int .i64 p, .int .i64 a, .int .i64 r, .int .i64 m] (fun (_ : Unit) => (some true)) n (j : Int) := by
    intro n j x y hj h1 h2
    rw [qz]
    unfold qen
    dsimp only
    have e1 : IntKind.i64.wrap (((j + 1 : Nat) : Int) - 1) = (j : Int) := by rw [w64 (by omega) (by omega)]; omega
    rw [decide_eq_true (show ((j + 1 : Nat) : Int) > 0 by omega), cond_t, ixB_nat, h1, oB_s, e1, ixB_nat, h2]
    have e2 : gI (AV.int .i64 y).cells 0 = y := rfl
    have e3 : gI (AV.int .i64 x).cells 0 = x := rfl
    have e4 : fitC [(.i .i64)] (AV.int .i64 y).cells = true := rfl
    have e5 : fitC [(.i .i64)] (AV.int .i64 x).cells = true := rfl
    rw [e4, cond_t, oB_s, e5, cond_t, e2, e3, qbef, oB_s]
  have e0 : IntKind.i64.wrap ((([AV.int .i64 p, .int .i64 a, .int .i64 r, .int .i64 m] : List AV).length : Int) - 1) = ((2 + 1 : Nat) : Int) := rfl
  rw [e0, st _ 2 r m (by omega) rfl rfl, show ((2 : Nat) : Int) = ((1 + 1 : Nat) : Int) from rfl, st _ 1 a r (by omega) rfl rfl, show ((1 : Nat) : Int) = ((0 + 1 : Nat) : Int) from rfl, st _ 0 p a (by omega) rfl rfl]
  have e9 : qz [.int .i64 p, .int .i64 a, .int .i64 r, .int .i64 m] (fun (_ : Unit) => (some true)) (q + 1) ((0 : Nat) : Int) = some true := rfl
  rw [e9]
  cases decide (m < r) <;> cases decide (r < a) <;> cases decide (a < p) <;> rfl
theorem qbeg (L : List Int) (x : Int) (hL : L.length ≤ 1000000000) : ∃ i, qg8 (inL L) x = some i ∧ decide (i ≥ 0) = L.contains x := by
  rw [qo7]
  unfold qer
  rw [qm1, qrp]
  have key := q5e (σ := Int) (fun n s => qcc (inL L) x (L.length : Int) (fun (_ : Unit) => (some (-1 : Int))) n s) (fun s nx => qdi (inL L) x (L.length : Int) s nx (fun (_ : Unit) => (some (-1 : Int)))) (fun n s => rfl)
    (fun s => 0 ≤ s ∧ s ≤ L.length) (fun s => (L.length - s).toNat) (fun s res => ∃ i, res = some i ∧ decide (i ≥ 0) = (L.drop s.toNat).contains x) (fun s hI nx hnx => by
      obtain ⟨j, rfl⟩ : ∃ j : Nat, s = j := ⟨s.toNat, by omega⟩
      unfold qdi
      by_cases hj : j < L.length
      · have hg : (inL L)[j]? = some (.int .i64 L[j]) := by simp [inL, hj]
        have hd : L.drop j = L[j] :: L.drop (j + 1) := List.drop_eq_getElem_cons hj
        rw [decide_eq_true (show (j : Int) < (L.length : Int) by omega), cond_t, ixB_nat, hg, oB_s, Int.toNat_natCast, hd]
        have e1 : fitC [(.i .i64)] (AV.int .i64 L[j]).cells = true := rfl
        have e2 : gI (AV.int .i64 L[j]).cells 0 = L[j] := rfl
        rw [e1, cond_t, e2, w64 (by omega) (by omega)]
        by_cases hx : x = L[j]
        · subst hx
          exact ⟨j, by simp, by rw [List.contains_cons, beq_self_eq_true, Bool.true_or]; simp⟩
        · have h3 : (x == L[j]) = false := by simpa using hx
          rw [h3, cond_f]
          obtain ⟨i, h4, h5⟩ := hnx ((j : Int) + 1) ⟨by omega, by omega⟩ (by omega)
          refine ⟨i, h4, h5.trans ?_⟩
          rw [show ((j : Int) + 1).toNat = j + 1 by omega]
          rw [List.contains_cons, h3, Bool.false_or]
      · rw [decide_eq_false (show ¬ (j : Int) < (L.length : Int) by omega), cond_f]
        refine ⟨-1, rfl, ?_⟩
        rw [Int.toNat_natCast, List.drop_eq_nil_of_le (by omega)]
        rfl) FU 0 ⟨by omega, by omega⟩ (qek (by omega))
  simpa using key
theorem q72 (L : List Int) (x : Int) (hL : L.length ≤ 1000000000) : qfy (inL L) x = some (L.contains x) := by
  rw [qm2]
  unfold qdj
  obtain ⟨i, h1, h2⟩ := qbeg L x hL
  rw [h1, oB_s, h2]
theorem q1h (e : Mg) : qel e.z e.k e.s e.p e.a e.r e.m = some (.agg [.int .i64 e.p, .int .i64 e.a, .int .i64 e.r, .int .i64 e.m]) := by
  rw [qwk]; rfl
theorem qbeh (e : Mg) : (decide (e.p < 0) || (!(!decide (e.m < e.r) && (!decide (e.r < e.a) && !decide (e.a < e.p))) || decide (e.m > 4294967295))) = badT e := by
  unfold badT
  rw [Bool.eq_iff_iff]
  simp only [Bool.or_eq_true, Bool.not_eq_true', Bool.and_eq_false_iff, decide_eq_true_eq, Bool.not_eq_false', gt_iff_lt]
  omega
theorem qbbj (z : List UInt8) (k : Bool) (s : Int) : (datF z k s).2 = errD z s := by
  unfold datF
  cases h : errD z s == 0 with
  | true => rw [beq_iff_eq] at h; rw [h]; rfl
  | false => rfl
theorem qrq (L : List Mg) (hL : L.length ≤ 1000000) (hz : qjk L) : qco (mgL L) = some (chk L) := by
  rw [qw8]
  unfold qg9 chk
  rw [qi4]
  by_cases h16 : ((L.length : Int) > 16)
  · rw [decide_eq_true h16, cond_t, cond_t]
  rw [decide_eq_false h16, cond_f, cond_f, hd_self, Bool.and_self, cond_t, qq0]
  have key := qde (σ := List AV) L (by omega) (fun n i s => qdx (mgL L) (mgL L) (L.length : Int) (fun (_ : Unit) => (some 0)) n i s) (fun i s nx => qdw (mgL L) (mgL L) (L.length : Int) i s nx (fun (_ : Unit) => (some 0))) (fun n i s => rfl)
    (fun i s => ∃ tags : List Int, s = inL tags ∧ tags.length = i) (fun r s => some (chkS (qwi L) (s.map fun y => gI y.cells 0) r)) (fun s nx hJ => by
      unfold qdw
      rw [decide_eq_false (by omega), cond_f]; rfl)
    (fun i e r s nx h1 h2 h3 h4 ⟨tags, hs, ht⟩ hnx => by
      subst hs
      have e0 := q5j tags
      have hg : (mgL L)[i]? = some e.av := by rw [qi5, h2]; rfl
      have hze : e.z.length ≤ 1000000 := hz e (List.mem_of_getElem? h2)
      obtain ⟨e00, hL0⟩ : ∃ e00, L[0]? = some e00 := ⟨L[0]'(by omega), by simp⟩
      have hg0 : (mgL L)[0]? = some e00.av := by rw [qi5, hL0]; rfl
      have hz0 : qwi L = e00.z := by
        unfold qwi
        rw [List.head?_eq_getElem?, hL0]; rfl
      unfold qdw
      rw [decide_eq_true (show (i : Int) < (L.length : Int) by omega), cond_t, ixB_nat, hg, oB_s, qlj, cond_t]
      have hD := qbeb e.z e.k e.s hze
      have x1 : gS e.av.cells 0 = e.z := rfl
      have x2 : gB e.av.cells 1 = e.k := rfl
      have x3 : gI e.av.cells 2 = e.s := rfl
      have x4 : gI e.av.cells 3 = e.p := rfl
      have x5 : gI e.av.cells 4 = e.a := rfl
      have x6 : gI e.av.cells 5 = e.r := rfl
      have x7 : gI e.av.cells 6 = e.m := rfl
      rw [x1, x2, x3, x4, x5, x6, x7, hD, oB_s, hd_self, Bool.and_self, cond_t, qqz]
      unfold qe8
      rw [e0, qbbj, ixB_zero, hg0, oB_s, qlj, cond_t]
      have y1 : gS e00.av.cells 0 = e00.z := rfl
      rw [y1]
      unfold chkS
      rw [hz0]
      cases h9 : errD e.z e.s != 0 with
      | true => simp
      | false =>
        have h10 : errD e.z e.s = 0 := by simpa using h9
        simp only [cond_f, Bool.false_or]
        cases h11 : !(e.z == e00.z) with
        | true => rfl
        | false =>
          simp only [cond_f]
          have hdat : (datF e.z e.k e.s).1 = kDat (qcn e.k) (keyT e.z e.k e.s) := by
            unfold datF
            rw [h10]; rfl
          rw [hdat]
          have hT := qbee e.k (keyT e.z e.k e.s) (qbc6 _ _)
          have hT2 : qnk (gB (kDat (qcn e.k) (keyT e.z e.k e.s)).cells 0) (gI (kDat (qcn e.k) (keyT e.z e.k e.s)).cells 1) (gI (kDat (qcn e.k) (keyT e.z e.k e.s)).cells 2) (gS (kDat (qcn e.k) (keyT e.z e.k e.s)).cells 3) (gS (kDat (qcn e.k) (keyT e.z e.k e.s)).cells 4) (gS (kDat (qcn e.k) (keyT e.z e.k e.s)).cells 5) (gI (kDat (qcn e.k) (keyT e.z e.k e.s)).cells 6) (gI (kDat (qcn e.k) (keyT e.z e.k e.s)).cells 7) (gI (kDat (qcn e.k) (keyT e.z e.k e.s)).cells 8) (gI (kDat (qcn e.k) (keyT e.z e.k e.s)).cells 9) (gI (kDat (qcn e.k) (keyT e.z e.k e.s)).cells 10) (gI (kDat (qcn e.k) (keyT e.z e.k e.s)).cells 11) (gI (kDat (qcn e.k) (keyT e.z e.k e.s)).cells 12) = some (tagM e) := hT
          rw [hT2, oB_s, q72 tags _ (by omega), oB_s]
          cases tags.contains (tagM e) with
          | true => rfl
          | false =>
            have hdl : hd [AV.int .i64 (tagM e)] ([AV.int .i64 (tagM e)] : List AV).length = true := rfl
            simp only [cond_f]
            rw [hdl, cond_t, decide_eq_true (show ((inL tags).length + ([AV.int .i64 (tagM e)] : List AV).length) * 8 ≤ 140737488355328 by rw [qrp, ht, List.length_singleton]; omega), cond_t, q1h, oB_s]
            have hS := q9w e.p e.a e.r e.m
            have hS2 : qd7 [(.int .i64 (gI (AV.agg [.int .i64 e.p, .int .i64 e.a, .int .i64 e.r, .int .i64 e.m]).cells 0)), (.int .i64 (gI (AV.agg [.int .i64 e.p, .int .i64 e.a, .int .i64 e.r, .int .i64 e.m]).cells 1)), (.int .i64 (gI (AV.agg [.int .i64 e.p, .int .i64 e.a, .int .i64 e.r, .int .i64 e.m]).cells 2)), (.int .i64 (gI (AV.agg [.int .i64 e.p, .int .i64 e.a, .int .i64 e.r, .int .i64 e.m]).cells 3))] = some (!decide (e.m < e.r) && (!decide (e.r < e.a) && !decide (e.a < e.p))) := hS
            rw [hS2, oB_s]
            have hb := qbeh e
            have z1 : gI (AV.agg [.int .i64 e.p, .int .i64 e.a, .int .i64 e.r, .int .i64 e.m]).cells 0 = e.p := rfl
            have z2 : gI (AV.agg [.int .i64 e.p, .int .i64 e.a, .int .i64 e.r, .int .i64 e.m]).cells 3 = e.m := rfl
            rw [z1, z2, ← hb]
            cases decide (e.p < 0) with
            | true => rfl
            | false =>
              simp only [cond_f, Bool.false_or]
              cases (!(!decide (e.m < e.r) && (!decide (e.r < e.a) && !decide (e.a < e.p))) || decide (e.m > 4294967295)) with
              | true => rfl
              | false =>
                simp only [cond_f]
                rw [h4]
                have := hnx (inL (tags ++ [tagM e])) ⟨_, rfl, by simp [ht]⟩
                have e0' := q5j (tags ++ [tagM e])
                rw [e0', hz0] at this
                rw [← this]
                simp [inL]) [] FU ⟨[], rfl, rfl⟩ (qek (by omega))
  exact key
end Go.Proofs.YtmoedhehjonnhaaGreatDoor.Dn
