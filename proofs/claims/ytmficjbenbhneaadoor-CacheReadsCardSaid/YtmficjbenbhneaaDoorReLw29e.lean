/- Caches: the law's own words; caches behind calls. -/
import Derived.Test.YtmficjbenbhneaaDoorReLw29i
import Derived.Test.YtmficjbenbhneaaDoorReLibD
set_option linter.all false
namespace Go.Proofs.YtmficjbenbhneaaDoor.Dn
open Go Go.Pev
set_option linter.unusedVariables false
set_option linter.unusedSimpArgs false
set_option maxRecDepth 8000
theorem qdp {α β : Type} {o : Option α} {a : α} (h : o = some a) {f : α → Option β} {r : Option β} (hf : f a = r) : oB o f = r := by rw [h]; exact hf
theorem qbay (m : Int) (h1 : 1 ≤ m) (h2 : m ≤ 256) : qgg m = some (.agg [.int .i64 m, .nils], 0) := by
  rw [qut]; unfold qit
  have : (decide (m < 1) || decide (m > 256)) = false := by simp; omega
  rw [this]; rfl
theorem qbd8 (m : Int) (h : m < 1 ∨ m > 256) : qgg m = some (.agg [.int .i64 0, .nils], 1) := by
  rw [qut]; unfold qit
  have : (decide (m < 1) || decide (m > 256)) = true := by simpa using h
  rw [this]; rfl
def aD : AV := .agg [.bool false, .int .u64 0, .int .u64 1, .str [], .str [], .str [], .int .i64 0, .int .i64 0, .int .i64 0, .int .i64 0, .int .i64 0, .int .i64 0, .int .u64 0]
def hD : AV := .agg [.bool false, .int .u64 0, .int .u64 0, .str [97, 46], .str [], .str [], .int .i64 0, .int .i64 0, .int .i64 0, .int .i64 0, .int .i64 0, .int .i64 0, .int .u64 0]
theorem qbet (n : List UInt8) (l : Int) : qkd n l = some (.agg [.str n, .int .i64 1, .int .i64 l, .fr true 13 [aD]]) := by rw [qz5]; rfl
theorem q70 : qn3 [aD] := fun y hy => by
  rw [List.mem_singleton.1 hy]
  exact ⟨rfl, by simp [aD, gS, gC, AV.cells, aS], by simp [aD, gS, gC, AV.cells, aS], by simp [aD, gI, gC, AV.cells, aI, uok]⟩
theorem qbcx : qn3 [hD] := fun y hy => by
  rw [List.mem_singleton.1 hy]
  exact ⟨rfl, by simp [hD, gS, gC, AV.cells, aS], by simp [hD, gS, gC, AV.cells, aS], by simp [hD, gI, gC, AV.cells, aI, uok]⟩
def wA : List UInt8 := [97, 46, 101, 120, 97, 109, 112, 108, 101, 46]
def wB : List UInt8 := [98, 46]
def wE : List UInt8 := [101, 120, 97, 109, 112, 108, 101, 46]
def w1 : List En := PutF 2 [] wA 1 60 [aD] 5 0 100
def w2 : List En := qjl 2 w1 wB 0 true 30 5 0 100
def w3 : List En := PutF 2 w2 wE 2 60 [hD] 5 0 100
theorem i1 : Inv 2 w1 := qxi (by omega) (qsa (by omega)) _ _ _ _ _ _ _ q70
theorem i2 : Inv 2 w2 := qz3 (by omega) i1 _ _ _ _ _ _ _
theorem i3 : Inv 2 w3 := qxi (by omega) i2 _ _ _ _ _ _ _ qbcx
theorem qbgd : qeg = some true := by
  have g0 : Good ([] : List En) := (qsa (most := 2) (by omega)).good (by omega)
  have g1 := i1.good (by omega)
  have g2 := i2.good (by omega)
  have g3 := i3.good (by omega)
  rw [qx8]; unfold qgq
  refine qdp (qbay 2 (by omega) (by omega)) ?_
  refine qdp (qbd8 0 (by omega)) ?_
  refine qdp (qbet _ _) ?_
  refine qdp (qxg 2 [] g0 wA 1 60 [aD] 5 0 100 (by decide) (by decide) q70) ?_
  refine qdp (qxh 2 w1 g1 wA 1 140) ?_
  refine qdp (qxh 2 w1 g1 wA 1 160) ?_
  rw [qre]; unfold qec
  rw [qbet, oB_s]
  have hput : qcz 2 (avL w1) wA 1 9 [aD] 3 0 100 = some (qdv 2 (PutF 2 w1 wA 1 9 [aD] 3 0 100)) := qxg 2 w1 g1 wA 1 9 [aD] 3 0 100 (by decide) (by decide) q70
  have fin : (oB (qgp 2 (avL w1) wB 0 true 30 5 0 100) fun r8 => (oB (qd0 (gI r8.cells 0) (gL r8.cells 1) wB 2 100) fun r9 => (bif hd [hD] ([hD].length) then (oB (qcz (gI r8.cells 0) (gL r8.cells 1) wE 2 60 [hD] 5 0 100) fun r10 => (oB (qje (gI r10.cells 0) (gL r10.cells 1) wA 110) fun r11 => (bif (((((r9.2.2 && ((gI r9.2.1.cells 0) == (2 : Int))) && (((gL r8.cells 1).length : Int) == (2 : Int))) && r11.2) && ((gS r11.1.cells 0) == wE)) && ((gI r11.1.cells 2) == (50 : Int))) then (oB (qfg (gI r8.cells 0) (gL r8.cells 1) ([46] : List UInt8)) fun r12 => (bif (((gL r12.cells 1).length : Int) == 0) then (oB (qfh (gI r8.cells 0) (gL r8.cells 1) (130 : Int)) fun r13 => (some (((gL r13.cells 1).length : Int) == 1))) else (some false))) else (some false)))) else none))) = some true := by
    refine qdp (q7v 2 w1 g1 wB 0 true 30 5 0 100 (by decide)) ?_
    refine qdp (qxh 2 w2 g2 wB 2 100) ?_
    rw [hd_self, cond_t]
    refine qdp (qxg 2 w2 g2 wE 2 60 [hD] 5 0 100 (by decide) (by decide) qbcx) ?_
    refine qdp (qbcs 2 w3 g3 wA 110 (by decide)) ?_
    have e1 : (qfg 2 (avL w2) [46]) = some (qdv 2 (q7w w2 [46])) := q9l 2 w2 g2 [46] (by decide)
    have e2 : (qfh 2 (avL w2) 130) = some (qdv 2 (q7x w2 130)) := q9m 2 w2 g2 130
    show (bif _ then (oB (qfg 2 (avL w2) [46]) fun r12 => (bif (((gL r12.cells 1).length : Int) == 0) then (oB (qfh 2 (avL w2) 130) fun r13 => (some (((gL r13.cells 1).length : Int) == 1))) else (some false))) else some false) = _
    rw [e1, e2]
    kernel_rfl
  show (bif _ then _ else bif _ then _ else bif _ then _ else bif _ then _ else bif _ then _ else bif _ then _ else oB (qcz 2 (avL w1) wA 1 9 [aD] 3 0 100) _) = _
  rw [hput, oB_s]
  exact (show _ = _ by kernel_rfl).trans fin
def qbz (x : List UInt8) : List UInt8 := x.take 300
theorem qsb {α : Type} (x : List α) (k : Nat) : cutI x none (some (if (k : Int) < (x.length : Int) then (k : Int) else (x.length : Int))) = some (x.take k) := by
  unfold cutI
  by_cases h : (k : Int) < (x.length : Int)
  · simp [h]; omega
  · have h' : x.length ≤ k := by omega
    simp [h, List.take_of_length_le h']
def qpf (y : AV) : AV := .agg [.bool (gB y.cells 0), .int .u64 (gI y.cells 1), .int .u64 (gI y.cells 2), .str (qbz (gS y.cells 3)), .str (qbz (gS y.cells 4)), .str (qbz (gS y.cells 5)), .int .i64 (gI y.cells 6), .int .i64 (gI y.cells 7), .int .i64 (gI y.cells 8), .int .i64 (gI y.cells 9), .int .i64 (gI y.cells 10), .int .i64 (gI y.cells 11), .int .u64 (gI y.cells 12)]
def qpg (d : List AV) : List AV := (d.take 10).map qpf
def dat0 (y : AV) : Prop := fitC qbm y.cells = true ∧ uok (gI y.cells 12)
theorem q9o (n : List UInt8) (t l : Int) (d : List AV) (hd1 : ∀ y, y ∈ d → dat0 y) : qif n t l d = some (.agg [.str (qbz n), .int .i64 t, .int .i64 l, .fr true 13 (qpg d)]) := by
  rw [qx9]; unfold qgr
  rw [show cutI n none (some (if (300 : Int) < (n.length : Int) then (300 : Int) else (n.length : Int))) = some (qbz n) from qsb n 300, oB_s]
  let kx : List AV → Option AV := fun a2q2 => (bif hd a2q2 a2q2.length then (some (.agg [(.str (qbz n)), (.int .i64 t), (.int .i64 l), (.fr true 13 a2q2)])) else none)
  have key := qfk (d.take 10) (by simp; omega) (fun m i s => qcj (qbz n) t l d [] 0 0 kx m i s) (fun i s nx => qda i (qbz n) t l d [] 0 0 s nx kx) (fun _ _ _ => rfl)
    (fun i s => s.length ≤ i) (fun r s => some (.agg [.str (qbz n), .int .i64 t, .int .i64 l, .fr true 13 (s ++ r.map qpf)]))
    (fun s nx _ => by
      have hb : (decide (((d.take 10).length : Int) < (d.length : Int)) && decide (((d.take 10).length : Int) < 10)) = false := by simp; omega
      unfold qda
      rw [hb, cond_f]
      simp [kx])
    (fun i y r s nx h1 h2 h3 h4 h5 h6 => by
      have hlt : i < d.length ∧ i < 10 := by rw [List.length_take] at h3; omega
      have hb : (decide ((i : Int) < (d.length : Int)) && decide ((i : Int) < 10)) = true := by simp; omega
      have hy : d[i]? = some y := by
        rw [List.getElem?_take] at h2
        simpa [hlt.2] using h2
      have hf := hd1 y (List.mem_of_getElem? hy)
      unfold qda
      rw [hb, cond_t, ixB_nat, hy, oB_s, hf.1, cond_t]
      rw [show cutI (gS y.cells 3) none (some (if (300 : Int) < ((gS y.cells 3).length : Int) then (300 : Int) else ((gS y.cells 3).length : Int))) = some (qbz (gS y.cells 3)) from qsb _ 300, oB_s,
        show cutI (gS y.cells 4) none (some (if (300 : Int) < ((gS y.cells 4).length : Int) then (300 : Int) else ((gS y.cells 4).length : Int))) = some (qbz (gS y.cells 4)) from qsb _ 300, oB_s,
        show cutI (gS y.cells 5) none (some (if (300 : Int) < ((gS y.cells 5).length : Int) then (300 : Int) else ((gS y.cells 5).length : Int))) = some (qbz (gS y.cells 5)) from qsb _ 300, oB_s]
      rw [hd_self, cond_t]
      have hb' : decide ((s.length + ([qpf y] : List AV).length) * 128 ≤ 140737488355328) = true := by simp; omega
      show (bif hd [qpf y] ([qpf y].length) then (bif decide ((s.length + ([qpf y] : List AV).length) * 128 ≤ 140737488355328) then nx (IntKind.i64.wrap ((i : Int) + 1)) (s ++ [qpf y]) else none) else none) = _
      rw [hd_self, cond_t, hb', cond_t, h4, h6 _ (by simp; omega)]
      simp)
    [] FU (Nat.le_refl _) (qfd (by simp; omega))
  rw [qrf]
  show qcj (qbz n) t l d [] 0 0 kx FU 0 [] = _
  rw [key]; rfl
theorem qlc (x : List UInt8) : (qbz x).length ≤ 300 := by simp [qbz]; omega
theorem qwz {d : List AV} (hd1 : ∀ y, y ∈ d → dat0 y) : qn3 (qpg d) := fun y hy => by
  obtain ⟨z, hz, rfl⟩ := List.mem_map.1 hy
  have h := hd1 z (List.mem_of_mem_take hz)
  exact ⟨rfl, Nat.le_trans (qlc _) (by omega), Nat.le_trans (qlc _) (by omega), h.2⟩
theorem q4z (d : List AV) : (qpg d).length ≤ 10 := by simp [qpg]; omega
def qph (a : AV) : Prop := fitC qeh a.cells = true ∧ ∀ y, y ∈ gL a.cells 4 → dat0 y
def qxj : Ty := .st [.st [.bool, .int .u64, .int .u64], .str, .str, .str, .int .i64, .int .i64, .int .i64, .int .i64, .int .i64, .int .i64, .int .u64]
def qbeu : Ty := .st [.str, .int .i64, .int .i64, .sl 13 qxj]
def qbaz : Ty := .st [.int .i64, qbeu, .st [.str, .int .i64], .bool, .int .i64, .int .i64, .int .i64]
theorem q9p {y : AV} (h1 : fitC qxj.lts y.cells = true) (h2 : qxj.good y.cells 0) : dat0 y := by
  simp only [qxj, Ty.good.goods, Ty.good, Ty.size, Ty.sizes, Nat.zero_add, Nat.reduceAdd, and_true, true_and] at h2
  exact ⟨h1, h2.2.2.2.2.2.2.2.2.2.2⟩
theorem actsFit_of {l : List AV} (h : l.length ≤ 9223372036854775807 ∧ ∀ y, y ∈ l → fitC qbaz.lts y.cells = true ∧ qbaz.good y.cells 0) : ∀ a, a ∈ l → qph a := fun a ha => by
  obtain ⟨h1, h2⟩ := h.2 a ha
  simp only [qbaz, qbeu, Ty.good.goods, Ty.good, Ty.size, Ty.sizes, Nat.zero_add, Nat.reduceAdd, and_true, true_and] at h2
  exact ⟨h1, fun y hy => q9p (h2.2.1.2.2.2.2 y hy).1 (h2.2.1.2.2.2.2 y hy).2⟩
def runF (most : Int) (L : List En) (a : AV) : List En :=
  if gI a.cells 0 = 0 then PutF most L (qbz (gS a.cells 1)) (gI a.cells 2) (gI a.cells 3) (qpg (gL a.cells 4)) (gI a.cells 8) (gI a.cells 9) (gI a.cells 10)
  else if gI a.cells 0 = 1 then qjl most L (qbz (gS a.cells 5)) (gI a.cells 6) (gB a.cells 7) (gI a.cells 3) (gI a.cells 8) (gI a.cells 9) (gI a.cells 10)
  else if gI a.cells 0 = 2 then getL L (gI a.cells 10) (qbk L (qbz (gS a.cells 5)) (gI a.cells 6) (gI a.cells 10))
  else if gI a.cells 0 = 4 then q7w L (qbz (gS a.cells 5))
  else if gI a.cells 0 = 5 then q7x L (gI a.cells 10)
  else L
theorem q9q {most : Int} {L : List En} (hm : 1 ≤ most) (h : Inv most L) {a : AV} (ha : qph a) : Inv most (runF most L a) := by
  unfold runF
  repeat' split
  · exact qxi hm h _ _ _ _ _ _ _ (qwz ha.2)
  · exact qz3 hm h _ _ _ _ _ _ _
  · exact qbgc h _ _ _
  · exact h.sub (List.filter_sublist ..)
  · exact h.sub (List.filter_sublist ..)
  · exact h
theorem qbhv (most : Int) (L : List En) (hL : Good L) (a : AV) (ha : qph a) :
    qkw most (avL L) (gI a.cells 0) (gS a.cells 1) (gI a.cells 2) (gI a.cells 3) (gL a.cells 4) (gS a.cells 5) (gI a.cells 6) (gB a.cells 7) (gI a.cells 8) (gI a.cells 9) (gI a.cells 10) = some (qdv most (runF most L a)) := by
  have hq : (qbz (gS a.cells 5)).length ≤ 9223372036854775807 := Nat.le_trans (qlc _) (by omega)
  have hs : (qbz (gS a.cells 1)).length ≤ 9223372036854775807 := Nat.le_trans (qlc _) (by omega)
  rw [q0y]; unfold qig
  rw [q9o _ _ _ _ ha.2, oB_s, show cutI (gS a.cells 5) none (some (if (300 : Int) < ((gS a.cells 5).length : Int) then (300 : Int) else ((gS a.cells 5).length : Int))) = some (qbz (gS a.cells 5)) from qsb _ 300, oB_s]
  unfold runF
  by_cases k0 : gI a.cells 0 = 0
  · rw [if_pos k0, show (gI a.cells 0 == 0) = true from by simpa using k0, cond_t]
    exact qdp (qxg most L hL (qbz (gS a.cells 1)) (gI a.cells 2) (gI a.cells 3) (qpg (gL a.cells 4)) _ _ _ hs (Nat.le_trans (q4z _) (by omega)) (qwz ha.2)) rfl
  rw [if_neg k0, show (gI a.cells 0 == 0) = false from by simpa using k0, cond_f]
  by_cases k1 : gI a.cells 0 = 1
  · rw [if_pos k1, show (gI a.cells 0 == 1) = true from by simpa using k1, cond_t]
    exact qdp (q7v most L hL _ _ _ _ _ _ _ hq) rfl
  rw [if_neg k1, show (gI a.cells 0 == 1) = false from by simpa using k1, cond_f]
  by_cases k2 : gI a.cells 0 = 2
  · rw [if_pos k2, show (gI a.cells 0 == 2) = true from by simpa using k2, cond_t]
    exact qdp (qxh most L hL _ _ _) rfl
  rw [if_neg k2, show (gI a.cells 0 == 2) = false from by simpa using k2, cond_f]
  by_cases k4 : gI a.cells 0 = 4
  · rw [if_pos k4, show (gI a.cells 0 == 4) = true from by simpa using k4, cond_t]
    exact qdp (q9l most L hL _ hq) rfl
  rw [if_neg k4, show (gI a.cells 0 == 4) = false from by simpa using k4, cond_f]
  by_cases k5 : gI a.cells 0 = 5
  · rw [if_pos k5, show (gI a.cells 0 == 5) = true from by simpa using k5, cond_t]
    exact qdp (q9m most L hL _) rfl
  rw [if_neg k5, show (gI a.cells 0 == 5) = false from by simpa using k5, cond_f]
  rfl
theorem qbhw {cs : List AV} (h : fitC qeh cs = true) : fitC qly cs = true ∧
    fitV (.st qeh) (.agg [(.int .i64 (gI cs 0)), (.str (gS cs 1)), (.int .i64 (gI cs 2)), (.int .i64 (gI cs 3)), (gC cs 4), (.str (gS cs 5)), (.int .i64 (gI cs 6)), (.bool (gB cs 7)), (.int .i64 (gI cs 8)), (.int .i64 (gI cs 9)), (.int .i64 (gI cs 10))]) = true := by
  obtain ⟨x0, r0, rfl, f0, h⟩ := qm6 h
  obtain ⟨x1, r1, rfl, f1, h⟩ := qm6 h
  obtain ⟨x2, r2, rfl, f2, h⟩ := qm6 h
  obtain ⟨x3, r3, rfl, f3, h⟩ := qm6 h
  obtain ⟨x4, r4, rfl, f4, h⟩ := qm6 h
  exact ⟨qg5 f0 (qg5 f1 (qg5 f2 (qg5 f3 (qg5 (qbaq f4) h)))), qbfv (qg5 rfl (qg5 rfl (qg5 rfl (qg5 rfl (qg5 (l := .sl 13) f4 rfl)))))⟩
def qba0 (most : Int) (acts : List AV) : List En := (acts.take 30).foldl (runF most) []
theorem q71 {most : Int} (hm : 1 ≤ most) : ∀ (acts : List AV) (L : List En), Inv most L → (∀ a, a ∈ acts → qph a) → Inv most (acts.foldl (runF most) L)
  | [], L, h, _ => h
  | a :: r, L, h, ha => q71 hm r _ (q9q hm h (ha a (by simp))) (fun b hb => ha b (by simp [hb]))
theorem qbd9 {most : Int} (hm : 1 ≤ most) {acts : List AV} (ha : ∀ a, a ∈ acts → qph a) : Inv most (qba0 most acts) :=
  q71 hm _ _ (qsa hm) (fun a h => ha a (List.mem_of_mem_take h))
theorem qbhg (most : Int) (h1 : 1 ≤ most) (h2 : most ≤ 256) (acts : List AV) (ha : ∀ a, a ∈ acts → qph a) : qnf most acts = some (qdv most (qba0 most acts)) := by
  rw [qzl]; unfold qhu
  refine qdp (qbay most h1 h2) ?_
  let kx : Int → List AV → Option AV := fun a b => some (.agg [.int .i64 a, .sl 9 b])
  have key : ∀ (r : List AV) (i : Nat) (L : List En) (n : Nat), (acts.take 30).drop i = r → i ≤ (acts.take 30).length → Inv most L → r.length < n → qc1 acts 0 kx n (i : Int) most (avL L) = some (qdv most (r.foldl (runF most) L)) := by
    intro r
    induction r with
    | nil =>
      intro i L n hd hi hL hn
      obtain ⟨n, rfl⟩ : ∃ m, n = m + 1 := ⟨n - 1, by omega⟩
      show qc0 acts (i : Int) 0 most (avL L) _ kx = _
      have hil : (acts.take 30).length ≤ i := by
        have := congrArg List.length hd
        simp only [List.length_drop, List.length_nil] at this
        omega
      have hb : (decide ((i : Int) < (acts.length : Int)) && decide ((i : Int) < 30)) = false := by
        rw [List.length_take] at hil
        simp; omega
      unfold qc0
      rw [hb]; rfl
    | cons a r ih =>
      intro i L n hd hi hL hn
      obtain ⟨n, rfl⟩ : ∃ m, n = m + 1 := ⟨n - 1, by omega⟩
      show qc0 acts (i : Int) 0 most (avL L) (qc1 acts 0 kx n) kx = _
      have hil : i < (acts.take 30).length := by
        have := congrArg List.length hd
        simp only [List.length_drop, List.length_cons] at this
        omega
      have hil2 : i < acts.length ∧ i < 30 := by rw [List.length_take] at hil; omega
      have hb : (decide ((i : Int) < (acts.length : Int)) && decide ((i : Int) < 30)) = true := by simp; omega
      have hai : acts[i]? = some a := by
        have h3 : (acts.take 30)[i]? = some a := by
          have := congrArg (·[0]?) hd
          simpa using this
        rw [List.getElem?_take] at h3
        simpa [hil2.2] using h3
      have hf := ha a (List.mem_of_getElem? hai)
      obtain ⟨x1, x2⟩ := qbhw hf.1
      have hw : IntKind.i64.wrap ((i : Int) + 1) = ((i + 1 : Nat) : Int) := w64 (by omega) (by omega)
      unfold qc0
      rw [hb, cond_t, ixB_nat, hai, oB_s, x1, cond_t, x2, cond_t]
      rw [show qkw most (avL L) (gI a.cells 0) (gS a.cells 1) (gI a.cells 2) (gI a.cells 3) (aL (gC a.cells 4)) (gS a.cells 5) (gI a.cells 6) (gB a.cells 7) (gI a.cells 8) (gI a.cells 9) (gI a.cells 10) = some (qdv most (runF most L a)) from qbhv most L (hL.good h2) a hf, oB_s, hw]
      exact ih (i + 1) (runF most L a) n (by
        have : (acts.take 30).drop (i + 1) = ((acts.take 30).drop i).drop 1 := by simp
        rw [this, hd]; rfl) (by omega) (q9q h1 hL hf) (by simp only [List.length_cons] at hn; omega)
  rw [qur]
  exact key (acts.take 30) 0 [] FU rfl (Nat.zero_le _) (qsa h1) (qfd (by simp; omega))
end Go.Proofs.YtmficjbenbhneaaDoor.Dn
