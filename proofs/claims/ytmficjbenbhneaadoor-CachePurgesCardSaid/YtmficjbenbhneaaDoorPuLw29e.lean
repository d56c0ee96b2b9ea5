/- Caches: the law's own words; caches behind calls. -/
import Derived.Test.YtmficjbenbhneaaDoorPuLw29i
import Derived.Test.YtmficjbenbhneaaDoorPuLibD
set_option linter.all false
namespace Go.Proofs.YtmficjbenbhneaaDoor.Dn
open Go Go.Pev
set_option linter.unusedVariables false
set_option linter.unusedSimpArgs false
set_option maxRecDepth 8000
theorem qdx {α β : Type} {o : Option α} {a : α} (h : o = some a) {f : α → Option β} {r : Option β} (hf : f a = r) : oB o f = r := by rw [h]; exact hf
theorem qbfa (m : Int) (h1 : 1 ≤ m) (h2 : m ≤ 256) : qj2 m = some (.agg [.int .i64 m, .nils], 0) := by
  rw [qvc]; unfold qi1
  have : (decide (m < 1) || decide (m > 256)) = false := by simp; omega
  rw [this]; rfl
theorem qbep (m : Int) (h : m < 1 ∨ m > 256) : qj2 m = some (.agg [.int .i64 0, .nils], 1) := by
  rw [qvc]; unfold qi1
  have : (decide (m < 1) || decide (m > 256)) = true := by simpa using h
  rw [this]; rfl
def aD : AV := .agg [.bool false, .int .u64 0, .int .u64 1, .str [], .str [], .str [], .int .i64 0, .int .i64 0, .int .i64 0, .int .i64 0, .int .i64 0, .int .i64 0, .int .u64 0]
def hD : AV := .agg [.bool false, .int .u64 0, .int .u64 0, .str [97, 46], .str [], .str [], .int .i64 0, .int .i64 0, .int .i64 0, .int .i64 0, .int .i64 0, .int .i64 0, .int .u64 0]
theorem qbfb (n : List UInt8) (l : Int) : qkl n l = some (.agg [.str n, .int .i64 1, .int .i64 l, .fr true 13 [aD]]) := by rw [q0k]; rfl
theorem q8l : qlk [aD] := fun y hy => by
  rw [List.mem_singleton.1 hy]
  exact ⟨rfl, by simp [aD, gS, gC, AV.cells, aS], by simp [aD, gS, gC, AV.cells, aS], by simp [aD, gI, gC, AV.cells, aI, uok]⟩
theorem qbdd : qlk [hD] := fun y hy => by
  rw [List.mem_singleton.1 hy]
  exact ⟨rfl, by simp [hD, gS, gC, AV.cells, aS], by simp [hD, gS, gC, AV.cells, aS], by simp [hD, gI, gC, AV.cells, aI, uok]⟩
def wA : List UInt8 := [97, 46, 101, 120, 97, 109, 112, 108, 101, 46]
def wB : List UInt8 := [98, 46]
def wE : List UInt8 := [101, 120, 97, 109, 112, 108, 101, 46]
def w1 : List En := PutF 2 [] wA 1 60 [aD] 5 0 100
def w2 : List En := qxy 2 w1 wB 0 true 30 5 0 100
def w3 : List En := PutF 2 w2 wE 2 60 [hD] 5 0 100
theorem i1 : Inv 2 w1 := q4a (by omega) (qx0 (by omega)) _ _ _ _ _ _ _ q8l
theorem i2 : Inv 2 w2 := q8k (by omega) i1 _ _ _ _ _ _ _
theorem i3 : Inv 2 w3 := q4a (by omega) i2 _ _ _ _ _ _ _ qbdd
theorem qbgv : qd1 = some true := by
  have g0 : Good ([] : List En) := (qx0 (most := 2) (by omega)).good (by omega)
  have g1 := i1.good (by omega)
  have g2 := i2.good (by omega)
  have g3 := i3.good (by omega)
  rw [qyp]; unfold qg1
  refine qdx (qbfa 2 (by omega) (by omega)) ?_
  refine qdx (qbep 0 (by omega)) ?_
  refine qdx (qbfb _ _) ?_
  refine qdx (q6g 2 [] g0 wA 1 60 [aD] 5 0 100 (by decide) (by decide) q8l) ?_
  refine qdx (qxz 2 w1 g1 wA 1 140) ?_
  refine qdx (qxz 2 w1 g1 wA 1 160) ?_
  rw [qr1]; unfold qej
  rw [qbfb, oB_s]
  have hput : qfh 2 (avL w1) wA 1 9 [aD] 3 0 100 = some (qd4 2 (PutF 2 w1 wA 1 9 [aD] 3 0 100)) := q6g 2 w1 g1 wA 1 9 [aD] 3 0 100 (by decide) (by decide) q8l
  have fin : (oB (qk2 2 (avL w1) wB 0 true 30 5 0 100) fun r8 => (oB (qfi (gI r8.cells 0) (gL r8.cells 1) wB 2 100) fun r9 => (bif hd [hD] ([hD].length) then (oB (qfh (gI r8.cells 0) (gL r8.cells 1) wE 2 60 [hD] 5 0 100) fun r10 => (oB (qe4 (gI r10.cells 0) (gL r10.cells 1) wA 110) fun r11 => (bif (((((r9.2.2 && ((gI r9.2.1.cells 0) == (2 : Int))) && (((gL r8.cells 1).length : Int) == (2 : Int))) && r11.2) && ((gS r11.1.cells 0) == wE)) && ((gI r11.1.cells 2) == (50 : Int))) then (oB (qc9 (gI r8.cells 0) (gL r8.cells 1) ([46] : List UInt8)) fun r12 => (bif (((gL r12.cells 1).length : Int) == 0) then (oB (qen (gI r8.cells 0) (gL r8.cells 1) (130 : Int)) fun r13 => (some (((gL r13.cells 1).length : Int) == 1))) else (some false))) else (some false)))) else none))) = some true := by
    refine qdx (qbc9 2 w1 g1 wB 0 true 30 5 0 100 (by decide)) ?_
    refine qdx (qxz 2 w2 g2 wB 2 100) ?_
    rw [hd_self, cond_t]
    refine qdx (q6g 2 w2 g2 wE 2 60 [hD] 5 0 100 (by decide) (by decide) qbdd) ?_
    refine qdx (qxj 2 w3 g3 wA 110 (by decide)) ?_
    have e1 : (qc9 2 (avL w2) [46]) = some (qd4 2 (qi4 w2 [46])) := q38 2 w2 g2 [46] (by decide)
    have e2 : (qen 2 (avL w2) 130) = some (qd4 2 (qdl w2 130)) := q39 2 w2 g2 130
    show (bif _ then (oB (qc9 2 (avL w2) [46]) fun r12 => (bif (((gL r12.cells 1).length : Int) == 0) then (oB (qen 2 (avL w2) 130) fun r13 => (some (((gL r13.cells 1).length : Int) == 1))) else (some false))) else some false) = _
    rw [e1, e2]
    kernel_rfl
  show (bif _ then _ else bif _ then _ else bif _ then _ else bif _ then _ else bif _ then _ else bif _ then _ else oB (qfh 2 (avL w1) wA 1 9 [aD] 3 0 100) _) = _
  rw [hput, oB_s]
  exact (show _ = _ by kernel_rfl).trans fin
def qbw (x : List UInt8) : List UInt8 := x.take 300
theorem qoy {α : Type} (x : List α) (k : Nat) : cutI x none (some (if (k : Int) < (x.length : Int) then (k : Int) else (x.length : Int))) = some (x.take k) := by
  unfold cutI
  by_cases h : (k : Int) < (x.length : Int)
  · simp [h]; omega
  · have h' : x.length ≤ k := by omega
    simp [h, List.take_of_length_le h']
def qp0 (y : AV) : AV := .agg [.bool (gB y.cells 0), .int .u64 (gI y.cells 1), .int .u64 (gI y.cells 2), .str (qbw (gS y.cells 3)), .str (qbw (gS y.cells 4)), .str (qbw (gS y.cells 5)), .int .i64 (gI y.cells 6), .int .i64 (gI y.cells 7), .int .i64 (gI y.cells 8), .int .i64 (gI y.cells 9), .int .i64 (gI y.cells 10), .int .i64 (gI y.cells 11), .int .u64 (gI y.cells 12)]
def qsw (d : List AV) : List AV := (d.take 10).map qp0
def dat0 (y : AV) : Prop := fitC qbn y.cells = true ∧ uok (gI y.cells 12)
theorem qbgw (n : List UInt8) (t l : Int) (d : List AV) (hd1 : ∀ y, y ∈ d → dat0 y) : ql8 n t l d = some (.agg [.str (qbw n), .int .i64 t, .int .i64 l, .fr true 13 (qsw d)]) := by
  rw [qyq]; unfold qg2
  rw [show cutI n none (some (if (300 : Int) < (n.length : Int) then (300 : Int) else (n.length : Int))) = some (qbw n) from qoy n 300, oB_s]
  let kx : List AV → Option AV := fun a2q2 => (bif hd a2q2 a2q2.length then (some (.agg [(.str (qbw n)), (.int .i64 t), (.int .i64 l), (.fr true 13 a2q2)])) else none)
  have key := qfv (d.take 10) (by simp; omega) (fun m i s => qcn (qbw n) t l d [] 0 0 kx m i s) (fun i s nx => qdf i (qbw n) t l d [] 0 0 s nx kx) (fun _ _ _ => rfl)
    (fun i s => s.length ≤ i) (fun r s => some (.agg [.str (qbw n), .int .i64 t, .int .i64 l, .fr true 13 (s ++ r.map qp0)]))
    (fun s nx _ => by
      have hb : (decide (((d.take 10).length : Int) < (d.length : Int)) && decide (((d.take 10).length : Int) < 10)) = false := by simp; omega
      unfold qdf
      rw [hb, cond_f]
      simp [kx])
    (fun i y r s nx h1 h2 h3 h4 h5 h6 => by
      have hlt : i < d.length ∧ i < 10 := by rw [List.length_take] at h3; omega
      have hb : (decide ((i : Int) < (d.length : Int)) && decide ((i : Int) < 10)) = true := by simp; omega
      have hy : d[i]? = some y := by
        rw [List.getElem?_take] at h2
        simpa [hlt.2] using h2
      have hf := hd1 y (List.mem_of_getElem? hy)
      unfold qdf
      rw [hb, cond_t, ixB_nat, hy, oB_s, hf.1, cond_t]
      rw [show cutI (gS y.cells 3) none (some (if (300 : Int) < ((gS y.cells 3).length : Int) then (300 : Int) else ((gS y.cells 3).length : Int))) = some (qbw (gS y.cells 3)) from qoy _ 300, oB_s,
        show cutI (gS y.cells 4) none (some (if (300 : Int) < ((gS y.cells 4).length : Int) then (300 : Int) else ((gS y.cells 4).length : Int))) = some (qbw (gS y.cells 4)) from qoy _ 300, oB_s,
        show cutI (gS y.cells 5) none (some (if (300 : Int) < ((gS y.cells 5).length : Int) then (300 : Int) else ((gS y.cells 5).length : Int))) = some (qbw (gS y.cells 5)) from qoy _ 300, oB_s]
      rw [hd_self, cond_t]
      have hb' : decide ((s.length + ([qp0 y] : List AV).length) * 128 ≤ 140737488355328) = true := by simp; omega
      show (bif hd [qp0 y] ([qp0 y].length) then (bif decide ((s.length + ([qp0 y] : List AV).length) * 128 ≤ 140737488355328) then nx (IntKind.i64.wrap ((i : Int) + 1)) (s ++ [qp0 y]) else none) else none) = _
      rw [hd_self, cond_t, hb', cond_t, h4, h6 _ (by simp; omega)]
      simp)
    [] FU (Nat.le_refl _) (qfo (by simp; omega))
  rw [qr2]
  show qcn (qbw n) t l d [] 0 0 kx FU 0 [] = _
  rw [key]; rfl
theorem qll (x : List UInt8) : (qbw x).length ≤ 300 := by simp [qbw]; omega
theorem q5j {d : List AV} (hd1 : ∀ y, y ∈ d → dat0 y) : qlk (qsw d) := fun y hy => by
  obtain ⟨z, hz, rfl⟩ := List.mem_map.1 hy
  have h := hd1 z (List.mem_of_mem_take hz)
  exact ⟨rfl, Nat.le_trans (qll _) (by omega), Nat.le_trans (qll _) (by omega), h.2⟩
theorem qbde (d : List AV) : (qsw d).length ≤ 10 := by simp [qsw]; omega
def qp1 (a : AV) : Prop := fitC qep a.cells = true ∧ ∀ y, y ∈ gL a.cells 4 → dat0 y
def q6h : Ty := .st [.st [.bool, .int .u64, .int .u64], .str, .str, .str, .int .i64, .int .i64, .int .i64, .int .i64, .int .i64, .int .i64, .int .u64]
def qbfc : Ty := .st [.str, .int .i64, .int .i64, .sl 13 q6h]
def qbbg : Ty := .st [.int .i64, qbfc, .st [.str, .int .i64], .bool, .int .i64, .int .i64, .int .i64]
theorem qbgx {y : AV} (h1 : fitC q6h.lts y.cells = true) (h2 : q6h.good y.cells 0) : dat0 y := by
  simp only [q6h, Ty.good.goods, Ty.good, Ty.size, Ty.sizes, Nat.zero_add, Nat.reduceAdd, and_true, true_and] at h2
  exact ⟨h1, h2.2.2.2.2.2.2.2.2.2.2⟩
theorem actsFit_of {l : List AV} (h : l.length ≤ 9223372036854775807 ∧ ∀ y, y ∈ l → fitC qbbg.lts y.cells = true ∧ qbbg.good y.cells 0) : ∀ a, a ∈ l → qp1 a := fun a ha => by
  obtain ⟨h1, h2⟩ := h.2 a ha
  simp only [qbbg, qbfc, Ty.good.goods, Ty.good, Ty.size, Ty.sizes, Nat.zero_add, Nat.reduceAdd, and_true, true_and] at h2
  exact ⟨h1, fun y hy => qbgx (h2.2.1.2.2.2.2 y hy).1 (h2.2.1.2.2.2.2 y hy).2⟩
def runF (most : Int) (L : List En) (a : AV) : List En :=
  if gI a.cells 0 = 0 then PutF most L (qbw (gS a.cells 1)) (gI a.cells 2) (gI a.cells 3) (qsw (gL a.cells 4)) (gI a.cells 8) (gI a.cells 9) (gI a.cells 10)
  else if gI a.cells 0 = 1 then qxy most L (qbw (gS a.cells 5)) (gI a.cells 6) (gB a.cells 7) (gI a.cells 3) (gI a.cells 8) (gI a.cells 9) (gI a.cells 10)
  else if gI a.cells 0 = 2 then getL L (gI a.cells 10) (qce L (qbw (gS a.cells 5)) (gI a.cells 6) (gI a.cells 10))
  else if gI a.cells 0 = 4 then qi4 L (qbw (gS a.cells 5))
  else if gI a.cells 0 = 5 then qdl L (gI a.cells 10)
  else L
theorem q94 {most : Int} {L : List En} (hm : 1 ≤ most) (h : Inv most L) {a : AV} (ha : qp1 a) : Inv most (runF most L a) := by
  unfold runF
  repeat' split
  · exact q4a hm h _ _ _ _ _ _ _ (q5j ha.2)
  · exact q8k hm h _ _ _ _ _ _ _
  · exact qbgu h _ _ _
  · exact h.sub (List.filter_sublist ..)
  · exact h.sub (List.filter_sublist ..)
  · exact h
theorem qbic (most : Int) (L : List En) (hL : Good L) (a : AV) (ha : qp1 a) :
    qk5 most (avL L) (gI a.cells 0) (gS a.cells 1) (gI a.cells 2) (gI a.cells 3) (gL a.cells 4) (gS a.cells 5) (gI a.cells 6) (gB a.cells 7) (gI a.cells 8) (gI a.cells 9) (gI a.cells 10) = some (qd4 most (runF most L a)) := by
  have hq : (qbw (gS a.cells 5)).length ≤ 9223372036854775807 := Nat.le_trans (qll _) (by omega)
  have hs : (qbw (gS a.cells 1)).length ≤ 9223372036854775807 := Nat.le_trans (qll _) (by omega)
  rw [q1c]; unfold qiq
  rw [qbgw _ _ _ _ ha.2, oB_s, show cutI (gS a.cells 5) none (some (if (300 : Int) < ((gS a.cells 5).length : Int) then (300 : Int) else ((gS a.cells 5).length : Int))) = some (qbw (gS a.cells 5)) from qoy _ 300, oB_s]
  unfold runF
  by_cases k0 : gI a.cells 0 = 0
  · rw [if_pos k0, show (gI a.cells 0 == 0) = true from by simpa using k0, cond_t]
    exact qdx (q6g most L hL (qbw (gS a.cells 1)) (gI a.cells 2) (gI a.cells 3) (qsw (gL a.cells 4)) _ _ _ hs (Nat.le_trans (qbde _) (by omega)) (q5j ha.2)) rfl
  rw [if_neg k0, show (gI a.cells 0 == 0) = false from by simpa using k0, cond_f]
  by_cases k1 : gI a.cells 0 = 1
  · rw [if_pos k1, show (gI a.cells 0 == 1) = true from by simpa using k1, cond_t]
    exact qdx (qbc9 most L hL _ _ _ _ _ _ _ hq) rfl
  rw [if_neg k1, show (gI a.cells 0 == 1) = false from by simpa using k1, cond_f]
  by_cases k2 : gI a.cells 0 = 2
  · rw [if_pos k2, show (gI a.cells 0 == 2) = true from by simpa using k2, cond_t]
    exact qdx (qxz most L hL _ _ _) rfl
  rw [if_neg k2, show (gI a.cells 0 == 2) = false from by simpa using k2, cond_f]
  by_cases k4 : gI a.cells 0 = 4
  · rw [if_pos k4, show (gI a.cells 0 == 4) = true from by simpa using k4, cond_t]
    exact qdx (q38 most L hL _ hq) rfl
  rw [if_neg k4, show (gI a.cells 0 == 4) = false from by simpa using k4, cond_f]
  by_cases k5 : gI a.cells 0 = 5
  · rw [if_pos k5, show (gI a.cells 0 == 5) = true from by simpa using k5, cond_t]
    exact qdx (q39 most L hL _) rfl
  rw [if_neg k5, show (gI a.cells 0 == 5) = false from by simpa using k5, cond_f]
  rfl
theorem qbid {cs : List AV} (h : fitC qep cs = true) : fitC ql7 cs = true ∧
    fitV (.st qep) (.agg [(.int .i64 (gI cs 0)), (.str (gS cs 1)), (.int .i64 (gI cs 2)), (.int .i64 (gI cs 3)), (gC cs 4), (.str (gS cs 5)), (.int .i64 (gI cs 6)), (.bool (gB cs 7)), (.int .i64 (gI cs 8)), (.int .i64 (gI cs 9)), (.int .i64 (gI cs 10))]) = true := by
  obtain ⟨x0, r0, rfl, f0, h⟩ := qnq h
  obtain ⟨x1, r1, rfl, f1, h⟩ := qnq h
  obtain ⟨x2, r2, rfl, f2, h⟩ := qnq h
  obtain ⟨x3, r3, rfl, f3, h⟩ := qnq h
  obtain ⟨x4, r4, rfl, f4, h⟩ := qnq h
  exact ⟨qhf f0 (qhf f1 (qhf f2 (qhf f3 (qhf (qba5 f4) h)))), qbgd (qhf rfl (qhf rfl (qhf rfl (qhf rfl (qhf (l := .sl 13) f4 rfl)))))⟩
def qbbh (most : Int) (acts : List AV) : List En := (acts.take 30).foldl (runF most) []
theorem q8m {most : Int} (hm : 1 ≤ most) : ∀ (acts : List AV) (L : List En), Inv most L → (∀ a, a ∈ acts → qp1 a) → Inv most (acts.foldl (runF most) L)
  | [], L, h, _ => h
  | a :: r, L, h, ha => q8m hm r _ (q94 hm h (ha a (by simp))) (fun b hb => ha b (by simp [hb]))
theorem qbeq {most : Int} (hm : 1 ≤ most) {acts : List AV} (ha : ∀ a, a ∈ acts → qp1 a) : Inv most (qbbh most acts) :=
  q8m hm _ _ (qx0 hm) (fun a h => ha a (List.mem_of_mem_take h))
theorem qbhy (most : Int) (h1 : 1 ≤ most) (h2 : most ≤ 256) (acts : List AV) (ha : ∀ a, a ∈ acts → qp1 a) : qn2 most acts = some (qd4 most (qbbh most acts)) := by
  rw [qz3]; unfold qh4
  refine qdx (qbfa most h1 h2) ?_
  let kx : Int → List AV → Option AV := fun a b => some (.agg [.int .i64 a, .sl 9 b])
  have key : ∀ (r : List AV) (i : Nat) (L : List En) (n : Nat), (acts.take 30).drop i = r → i ≤ (acts.take 30).length → Inv most L → r.length < n → qc6 acts 0 kx n (i : Int) most (avL L) = some (qd4 most (r.foldl (runF most) L)) := by
    intro r
    induction r with
    | nil =>
      intro i L n hd hi hL hn
      obtain ⟨n, rfl⟩ : ∃ m, n = m + 1 := ⟨n - 1, by omega⟩
      show qc5 acts (i : Int) 0 most (avL L) _ kx = _
      have hil : (acts.take 30).length ≤ i := by
        have := congrArg List.length hd
        simp only [List.length_drop, List.length_nil] at this
        omega
      have hb : (decide ((i : Int) < (acts.length : Int)) && decide ((i : Int) < 30)) = false := by
        rw [List.length_take] at hil
        simp; omega
      unfold qc5
      rw [hb]; rfl
    | cons a r ih =>
      intro i L n hd hi hL hn
      obtain ⟨n, rfl⟩ : ∃ m, n = m + 1 := ⟨n - 1, by omega⟩
      show qc5 acts (i : Int) 0 most (avL L) (qc6 acts 0 kx n) kx = _
      have hil : i < (acts.take 30).length := by
        have := congrArg List.length hd
        simp only [List.length_drop, List.length_cons] at this
        omega
      have hil2 : i < acts.length ∧ i < 30 := by rw [List.length_take] at hil; omega
      have hb : (decide ((i : Int) < (acts.length : Int)) && decide ((i : Int) < 30)) = true := by simp; omega
      have hai : acts[i]? = some a := by
        have h3 : (acts.take 30)[i]? = some a := by
          have := congrArg (·[0]?) hd
          simpa using this
        rw [List.getElem?_take] at h3
        simpa [hil2.2] using h3
      have hf := ha a (List.mem_of_getElem? hai)
      obtain ⟨x1, x2⟩ := qbid hf.1
      have hw : IntKind.i64.wrap ((i : Int) + 1) = ((i + 1 : Nat) : Int) := w64 (by omega) (by omega)
      unfold qc5
      rw [hb, cond_t, ixB_nat, hai, oB_s, x1, cond_t, x2, cond_t]
      rw [show qk5 most (avL L) (gI a.cells 0) (gS a.cells 1) (gI a.cells 2) (gI a.cells 3) (aL (gC a.cells 4)) (gS a.cells 5) (gI a.cells 6) (gB a.cells 7) (gI a.cells 8) (gI a.cells 9) (gI a.cells 10) = some (qd4 most (runF most L a)) from qbic most L (hL.good h2) a hf, oB_s, hw]
      exact ih (i + 1) (runF most L a) n (by
        have : (acts.take 30).drop (i + 1) = ((acts.take 30).drop i).drop 1 := by simp
        rw [this, hd]; rfl) (by omega) (q94 h1 hL hf) (by simp only [List.length_cons] at hn; omega)
  rw [qva]
  exact key (acts.take 30) 0 [] FU rfl (Nat.zero_le _) (qx0 h1) (qfo (by simp; omega))
end Go.Proofs.YtmficjbenbhneaaDoor.Dn
