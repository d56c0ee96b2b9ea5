/- Tables of blocks: what Add and Remove answer, the program's and the reference's. -/
import Derived.Test.YtmfghgaboaocgaaChLw46c
set_option linter.all false
namespace Go.Proofs.Ytmfghgaboaocgaa.Dn
open Go Go.Pev
set_option linter.unusedVariables false
set_option linter.unusedSimpArgs false
set_option maxRecDepth 4000
def mkB (b0 : Bool) (b1 b2 b3 b4 : Int) (b5 b6 : List UInt8) (b7 : Int) : AV := .agg [(.bool b0), (.int .u64 b1), (.int .u64 b2), (.int .i64 b3), (.int .i64 b4), (.str b5), (.str b6), (.int .i64 b7)]
def mkP (b0 : Bool) (b1 b2 b3 : Int) : AV := .agg [(.bool b0), (.int .u64 b1), (.int .u64 b2), (.int .i64 b3)]
theorem qb8o {cs : List AV} (h : fitC qe cs = true) : cs = (mkB (gB cs 0) (gI cs 1) (gI cs 2) (gI cs 3) (gI cs 4) (gS cs 5) (gS cs 6) (gI cs 7)).cells := by
  have := qv9 (ls := qe) (by decide) h
  exact this.symm
theorem q9i {y : AV} (h : fitC qe y.cells = true) : mkB (gB y.cells 0) (gI y.cells 1) (gI y.cells 2) (gI y.cells 3) (gI y.cells 4) (gS y.cells 5) (gS y.cells 6) (gI y.cells 7) = y := by
  have h1 := qb8o h
  cases y with
  | agg cs =>
    simp only [AV.cells] at h1 ⊢
    unfold mkB at h1 ⊢
    simp only [AV.cells] at h1
    rw [← h1]
  | _ =>
    have h2 := congrArg List.length h1
    simp [AV.cells, mkB] at h2
theorem qb4t {y : AV} (h : fitC qe y.cells = true) : blkV y = y := q9i h
def occF (l : List AV) (v : Bool) (hi lo bits : Int) : Bool := l.any fun y => qhb (gB y.cells 0) (gI y.cells 1) (gI y.cells 2) (gI y.cells 3) v hi lo bits
theorem qbjc {R : Type} (l : List AV) (hl : qcc l) (a0 : Bool) (a1 : Int) (a2 : Int) (a3 : Int) (kr : Int → Bool → Int → Int → Int → Option R) (q : AV → Bool) (hq : ∀ y, qvq y → ∀ kr : Bool → Bool → Int → Int → Int → Option R, qmf (gB y.cells 0) (gI y.cells 1) (gI y.cells 2) (gI y.cells 3) (gI y.cells 4) (gS y.cells 5) (gS y.cells 6) (gI y.cells 7) a0 a1 a2 a3 kr = kr (q y) a0 a1 a2 a3) :
    qbo l a0 a1 a2 a3 kr = kr (idxI q l) a0 a1 a2 a3 := by
  rw [qev]; unfold qc4
  rw [qd5]
  have key := qg7 l hl.1 (fun n i (s : Bool × Int × Int × Int) => qbv l (l.length : Int) (fun c0 c1 c2 c3 => kr (-1 : Int) c0 c1 c2 c3) kr n i s.1 s.2.1 s.2.2.1 s.2.2.2)
    (fun i s nx => qba l (l.length : Int) i s.1 s.2.1 s.2.2.1 s.2.2.2 (fun i c0 c1 c2 c3 => nx i (c0, c1, c2, c3)) (fun c0 c1 c2 c3 => kr (-1 : Int) c0 c1 c2 c3) kr) (fun _ _ _ => rfl)
    (fun i s => s = (a0, a1, a2, a3)) (fun r s => kr (match idxO q r with | some k => ((l.length - r.length + k : Nat) : Int) | none => -1) a0 a1 a2 a3) ?_ ?_ (a0, a1, a2, a3) FU rfl (qkg (by have := hl.1; omega))
  · refine key.trans ?_
    unfold idxI
    cases idxO q l <;> simp
  · intro s nx hs
    subst hs
    simp [qba, idxO]
  · rintro i y r _ nx h1 h2 h3 h4 rfl h5
    have hy := hl.2 y (List.mem_of_getElem? h2)
    have h6 : (i : Int) < (l.length : Int) := by omega
    have hr : r.length = l.length - (i + 1) := by
      have := congrArg List.length h1
      simp at this
      omega
    unfold qba
    simp only [h6, decide_true, cond_t, ixB_nat, h2, oB_s, hy.1, hq y hy, h4]
    unfold idxO
    cases hqq : q y with
    | true =>
      simp only [cond_t, if_true]
      congr 1
      simp
      omega
    | false =>
      simp only [cond_f, Bool.false_eq_true, if_false]
      rw [h5 _ rfl]
      cases idxO q r with
      | none => rfl
      | some k =>
        simp
        congr 1
        omega
theorem qb3f (l : List AV) (hl : qcc l) (v : Bool) (hi lo bits : Int) : qot l v hi lo bits = some (occF l v hi lo bits) := by
  rw [q5h]; unfold qxh
  rw [qd7]; unfold qct
  rw [qbjc l hl _ _ _ _ _ (fun y => qhb (gB y.cells 0) (gI y.cells 1) (gI y.cells 2) (gI y.cells 3) v hi lo bits), qbsb]
  · rfl
  · intro z hz kr
    rw [q1q]; unfold qtp
    simp only [qb03, oB_s]
theorem qbze (v6 : Bool) (hi lo bits : Int) (w6 : Bool) (whi wlo wbits : Int) (u1 : uok hi) (u2 : uok lo) : qk1 v6 hi lo bits w6 whi wlo wbits = some (qhb v6 hi lo bits w6 whi wlo wbits) := by
  rw [q3l]; unfold qx7 qhb
  simp only [q5x _ _ _ _ _ _ _ _ u1 u2, oB_s]
  rw [Bool.and_comm]
def insF (b : AV) : List AV → List AV
  | [] => [b]
  | y :: r => bif decide (cmpY y b > 0) then b :: y :: r else y :: insF b r
theorem qb4u (b y : AV) (r : List AV) : insF b (y :: r) = bif decide (cmpY y b > 0) then b :: y :: r else y :: insF b r := rfl
theorem qbsc (b : AV) : ∀ l, (insF b l).length = l.length + 1
  | [] => rfl
  | y :: r => by unfold insF; cases decide (cmpY y b > 0) <;> simp [qbsc b r]
theorem qb04 {b y : AV} : ∀ {l : List AV}, y ∈ insF b l ↔ y = b ∨ y ∈ l
  | [] => by simp [insF]
  | z :: r => by
    unfold insF
    cases decide (cmpY z b > 0)
    · simp only [cond_f, List.mem_cons, qb04 (l := r)]
      constructor
      · rintro (h | h | h)
        · exact .inr (.inl h)
        · exact .inl h
        · exact .inr (.inr h)
      · rintro (h | h | h)
        · exact .inr (.inl h)
        · exact .inl h
        · exact .inr (.inr h)
    · simp
theorem qb05 (b : AV) : ∀ l, insF b l = l.take ((idxO (fun y => decide (cmpY y b > 0)) l).getD l.length) ++ [b] ++ l.drop ((idxO (fun y => decide (cmpY y b > 0)) l).getD l.length)
  | [] => rfl
  | y :: r => by
    unfold insF idxO
    have ih := qb05 b r
    cases h : decide (cmpY y b > 0) with
    | true => simp
    | false =>
      simp only [cond_f, Bool.false_eq_true, if_false]
      rw [ih]
      cases idxO (fun y => decide (cmpY y b > 0)) r <;> simp
theorem qbpp {R : Type} (l : List AV) (hl : qcc l) (a0 : Bool) (a1 : Int) (a2 : Int) (a3 : Int) (a4 : Int) (a5 : List UInt8) (a6 : List UInt8) (a7 : Int) (kr : Int → Bool → Int → Int → Int → Int → List UInt8 → List UInt8 → Int → Option R) (q : AV → Bool) (hq : ∀ y, qvq y → ∀ kr : Bool → Bool → Int → Int → Int → Int → List UInt8 → List UInt8 → Int → Option R, qou (gB y.cells 0) (gI y.cells 1) (gI y.cells 2) (gI y.cells 3) (gI y.cells 4) (gS y.cells 5) (gS y.cells 6) (gI y.cells 7) a0 a1 a2 a3 a4 a5 a6 a7 kr = kr (q y) a0 a1 a2 a3 a4 a5 a6 a7) :
    qbp l a0 a1 a2 a3 a4 a5 a6 a7 kr = kr (idxI q l) a0 a1 a2 a3 a4 a5 a6 a7 := by
  rw [qe4]; unfold qc6
  rw [qel]
  have key := qg7 l hl.1 (fun n i (s : Bool × Int × Int × Int × Int × (List UInt8) × (List UInt8) × Int) => qb6 l (l.length : Int) (fun c0 c1 c2 c3 c4 c5 c6 c7 => kr (-1 : Int) c0 c1 c2 c3 c4 c5 c6 c7) kr n i s.1 s.2.1 s.2.2.1 s.2.2.2.1 s.2.2.2.2.1 s.2.2.2.2.2.1 s.2.2.2.2.2.2.1 s.2.2.2.2.2.2.2)
    (fun i s nx => qbf l (l.length : Int) i s.1 s.2.1 s.2.2.1 s.2.2.2.1 s.2.2.2.2.1 s.2.2.2.2.2.1 s.2.2.2.2.2.2.1 s.2.2.2.2.2.2.2 (fun i c0 c1 c2 c3 c4 c5 c6 c7 => nx i (c0, c1, c2, c3, c4, c5, c6, c7)) (fun c0 c1 c2 c3 c4 c5 c6 c7 => kr (-1 : Int) c0 c1 c2 c3 c4 c5 c6 c7) kr) (fun _ _ _ => rfl)
    (fun i s => s = (a0, a1, a2, a3, a4, a5, a6, a7)) (fun r s => kr (match idxO q r with | some k => ((l.length - r.length + k : Nat) : Int) | none => -1) a0 a1 a2 a3 a4 a5 a6 a7) ?_ ?_ (a0, a1, a2, a3, a4, a5, a6, a7) FU rfl (qkg (by have := hl.1; omega))
  · refine key.trans ?_
    unfold idxI
    cases idxO q l <;> simp
  · intro s nx hs
    subst hs
    simp [qbf, idxO]
  · rintro i y r _ nx h1 h2 h3 h4 rfl h5
    have hy := hl.2 y (List.mem_of_getElem? h2)
    have h6 : (i : Int) < (l.length : Int) := by omega
    have hr : r.length = l.length - (i + 1) := by
      have := congrArg List.length h1
      simp at this
      omega
    unfold qbf
    simp only [h6, decide_true, cond_t, ixB_nat, h2, oB_s, hy.1, hq y hy, h4]
    unfold idxO
    cases hqq : q y with
    | true =>
      simp only [cond_t, if_true]
      congr 1
      simp
      omega
    | false =>
      simp only [cond_f, Bool.false_eq_true, if_false]
      rw [h5 _ rfl]
      cases idxO q r with
      | none => rfl
      | some k =>
        simp
        congr 1
        omega
theorem qb5v (l : List AV) (hl : qcc l) (hn : l.length ≤ 100000) (b0 : Bool) (b1 b2 b3 b4 : Int) (b5 b6 : List UInt8) (b7 : Int) : qsh l b0 b1 b2 b3 b4 b5 b6 b7 = some (insF (mkB b0 b1 b2 b3 b4 b5 b6 b7) l) := by
  rw [q8t]; unfold q1s
  rw [qbpp l hl _ _ _ _ _ _ _ _ _ (fun y => decide (cmpY y (mkB b0 b1 b2 b3 b4 b5 b6 b7) > 0))]
  · have hc : qdc l = some l := by
      unfold qdc qbuy
      have : l.length * 80 ≤ 140737488355328 := by omega
      simp [this]
    rw [q24]; unfold qvi
    have fin : ∀ k : Nat, k ≤ l.length → q38 80 l (k : Int) [mkB b0 b1 b2 b3 b4 b5 b6 b7] = some (l.take k ++ [mkB b0 b1 b2 b3 b4 b5 b6 b7] ++ l.drop k) := fun k hk => by
      unfold q38
      have : (l.length + 1) * 80 ≤ 140737488355328 := by omega
      simp [hk, this]
    show (bif decide (idxI (fun y => decide (cmpY y (mkB b0 b1 b2 b3 b4 b5 b6 b7) > 0)) l < 0) then (oB (qdc l) fun r11 => (bif hd r11 r11.length then (bif hd [mkB b0 b1 b2 b3 b4 b5 b6 b7] ([mkB b0 b1 b2 b3 b4 b5 b6 b7].length) then (oB (q38 80 r11 (l.length : Int) [mkB b0 b1 b2 b3 b4 b5 b6 b7]) fun r12 => (bif hd r12 r12.length then (some r12) else none)) else none) else none)) else (oB (qdc l) fun r11 => (bif hd r11 r11.length then (bif hd [mkB b0 b1 b2 b3 b4 b5 b6 b7] ([mkB b0 b1 b2 b3 b4 b5 b6 b7].length) then (oB (q38 80 r11 (idxI (fun y => decide (cmpY y (mkB b0 b1 b2 b3 b4 b5 b6 b7) > 0)) l) [mkB b0 b1 b2 b3 b4 b5 b6 b7]) fun r12 => (bif hd r12 r12.length then (some r12) else none)) else none) else none))) = _
    rw [qb05, hc]
    unfold idxI
    cases hq : idxO (fun y => decide (cmpY y (mkB b0 b1 b2 b3 b4 b5 b6 b7) > 0)) l with
    | none =>
      simp only [oB_s, hd_self, cond_t, Option.getD_none]
      rw [fin l.length (Nat.le_refl _)]
      simp
    | some k =>
      obtain ⟨y, hy, _⟩ := qbmr l k hq
      have hk := (List.getElem?_eq_some_iff.1 hy).1
      have h0 : ¬ ((k : Int) < 0) := by omega
      simp only [oB_s, hd_self, cond_t, h0, decide_false, cond_f, Option.getD_some]
      rw [fin k (by omega)]
      simp
  · intro z hz kr
    rw [q5k]; unfold qxj
    simp only [qb76, oB_s]
    rfl
theorem q9j {R : Type} {a : List AV} (x : AV) (h : (a.length + 1) * 80 ≤ 140737488355328) (k : Option R) : (bif decide ((a.length + ([x] : List AV).length) * 80 ≤ 140737488355328) then k else none) = k := by
  rw [show ([x] : List AV).length = 1 from rfl, decide_eq_true h]; rfl
theorem qb7g (l : List AV) (d : Bool) (i : Nat) (b0 : Bool) (b1 b2 b3 b4 : Int) (b5 b6 : List UInt8) (b7 : Int) (a : List AV) (kn : Bool → List AV → Option (List AV)) {y : AV} (hy : l[i]? = some y) (hf : fitC qe y.cells = true) (ha : (a.length + 1) * 80 ≤ 140737488355328) :
    qnl l d (i : Int) b0 b1 b2 b3 b4 b5 b6 b7 a kn = bif (!d && decide (cmpY y (mkB b0 b1 b2 b3 b4 b5 b6 b7) > 0)) then kn true (a ++ [mkB b0 b1 b2 b3 b4 b5 b6 b7]) else kn d a := by
  rw [q28]; unfold qvk
  rw [q26]; unfold qvj
  simp only [hd_self, Bool.and_self, cond_t, ixB_nat, hy, oB_s, hf, qb4n]
  rw [show decide (cmpP (gB y.cells 0) (gI y.cells 1) (gI y.cells 2) (gI y.cells 3) b0 b1 b2 b3 > 0) = decide (cmpY y (mkB b0 b1 b2 b3 b4 b5 b6 b7) > 0) from rfl]
  rw [q9j _ ha]
  cases d <;> cases decide (cmpY y (mkB b0 b1 b2 b3 b4 b5 b6 b7) > 0) <;> rfl
theorem qb5w (l : List AV) (d : Bool) (i : Nat) (b0 : Bool) (b1 b2 b3 b4 : Int) (b5 b6 : List UInt8) (b7 : Int) (a : List AV) (nx : Bool → Int → List AV → Option (List AV)) (kx : Bool → List AV → Option (List AV)) {y : AV} (hy : l[i]? = some y) (hf : fitC qe y.cells = true) (hl : l.length ≤ 100000) (ha : (a.length + 2) * 80 ≤ 140737488355328) :
    qgb l d (i : Int) b0 b1 b2 b3 b4 b5 b6 b7 a nx kx = bif (!d && decide (cmpY y (mkB b0 b1 b2 b3 b4 b5 b6 b7) > 0)) then nx true ((i + 1 : Nat) : Int) (a ++ [mkB b0 b1 b2 b3 b4 b5 b6 b7] ++ [y]) else nx d ((i + 1 : Nat) : Int) (a ++ [y]) := by
  have hi := (List.getElem?_eq_some_iff.1 hy).1
  have h6 : (i : Int) < (l.length : Int) := by omega
  have h4 : IntKind.i64.wrap ((i : Int) + 1) = ((i + 1 : Nat) : Int) := w64 (by omega) (by omega)
  have hyy := q9i hf
  unfold mkB at hyy
  unfold qgb
  rw [qb7g l d i b0 b1 b2 b3 b4 b5 b6 b7 a _ hy hf (by omega), decide_eq_true h6]
  simp only [cond_t, hd_self, Bool.and_self, ixB_nat, hy, oB_s, hf, h4, hyy]
  rw [q9j y (a := a) (by omega), q9j y (a := a ++ [mkB b0 b1 b2 b3 b4 b5 b6 b7]) (by simp; omega)]
theorem qb77 (l : List AV) (hl : qcc l) (hn : l.length ≤ 100000) (b0 : Bool) (b1 b2 b3 b4 : Int) (b5 b6 : List UInt8) (b7 : Int) : qvl l b0 b1 b2 b3 b4 b5 b6 b7 = some (insF (mkB b0 b1 b2 b3 b4 b5 b6 b7) l) := by
  rw [qbaf]; unfold q3t
  simp only [hd_nil, List.length_nil, Bool.and_self, cond_t]
  rw [q29]
  have fin : ∀ (kx : Bool → List AV → Option (List AV)), (∀ d a, a.length ≤ 200000 → kx d a = some (bif d then a else a ++ [mkB b0 b1 b2 b3 b4 b5 b6 b7])) →
      qln l b0 b1 b2 b3 b4 b5 b6 b7 kx FU false 0 [] = some (insF (mkB b0 b1 b2 b3 b4 b5 b6 b7) l) := by
    intro kx hkx
    have key := qg7 (σ := Bool × List AV) l hl.1 (fun n i s => qln l b0 b1 b2 b3 b4 b5 b6 b7 kx n s.1 i s.2) (fun i s nx => qgb l s.1 i b0 b1 b2 b3 b4 b5 b6 b7 s.2 (fun d i a => nx i (d, a)) kx) (fun _ _ _ => rfl)
      (fun i s => s.2.length ≤ 2 * i) (fun r s => some (s.2 ++ (bif s.1 then r else insF (mkB b0 b1 b2 b3 b4 b5 b6 b7) r))) ?_ ?_ (false, []) FU (by simp) (qkg (by have := hl.1; omega))
    · simpa using key
    · rintro ⟨d, a⟩ nx hJ
      simp only at hJ ⊢
      unfold qgb
      simp only [Int.lt_irrefl, decide_false, cond_f]
      rw [hkx d a (by omega)]
      cases d <;> simp [insF]
    · rintro i y r ⟨d, a⟩ nx h1 h2 h3 h4 hJ h5
      have hy := hl.2 y (List.mem_of_getElem? h2)
      simp only at hJ ⊢
      rw [qb5w l d i b0 b1 b2 b3 b4 b5 b6 b7 a _ kx h2 hy.1 hn (by omega)]
      have e1 := h5 (true, a ++ [mkB b0 b1 b2 b3 b4 b5 b6 b7] ++ [y]) (by simp; omega)
      have e2 := h5 (d, a ++ [y]) (by simp; omega)
      simp only at e1 e2
      rw [e1, e2]
      rw [qb4u]
      cases d <;> cases decide (cmpY y (mkB b0 b1 b2 b3 b4 b5 b6 b7) > 0) <;> simp
  refine fin _ fun d a ha => ?_
  cases d
  · simp only [Bool.not_false, cond_t, hd_self, cond_f]
    rw [q9j _ (by omega)]
    rfl
  · simp
theorem qb4v (l : List AV) (v : Bool) (hi lo bits : Int) : (qt7 l v hi lo bits).2 = l.any (atP v hi lo bits) := by
  unfold qt7
  cases hf : l.find? (atP v hi lo bits) with
  | none =>
    simp only
    symm
    rw [List.any_eq_false]
    intro y hy
    simpa using List.find?_eq_none.1 hf y hy
  | some y =>
    simp only
    symm
    rw [List.any_eq_true]
    exact ⟨y, List.mem_of_find?_eq_some hf, List.find?_some hf⟩
def addF (l : List AV) (b : AV) : List AV × Int :=
  bif !qye b then ([], 3) else bif !mayB b then ([], 1) else bif l.any (atP (gB b.cells 0) (gI b.cells 1) (gI b.cells 2) (gI b.cells 3)) then ([], 12) else
  bif l.any (qdf b) || occF l (gB b.cells 0) (gI b.cells 1) (gI b.cells 2) (gI b.cells 3) then ([], 24) else bif decide ((l.length : Int) ≥ 512) then ([], 9) else (insF b l, 0)
theorem q4i.may {l : List AV} (ht : q4i l) {y : AV} (hy : y ∈ l) : mayB y = true := by
  obtain ⟨j, hj⟩ := List.getElem?_of_mem hy
  exact (ht j y hj).may
theorem q4i.mis {l : List AV} (ht : q4i l) (b : AV) : l.any (misY b) = l.any (qdf b) := by
  rw [Bool.eq_iff_iff, List.any_eq_true, List.any_eq_true]
  constructor <;> (rintro ⟨z, hz, hb⟩; refine ⟨z, hz, ?_⟩; simpa [qb7f (ht.may hz)] using hb)
theorem qb8p (l : List AV) (hl : qcc l) (hn : l.length ≤ 100000) (ht : q4i l) (b0 : Bool) (b1 b2 b3 b4 : Int) (b5 b6 : List UInt8) (b7 : Int) (hb : qvq (mkB b0 b1 b2 b3 b4 b5 b6 b7)) : q1u l b0 b1 b2 b3 b4 b5 b6 b7 = some (addF l (mkB b0 b1 b2 b3 b4 b5 b6 b7)) := by
  have h1 : qqe b0 b1 b2 b3 b4 b5 b6 b7 = some (qbu1 (mkB b0 b1 b2 b3 b4 b5 b6 b7)) := qb7e (mkB b0 b1 b2 b3 b4 b5 b6 b7) hb
  have h2 : qkr l b0 b1 b2 b3 b4 b5 b6 b7 = some (l.any (misY (mkB b0 b1 b2 b3 b4 b5 b6 b7))) := qb14 l hl (mkB b0 b1 b2 b3 b4 b5 b6 b7)
  rw [qbg1]; unfold q8v addF
  simp only [h1, oB_s, q7g, qy7, h2, qb00 l hl, qbsb, qb3f l hl, qb5v l hl hn, ht.mis]
  rw [show (gB (mkB b0 b1 b2 b3 b4 b5 b6 b7).cells 0) = b0 from rfl, show (gI (mkB b0 b1 b2 b3 b4 b5 b6 b7).cells 1) = b1 from rfl, show (gI (mkB b0 b1 b2 b3 b4 b5 b6 b7).cells 2) = b2 from rfl, show (gI (mkB b0 b1 b2 b3 b4 b5 b6 b7).cells 3) = b3 from rfl]
  unfold qbu1
  cases qye (mkB b0 b1 b2 b3 b4 b5 b6 b7) with
  | false => rfl
  | true =>
    cases mayB (mkB b0 b1 b2 b3 b4 b5 b6 b7) with
    | false => rfl
    | true =>
      simp only [Bool.not_true, cond_f, bne_self_eq_false]
      cases l.any (atP b0 b1 b2 b3) <;> cases l.any (qdf (mkB b0 b1 b2 b3 b4 b5 b6 b7)) <;> cases occF l b0 b1 b2 b3 <;> cases decide ((l.length : Int) ≥ 512) <;> rfl
theorem qb5x (l : List AV) (hl : qcc l) (hn : l.length ≤ 100000) (b0 : Bool) (b1 b2 b3 b4 : Int) (b5 b6 : List UInt8) (b7 : Int) (hb : qvq (mkB b0 b1 b2 b3 b4 b5 b6 b7)) : qvm l b0 b1 b2 b3 b4 b5 b6 b7 = some (addF l (mkB b0 b1 b2 b3 b4 b5 b6 b7)) := by
  have h1 : qnc b0 b1 b2 b3 b4 b5 b6 b7 = some (mayB (mkB b0 b1 b2 b3 b4 b5 b6 b7)) := qb6k (mkB b0 b1 b2 b3 b4 b5 b6 b7) hb
  have h2 : ∀ z, qii b0 b1 b2 b3 b4 b5 b6 b7 (gB z.cells 0) (gI z.cells 1) (gI z.cells 2) (gI z.cells 3) (gI z.cells 4) (gS z.cells 5) (gS z.cells 6) (gI z.cells 7) = some (qdf (mkB b0 b1 b2 b3 b4 b5 b6 b7) z) := fun z => qb0z (mkB b0 b1 b2 b3 b4 b5 b6 b7) z hb
  rw [qbag]; unfold q3v addF
  have lp : ∀ kx : Unit → Option (List AV × Int), qnm l b0 b1 b2 b3 b4 b5 b6 b7 kx FU 0 = bif l.any (fun z => qdf (mkB b0 b1 b2 b3 b4 b5 b6 b7) z || qhb (gB z.cells 0) (gI z.cells 1) (gI z.cells 2) (gI z.cells 3) b0 b1 b2 b3) then some ([], 24) else kx () := by
    intro kx
    rw [q3a, qqr l hl.1 (qoy l b0 b1 b2 b3 b4 b5 b6 b7 kx) (fun i nx => qhy l i b0 b1 b2 b3 b4 b5 b6 b7 nx kx) (fun _ _ => rfl) (fun r => bif r.any (fun z => qdf (mkB b0 b1 b2 b3 b4 b5 b6 b7) z || qhb (gB z.cells 0) (gI z.cells 1) (gI z.cells 2) (gI z.cells 3) b0 b1 b2 b3) then some ([], 24) else kx ())]
    · intro nx; simp [qhy]
    · intro i y r nx g1 g2 g3 g4 g5
      have hy := hl.2 y (List.mem_of_getElem? g2)
      have g6 : (i : Int) < (l.length : Int) := by omega
      unfold qhy
      simp only [g6, decide_true, cond_t, ixB_nat, g2, oB_s, hy.1, h2, qbze _ _ _ _ _ _ _ _ hy.2.1 hy.2.2.1, g4, g5, List.any_cons]
      cases qdf (mkB b0 b1 b2 b3 b4 b5 b6 b7) y <;> cases qhb (gB y.cells 0) (gI y.cells 1) (gI y.cells 2) (gI y.cells 3) b0 b1 b2 b3 <;> simp
  simp only [q0d, oB_s, h1, qbm8 l hl, qb4v, lp, qb77 l hl hn]
  rw [show (gB (mkB b0 b1 b2 b3 b4 b5 b6 b7).cells 0) = b0 from rfl, show (gI (mkB b0 b1 b2 b3 b4 b5 b6 b7).cells 1) = b1 from rfl, show (gI (mkB b0 b1 b2 b3 b4 b5 b6 b7).cells 2) = b2 from rfl, show (gI (mkB b0 b1 b2 b3 b4 b5 b6 b7).cells 3) = b3 from rfl]
  rw [show qye (mkB b0 b1 b2 b3 b4 b5 b6 b7) = qdy b0 b1 b2 b3 from rfl]
  have ho : l.any (fun z => qdf (mkB b0 b1 b2 b3 b4 b5 b6 b7) z || qhb (gB z.cells 0) (gI z.cells 1) (gI z.cells 2) (gI z.cells 3) b0 b1 b2 b3) = (l.any (qdf (mkB b0 b1 b2 b3 b4 b5 b6 b7)) || occF l b0 b1 b2 b3) := by
    unfold occF
    clear hl hn lp
    induction l with
    | nil => rfl
    | cons y r ih => simp only [List.any_cons, ih]; cases qdf (mkB b0 b1 b2 b3 b4 b5 b6 b7) y <;> cases qhb (gB y.cells 0) (gI y.cells 1) (gI y.cells 2) (gI y.cells 3) b0 b1 b2 b3 <;> simp
  rw [ho]
  cases qdy b0 b1 b2 b3 <;> simp only [Bool.not_true, Bool.not_false, cond_t, cond_f]
  cases mayB (mkB b0 b1 b2 b3 b4 b5 b6 b7) <;> simp only [Bool.not_true, Bool.not_false, cond_t, cond_f]
  cases l.any (atP b0 b1 b2 b3) <;> simp only [cond_t, cond_f]
  cases (l.any (qdf (mkB b0 b1 b2 b3 b4 b5 b6 b7)) || occF l b0 b1 b2 b3) <;> simp only [cond_t, cond_f]
  cases decide ((l.length : Int) ≥ 512) <;> rfl
end Go.Proofs.Ytmfghgaboaocgaa.Dn
