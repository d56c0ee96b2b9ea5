/- Tables of blocks: what Add and Remove answer, the program's and the reference's. -/
import Derived.Test.YtmjdngnagiloeaaBgLw46c
set_option linter.all false
namespace Go.Proofs.Ytmjdngnagiloeaa.Dn
open Go Go.Pev
set_option linter.unusedVariables false
set_option linter.unusedSimpArgs false
set_option maxRecDepth 4000
def mkB (b0 : Bool) (b1 b2 b3 b4 : Int) (b5 b6 : List UInt8) (b7 : Int) : AV := .agg [(.bool b0), (.int .u64 b1), (.int .u64 b2), (.int .i64 b3), (.int .i64 b4), (.str b5), (.str b6), (.int .i64 b7)]
def mkP (b0 : Bool) (b1 b2 b3 : Int) : AV := .agg [(.bool b0), (.int .u64 b1), (.int .u64 b2), (.int .i64 b3)]
theorem qb8n {cs : List AV} (h : fitC qb cs = true) : cs = (mkB (gB cs 0) (gI cs 1) (gI cs 2) (gI cs 3) (gI cs 4) (gS cs 5) (gS cs 6) (gI cs 7)).cells := by
  have := qva (ls := qb) (by decide) h
  exact this.symm
theorem qf4 {y : AV} (h : fitC qb y.cells = true) : mkB (gB y.cells 0) (gI y.cells 1) (gI y.cells 2) (gI y.cells 3) (gI y.cells 4) (gS y.cells 5) (gS y.cells 6) (gI y.cells 7) = y := by
  have h1 := qb8n h
  cases y with
  | agg cs =>
    simp only [AV.cells] at h1 ⊢
    unfold mkB at h1 ⊢
    simp only [AV.cells] at h1
    rw [← h1]
  | _ =>
    have h2 := congrArg List.length h1
    simp [AV.cells, mkB] at h2
theorem qb4o {y : AV} (h : fitC qb y.cells = true) : blkV y = y := qf4 h
def occF (l : List AV) (v : Bool) (hi lo bits : Int) : Bool := l.any fun y => qgk (gB y.cells 0) (gI y.cells 1) (gI y.cells 2) (gI y.cells 3) v hi lo bits
theorem qbhr {R : Type} (l : List AV) (hl : qbn l) (a0 : Bool) (a1 : Int) (a2 : Int) (a3 : Int) (kr : Int → Bool → Int → Int → Int → Option R) (q : AV → Bool) (hq : ∀ y, qgn y → ∀ kr : Bool → Bool → Int → Int → Int → Option R, qmg (gB y.cells 0) (gI y.cells 1) (gI y.cells 2) (gI y.cells 3) (gI y.cells 4) (gS y.cells 5) (gS y.cells 6) (gI y.cells 7) a0 a1 a2 a3 kr = kr (q y) a0 a1 a2 a3) :
    qbo l a0 a1 a2 a3 kr = kr (idxI q l) a0 a1 a2 a3 := by
  rw [qer]; unfold qdb
  rw [qd4]
  have key := qhg l hl.1 (fun n i (s : Bool × Int × Int × Int) => qb0 l (l.length : Int) (fun c0 c1 c2 c3 => kr (-1 : Int) c0 c1 c2 c3) kr n i s.1 s.2.1 s.2.2.1 s.2.2.2)
    (fun i s nx => q8 l (l.length : Int) i s.1 s.2.1 s.2.2.1 s.2.2.2 (fun i c0 c1 c2 c3 => nx i (c0, c1, c2, c3)) (fun c0 c1 c2 c3 => kr (-1 : Int) c0 c1 c2 c3) kr) (fun _ _ _ => rfl)
    (fun i s => s = (a0, a1, a2, a3)) (fun r s => kr (match idxO q r with | some k => ((l.length - r.length + k : Nat) : Int) | none => -1) a0 a1 a2 a3) ?_ ?_ (a0, a1, a2, a3) FU rfl (qln (by have := hl.1; omega))
  · refine key.trans ?_
    unfold idxI
    cases idxO q l <;> simp
  · intro s nx hs
    subst hs
    simp [q8, idxO]
  · rintro i y r _ nx h1 h2 h3 h4 rfl h5
    have hy := hl.2 y (List.mem_of_getElem? h2)
    have h6 : (i : Int) < (l.length : Int) := by omega
    have hr : r.length = l.length - (i + 1) := by
      have := congrArg List.length h1
      simp at this
      omega
    unfold q8
    simp only [h6, decide_true, cond_t, ixB_nat, h2, oB_s, hy.1, hq y hy, h4]
    unfold idxO
    cases hqq : q y with
    | true =>
      simp only [cond_t, if_true]
      congr 1
      simp
      omega
    | false =>
      simp only [cond_f, Bool.false_eq_true, if_false]
      rw [h5 _ rfl]
      cases idxO q r with
      | none => rfl
      | some k =>
        simp
        congr 1
        omega
theorem qbfp (l : List AV) (hl : qbn l) (v : Bool) (hi lo bits : Int) : qit l v hi lo bits = some (occF l v hi lo bits) := by
  rw [q39]; unfold qvp
  rw [qd6]; unfold qcy
  rw [qbhr l hl _ _ _ _ _ (fun y => qgk (gB y.cells 0) (gI y.cells 1) (gI y.cells 2) (gI y.cells 3) v hi lo bits), qx5]
  · rfl
  · intro z hz kr
    rw [qzp]; unfold qsp
    simp only [qbc9, oB_s]
theorem qb6j (v6 : Bool) (hi lo bits : Int) (w6 : Bool) (whi wlo wbits : Int) (u1 : uok hi) (u2 : uok lo) : qo8 v6 hi lo bits w6 whi wlo wbits = some (qgk v6 hi lo bits w6 whi wlo wbits) := by
  rw [q2n]; unfold qwv qgk
  simp only [qbxk _ _ _ _ _ _ _ _ u1 u2, oB_s]
  rw [Bool.and_comm]
theorem qb02 (l : List AV) (hl : qbn l) (v : Bool) (hi lo bits : Int) : qnd l v hi lo bits = some (occF l v hi lo bits) := by
  rw [q6u]; unfold qxy
  rw [q0c, qqv l hl.1 (qn4 l v hi lo bits fun _ => some false) (fun i nx => qgy l i v hi lo bits nx fun _ => some false) (fun _ _ => rfl) (fun r => some (occF r v hi lo bits))]
  · intro nx; simp [qgy, occF]
  · intro i y r nx h1 h2 h3 h4 h5
    have hy := hl.2 y (List.mem_of_getElem? h2)
    have h6 : (i : Int) < (l.length : Int) := by omega
    unfold qgy
    simp only [h6, decide_true, cond_t, ixB_nat, h2, oB_s, hy.1, qb6j _ _ _ _ _ _ _ _ hy.2.1 hy.2.2.1, h4, h5]
    unfold occF
    rw [List.any_cons]
    cases qgk (gB y.cells 0) (gI y.cells 1) (gI y.cells 2) (gI y.cells 3) v hi lo bits <;> simp
def insF (b : AV) : List AV → List AV
  | [] => [b]
  | y :: r => bif decide (cmpY y b > 0) then b :: y :: r else y :: insF b r
theorem qb4p (b y : AV) (r : List AV) : insF b (y :: r) = bif decide (cmpY y b > 0) then b :: y :: r else y :: insF b r := rfl
theorem qry (b : AV) : ∀ l, (insF b l).length = l.length + 1
  | [] => rfl
  | y :: r => by unfold insF; cases decide (cmpY y b > 0) <;> simp [qry b r]
theorem qb03 {b y : AV} : ∀ {l : List AV}, y ∈ insF b l ↔ y = b ∨ y ∈ l
  | [] => by simp [insF]
  | z :: r => by
    unfold insF
    cases decide (cmpY z b > 0)
    · simp only [cond_f, List.mem_cons, qb03 (l := r)]
      constructor
      · rintro (h | h | h)
        · exact .inr (.inl h)
        · exact .inl h
        · exact .inr (.inr h)
      · rintro (h | h | h)
        · exact .inr (.inl h)
        · exact .inl h
        · exact .inr (.inr h)
    · simp
theorem qb04 (b : AV) : ∀ l, insF b l = l.take ((idxO (fun y => decide (cmpY y b > 0)) l).getD l.length) ++ [b] ++ l.drop ((idxO (fun y => decide (cmpY y b > 0)) l).getD l.length)
  | [] => rfl
  | y :: r => by
    unfold insF idxO
    have ih := qb04 b r
    cases h : decide (cmpY y b > 0) with
    | true => simp
    | false =>
      simp only [cond_f, Bool.false_eq_true, if_false]
      rw [ih]
      cases idxO (fun y => decide (cmpY y b > 0)) r <;> simp
theorem qbob {R : Type} (l : List AV) (hl : qbn l) (a0 : Bool) (a1 : Int) (a2 : Int) (a3 : Int) (a4 : Int) (a5 : List UInt8) (a6 : List UInt8) (a7 : Int) (kr : Int → Bool → Int → Int → Int → Int → List UInt8 → List UInt8 → Int → Option R) (q : AV → Bool) (hq : ∀ y, qgn y → ∀ kr : Bool → Bool → Int → Int → Int → Int → List UInt8 → List UInt8 → Int → Option R, qoo (gB y.cells 0) (gI y.cells 1) (gI y.cells 2) (gI y.cells 3) (gI y.cells 4) (gS y.cells 5) (gS y.cells 6) (gI y.cells 7) a0 a1 a2 a3 a4 a5 a6 a7 kr = kr (q y) a0 a1 a2 a3 a4 a5 a6 a7) :
    qbr l a0 a1 a2 a3 a4 a5 a6 a7 kr = kr (idxI q l) a0 a1 a2 a3 a4 a5 a6 a7 := by
  rw [qez]; unfold qdg
  rw [qef]
  have key := qhg l hl.1 (fun n i (s : Bool × Int × Int × Int × Int × (List UInt8) × (List UInt8) × Int) => qce l (l.length : Int) (fun c0 c1 c2 c3 c4 c5 c6 c7 => kr (-1 : Int) c0 c1 c2 c3 c4 c5 c6 c7) kr n i s.1 s.2.1 s.2.2.1 s.2.2.2.1 s.2.2.2.2.1 s.2.2.2.2.2.1 s.2.2.2.2.2.2.1 s.2.2.2.2.2.2.2)
    (fun i s nx => qbe l (l.length : Int) i s.1 s.2.1 s.2.2.1 s.2.2.2.1 s.2.2.2.2.1 s.2.2.2.2.2.1 s.2.2.2.2.2.2.1 s.2.2.2.2.2.2.2 (fun i c0 c1 c2 c3 c4 c5 c6 c7 => nx i (c0, c1, c2, c3, c4, c5, c6, c7)) (fun c0 c1 c2 c3 c4 c5 c6 c7 => kr (-1 : Int) c0 c1 c2 c3 c4 c5 c6 c7) kr) (fun _ _ _ => rfl)
    (fun i s => s = (a0, a1, a2, a3, a4, a5, a6, a7)) (fun r s => kr (match idxO q r with | some k => ((l.length - r.length + k : Nat) : Int) | none => -1) a0 a1 a2 a3 a4 a5 a6 a7) ?_ ?_ (a0, a1, a2, a3, a4, a5, a6, a7) FU rfl (qln (by have := hl.1; omega))
  · refine key.trans ?_
    unfold idxI
    cases idxO q l <;> simp
  · intro s nx hs
    subst hs
    simp [qbe, idxO]
  · rintro i y r _ nx h1 h2 h3 h4 rfl h5
    have hy := hl.2 y (List.mem_of_getElem? h2)
    have h6 : (i : Int) < (l.length : Int) := by omega
    have hr : r.length = l.length - (i + 1) := by
      have := congrArg List.length h1
      simp at this
      omega
    unfold qbe
    simp only [h6, decide_true, cond_t, ixB_nat, h2, oB_s, hy.1, hq y hy, h4]
    unfold idxO
    cases hqq : q y with
    | true =>
      simp only [cond_t, if_true]
      congr 1
      simp
      omega
    | false =>
      simp only [cond_f, Bool.false_eq_true, if_false]
      rw [h5 _ rfl]
      cases idxO q r with
      | none => rfl
      | some k =>
        simp
        congr 1
        omega
theorem qbfq (l : List AV) (hl : qbn l) (hn : l.length ≤ 100000) (b0 : Bool) (b1 b2 b3 b4 : Int) (b5 b6 : List UInt8) (b7 : Int) : qg8 l b0 b1 b2 b3 b4 b5 b6 b7 = some (insF (mkB b0 b1 b2 b3 b4 b5 b6 b7) l) := by
  rw [q72]; unfold qzs
  rw [qbob l hl _ _ _ _ _ _ _ _ _ (fun y => decide (cmpY y (mkB b0 b1 b2 b3 b4 b5 b6 b7) > 0))]
  · have hc : qbx l = some l := by
      unfold qbx qbky
      have : l.length * 80 ≤ 140737488355328 := by omega
      simp [this]
    rw [q1m]; unfold qub
    have fin : ∀ k : Nat, k ≤ l.length → q3d 80 l (k : Int) [mkB b0 b1 b2 b3 b4 b5 b6 b7] = some (l.take k ++ [mkB b0 b1 b2 b3 b4 b5 b6 b7] ++ l.drop k) := fun k hk => by
      unfold q3d
      have : (l.length + 1) * 80 ≤ 140737488355328 := by omega
      simp [hk, this]
    show (bif decide (idxI (fun y => decide (cmpY y (mkB b0 b1 b2 b3 b4 b5 b6 b7) > 0)) l < 0) then (oB (qbx l) fun r11 => (bif hd r11 r11.length then (bif hd [mkB b0 b1 b2 b3 b4 b5 b6 b7] ([mkB b0 b1 b2 b3 b4 b5 b6 b7].length) then (oB (q3d 80 r11 (l.length : Int) [mkB b0 b1 b2 b3 b4 b5 b6 b7]) fun r12 => (bif hd r12 r12.length then (some r12) else none)) else none) else none)) else (oB (qbx l) fun r11 => (bif hd r11 r11.length then (bif hd [mkB b0 b1 b2 b3 b4 b5 b6 b7] ([mkB b0 b1 b2 b3 b4 b5 b6 b7].length) then (oB (q3d 80 r11 (idxI (fun y => decide (cmpY y (mkB b0 b1 b2 b3 b4 b5 b6 b7) > 0)) l) [mkB b0 b1 b2 b3 b4 b5 b6 b7]) fun r12 => (bif hd r12 r12.length then (some r12) else none)) else none) else none))) = _
    rw [qb04, hc]
    unfold idxI
    cases hq : idxO (fun y => decide (cmpY y (mkB b0 b1 b2 b3 b4 b5 b6 b7) > 0)) l with
    | none =>
      simp only [oB_s, hd_self, cond_t, Option.getD_none]
      rw [fin l.length (Nat.le_refl _)]
      simp
    | some k =>
      obtain ⟨y, hy, _⟩ := qyw l k hq
      have hk := (List.getElem?_eq_some_iff.1 hy).1
      have h0 : ¬ ((k : Int) < 0) := by omega
      simp only [oB_s, hd_self, cond_t, h0, decide_false, cond_f, Option.getD_some]
      rw [fin k (by omega)]
      simp
  · intro z hz kr
    rw [q4b]; unfold qvu
    simp only [qb4m, oB_s]
    rfl
theorem q48 {R : Type} {a : List AV} (x : AV) (h : (a.length + 1) * 80 ≤ 140737488355328) (k : Option R) : (bif decide ((a.length + ([x] : List AV).length) * 80 ≤ 140737488355328) then k else none) = k := by
  rw [show ([x] : List AV).length = 1 from rfl, decide_eq_true h]; rfl
theorem qb7c (l : List AV) (d : Bool) (i : Nat) (b0 : Bool) (b1 b2 b3 b4 : Int) (b5 b6 : List UInt8) (b7 : Int) (a : List AV) (kn : Bool → List AV → Option (List AV)) {y : AV} (hy : l[i]? = some y) (hf : fitC qb y.cells = true) (ha : (a.length + 1) * 80 ≤ 140737488355328) :
    qns l d (i : Int) b0 b1 b2 b3 b4 b5 b6 b7 a kn = bif (!d && decide (cmpY y (mkB b0 b1 b2 b3 b4 b5 b6 b7) > 0)) then kn true (a ++ [mkB b0 b1 b2 b3 b4 b5 b6 b7]) else kn d a := by
  rw [q1v]; unfold qul
  rw [q1t]; unfold quk
  simp only [hd_self, Bool.and_self, cond_t, ixB_nat, hy, oB_s, hf, qb4k]
  rw [show decide (cmpP (gB y.cells 0) (gI y.cells 1) (gI y.cells 2) (gI y.cells 3) b0 b1 b2 b3 > 0) = decide (cmpY y (mkB b0 b1 b2 b3 b4 b5 b6 b7) > 0) from rfl]
  rw [q48 _ ha]
  cases d <;> cases decide (cmpY y (mkB b0 b1 b2 b3 b4 b5 b6 b7) > 0) <;> rfl
theorem qb5s (l : List AV) (d : Bool) (i : Nat) (b0 : Bool) (b1 b2 b3 b4 : Int) (b5 b6 : List UInt8) (b7 : Int) (a : List AV) (nx : Bool → Int → List AV → Option (List AV)) (kx : Bool → List AV → Option (List AV)) {y : AV} (hy : l[i]? = some y) (hf : fitC qb y.cells = true) (hl : l.length ≤ 100000) (ha : (a.length + 2) * 80 ≤ 140737488355328) :
    qfw l d (i : Int) b0 b1 b2 b3 b4 b5 b6 b7 a nx kx = bif (!d && decide (cmpY y (mkB b0 b1 b2 b3 b4 b5 b6 b7) > 0)) then nx true ((i + 1 : Nat) : Int) (a ++ [mkB b0 b1 b2 b3 b4 b5 b6 b7] ++ [y]) else nx d ((i + 1 : Nat) : Int) (a ++ [y]) := by
  have hi := (List.getElem?_eq_some_iff.1 hy).1
  have h6 : (i : Int) < (l.length : Int) := by omega
  have h4 : IntKind.i64.wrap ((i : Int) + 1) = ((i + 1 : Nat) : Int) := w64 (by omega) (by omega)
  have hyy := qf4 hf
  unfold mkB at hyy
  unfold qfw
  rw [qb7c l d i b0 b1 b2 b3 b4 b5 b6 b7 a _ hy hf (by omega), decide_eq_true h6]
  simp only [cond_t, hd_self, Bool.and_self, ixB_nat, hy, oB_s, hf, h4, hyy]
  rw [q48 y (a := a) (by omega), q48 y (a := a ++ [mkB b0 b1 b2 b3 b4 b5 b6 b7]) (by simp; omega)]
theorem qbuf (l : List AV) (hl : qbn l) (hn : l.length ≤ 100000) (b0 : Bool) (b1 b2 b3 b4 : Int) (b5 b6 : List UInt8) (b7 : Int) : qiy l b0 b1 b2 b3 b4 b5 b6 b7 = some (insF (mkB b0 b1 b2 b3 b4 b5 b6 b7) l) := by
  rw [q94]; unfold q2w
  simp only [hd_nil, List.length_nil, Bool.and_self, cond_t]
  rw [q1w]
  have fin : ∀ (kx : Bool → List AV → Option (List AV)), (∀ d a, a.length ≤ 200000 → kx d a = some (bif d then a else a ++ [mkB b0 b1 b2 b3 b4 b5 b6 b7])) →
      qlj l b0 b1 b2 b3 b4 b5 b6 b7 kx FU false 0 [] = some (insF (mkB b0 b1 b2 b3 b4 b5 b6 b7) l) := by
    intro kx hkx
    have key := qhg (σ := Bool × List AV) l hl.1 (fun n i s => qlj l b0 b1 b2 b3 b4 b5 b6 b7 kx n s.1 i s.2) (fun i s nx => qfw l s.1 i b0 b1 b2 b3 b4 b5 b6 b7 s.2 (fun d i a => nx i (d, a)) kx) (fun _ _ _ => rfl)
      (fun i s => s.2.length ≤ 2 * i) (fun r s => some (s.2 ++ (bif s.1 then r else insF (mkB b0 b1 b2 b3 b4 b5 b6 b7) r))) ?_ ?_ (false, []) FU (by simp) (qln (by have := hl.1; omega))
    · simpa using key
    · rintro ⟨d, a⟩ nx hJ
      simp only at hJ ⊢
      unfold qfw
      simp only [Int.lt_irrefl, decide_false, cond_f]
      rw [hkx d a (by omega)]
      cases d <;> simp [insF]
    · rintro i y r ⟨d, a⟩ nx h1 h2 h3 h4 hJ h5
      have hy := hl.2 y (List.mem_of_getElem? h2)
      simp only at hJ ⊢
      rw [qb5s l d i b0 b1 b2 b3 b4 b5 b6 b7 a _ kx h2 hy.1 hn (by omega)]
      have e1 := h5 (true, a ++ [mkB b0 b1 b2 b3 b4 b5 b6 b7] ++ [y]) (by simp; omega)
      have e2 := h5 (d, a ++ [y]) (by simp; omega)
      simp only at e1 e2
      rw [e1, e2]
      rw [qb4p]
      cases d <;> cases decide (cmpY y (mkB b0 b1 b2 b3 b4 b5 b6 b7) > 0) <;> simp
  refine fin _ fun d a ha => ?_
  cases d
  · simp only [Bool.not_false, cond_t, hd_self, cond_f]
    rw [q48 _ (by omega)]
    rfl
  · simp
def remF (l : List AV) (v : Bool) (hi lo bits : Int) : List AV := l.filter fun y => !atP v hi lo bits y
theorem q7c (l : List AV) (hl : qbn l) (hn : l.length ≤ 100000) (v : Bool) (hi lo bits : Int) : qfy l v hi lo bits = some (remF l v hi lo bits) := by
  rw [q1z]; unfold qup
  simp only [hd_nil, List.length_nil, Bool.and_self, cond_t]
  rw [qwr]
  have key := qhg (σ := List AV) l hl.1 (fun n i s => ql0 l v hi lo bits (fun a0q1 => bif hd a0q1 a0q1.length then some a0q1 else none) n i s) (fun i s nx => qfr l i v hi lo bits s nx (fun a0q1 => bif hd a0q1 a0q1.length then some a0q1 else none)) (fun _ _ _ => rfl)
    (fun i s => s.length ≤ i) (fun r s => some (s ++ remF r v hi lo bits)) ?_ ?_ [] FU (by simp) (qln (by have := hl.1; omega))
  · simpa using key
  · intro a nx hJ; simp [qfr, remF]
  · intro i y r a nx h1 h2 h3 h4 hJ h5
    have hy := hl.2 y (List.mem_of_getElem? h2)
    have h6 : (i : Int) < (l.length : Int) := by omega
    have hyy := qf4 hy.1
    unfold mkB at hyy
    have g1 : (a.length + 1) * 80 ≤ 140737488355328 := by omega
    unfold qfr
    simp only [h6, decide_true, cond_t, hd_self, ixB_nat, h2, oB_s, hy.1, h4, hyy, List.length_cons, List.length_nil, Nat.zero_add, g1]
    rw [show ((gB y.cells 0 == v) && ((gI y.cells 1 == hi) && ((gI y.cells 2 == lo) && ((gI y.cells 3 == bits) && true)))) = atP v hi lo bits y from rfl]
    unfold remF
    cases hq : atP v hi lo bits y with
    | true =>
      simp only [Bool.not_true, cond_f]
      rw [h5 a (by omega)]
      simp [hq, remF]
    | false =>
      simp only [Bool.not_false, cond_t, hd_one]
      rw [h5 (a ++ [y]) (by simp; omega)]
      simp [hq, remF]
theorem qbug {q : AV → Bool} : ∀ (l : List AV) (k : Nat), idxO q l = some k → (∀ (j : Nat) (y : AV), k < j → l[j]? = some y → q y = false) → l.take k ++ l.drop (k + 1) = l.filter fun y => !q y
  | [], k, h, _ => by simp [idxO] at h
  | y :: r, k, h, hu => by
    unfold idxO at h
    cases hq : q y with
    | true =>
      simp [hq] at h
      subst h
      simp only [List.take_zero, List.drop_succ_cons, List.drop_zero, List.nil_append]
      rw [List.filter_cons, hq]
      simp only [Bool.not_true, Bool.false_eq_true, if_false]
      refine (List.filter_eq_self.2 fun z hz => ?_).symm
      obtain ⟨j, hj⟩ := List.getElem?_of_mem hz
      rw [hu (j + 1) z (by omega) (by simpa using hj)]; rfl
    | false =>
      simp [hq] at h
      obtain ⟨k', h1, rfl⟩ := h
      have ih := qbug r k' h1 (fun j z hj hz => hu (j + 1) z (by omega) (by simpa using hz))
      rw [List.filter_cons, hq]
      simp only [Bool.not_false, if_true, List.take_succ_cons, List.drop_succ_cons, List.cons_append]
      rw [ih]
theorem qi1.uniq {l : List AV} (h : qi1 l) {v : Bool} {hi lo bits : Int} {i j : Nat} {y z : AV} (hy : l[i]? = some y) (hz : l[j]? = some z) (h1 : atP v hi lo bits y = true) (h2 : atP v hi lo bits z = true) : i = j := by
  have key : ∀ {i j : Nat} {y z : AV}, l[i]? = some y → l[j]? = some z → atP v hi lo bits y = true → atP v hi lo bits z = true → ¬ i < j := fun hy hz h1 h2 hij => by
    have := h.sorted _ _ hy _ _ hij hz
    obtain ⟨a, b, c, d⟩ := qbc8.1 h1
    obtain ⟨a', b', c', d'⟩ := qbc8.1 h2
    unfold ltY at this
    rw [a, b, c, d, a', b', c', d'] at this
    exact qm3 this
  have a := key hy hz h1 h2
  have b := key hz hy h2 h1
  omega
theorem qb4q (l : List AV) (hn : l.length ≤ 100000) (k : Nat) (hk : k < l.length) : qgg l (k : Int) = some (l.take k ++ l.drop (k + 1)) := by
  rw [q6d]; unfold qxo
  have hc : qbx l = some l := by
    unfold qbx qbky
    have : l.length * 80 ≤ 140737488355328 := by omega
    simp [this]
  have hw : IntKind.i64.wrap ((k : Int) + 1) = ((k + 1 : Nat) : Int) := w64 (by omega) (by omega)
  have hd' : qbc6 l (k : Int) ((k + 1 : Nat) : Int) = some (l.take k ++ l.drop (k + 1)) := by
    unfold qbc6
    have : ((0 : Int) ≤ (k : Int) ∧ (k : Int) < ((k + 1 : Nat) : Int) ∧ ((k + 1 : Nat) : Int) ≤ (l.length : Int) ∧ l.length ≤ 9223372036854775807) := ⟨by omega, by omega, by omega, by omega⟩
    simp only [this, and_self, decide_true, cond_t, Int.toNat_natCast]
  simp only [hc, oB_s, hd_self, cond_t, hw, hd']
theorem q7d (l : List AV) (hn : l.length ≤ 100000) (ht : qi1 l) {v : Bool} {hi lo bits : Int} {k : Nat} (hk : idxO (atP v hi lo bits) l = some k) : qgg l (k : Int) = some (remF l v hi lo bits) := by
  obtain ⟨y, hy, hf⟩ := qyw l k hk
  rw [qb4q l hn k (List.getElem?_eq_some_iff.1 hy).1]
  congr 1
  have hq := List.find?_some hf
  refine qbug l k hk fun j z hj hz => ?_
  rw [Bool.eq_false_iff]
  intro h2
  have := ht.uniq hy hz hq h2
  omega
def qyx (l : List AV) (v : Bool) (hi lo bits : Int) : List AV × Int :=
  bif !(l.any (atP v hi lo bits)) then ([], 11) else bif occF l v hi lo bits then ([], 25) else (remF l v hi lo bits, 0)
theorem qb2k (q : AV → Bool) (l : List AV) : decide (idxI q l < 0) = !(l.any q) := by
  rw [← qx5, Bool.eq_iff_iff]
  simp
theorem qblq {q : AV → Bool} {l : List AV} (h : l.any q = true) : ∃ k, idxO q l = some k ∧ idxI q l = (k : Int) := by
  rw [← qx5] at h
  unfold idxI at *
  cases hq : idxO q l with
  | none => rw [hq] at h; simp at h
  | some k => exact ⟨k, rfl, rfl⟩
theorem qb05 (l : List AV) (hl : qbn l) (hn : l.length ≤ 100000) (ht : qi1 l) (v : Bool) (hi lo bits : Int) : ql9 l v hi lo bits = some (qyx l v hi lo bits) := by
  rw [q71]; unfold qzq qyx
  simp only [q3e l hl, oB_s, qbfp l hl, qb2k]
  cases ha : l.any (atP v hi lo bits) with
  | false => rfl
  | true =>
    obtain ⟨k, h1, h2⟩ := qblq ha
    simp only [Bool.not_true, cond_f]
    cases occF l v hi lo bits with
    | true => rfl
    | false =>
      simp only [cond_f, h2, q7d l hn ht h1, oB_s]
theorem qjr (l : List AV) (v : Bool) (hi lo bits : Int) : (qvb l v hi lo bits).2 = l.any (atP v hi lo bits) := by
  unfold qvb
  cases hf : l.find? (atP v hi lo bits) with
  | none =>
    simp only
    symm
    rw [List.any_eq_false]
    intro y hy
    simpa using List.find?_eq_none.1 hf y hy
  | some y =>
    simp only
    symm
    rw [List.any_eq_true]
    exact ⟨y, List.mem_of_find?_eq_some hf, List.find?_some hf⟩
theorem qb4r (l : List AV) (hl : qbn l) (hn : l.length ≤ 100000) (v : Bool) (hi lo bits : Int) : qo2 l v hi lo bits = some (qyx l v hi lo bits) := by
  rw [q4u]; unfold qv6 qyx
  simp only [qblp l hl, oB_s, qb02 l hl, qjr, q7c l hl hn]
  cases l.any (atP v hi lo bits) <;> simp <;> cases occF l v hi lo bits <;> simp
def addF (l : List AV) (b : AV) : List AV × Int :=
  bif !qp3 b then ([], 3) else bif !mayB b then ([], 1) else bif l.any (atP (gB b.cells 0) (gI b.cells 1) (gI b.cells 2) (gI b.cells 3)) then ([], 12) else
  bif l.any (qc1 b) || occF l (gB b.cells 0) (gI b.cells 1) (gI b.cells 2) (gI b.cells 3) then ([], 24) else bif decide ((l.length : Int) ≥ 512) then ([], 9) else (insF b l, 0)
theorem qi1.may {l : List AV} (ht : qi1 l) {y : AV} (hy : y ∈ l) : mayB y = true := by
  obtain ⟨j, hj⟩ := List.getElem?_of_mem hy
  exact (ht j y hj).may
theorem qi1.mis {l : List AV} (ht : qi1 l) (b : AV) : l.any (misY b) = l.any (qc1 b) := by
  rw [Bool.eq_iff_iff, List.any_eq_true, List.any_eq_true]
  constructor <;> (rintro ⟨z, hz, hb⟩; refine ⟨z, hz, ?_⟩; simpa [qb2j (ht.may hz)] using hb)
theorem qb6k (l : List AV) (hl : qbn l) (hn : l.length ≤ 100000) (ht : qi1 l) (b0 : Bool) (b1 b2 b3 b4 : Int) (b5 b6 : List UInt8) (b7 : Int) (hb : qgn (mkB b0 b1 b2 b3 b4 b5 b6 b7)) : qrb l b0 b1 b2 b3 b4 b5 b6 b7 = some (addF l (mkB b0 b1 b2 b3 b4 b5 b6 b7)) := by
  have h1 : qng b0 b1 b2 b3 b4 b5 b6 b7 = some (q00 (mkB b0 b1 b2 b3 b4 b5 b6 b7)) := qb2i (mkB b0 b1 b2 b3 b4 b5 b6 b7) hb
  have h2 : qhb l b0 b1 b2 b3 b4 b5 b6 b7 = some (l.any (misY (mkB b0 b1 b2 b3 b4 b5 b6 b7))) := qbor l hl (mkB b0 b1 b2 b3 b4 b5 b6 b7)
  rw [qbfw]; unfold q74 addF
  simp only [h1, oB_s, q6g, qxq, h2, q3e l hl, qx5, qbfp l hl, qbfq l hl hn, ht.mis]
  rw [show (gB (mkB b0 b1 b2 b3 b4 b5 b6 b7).cells 0) = b0 from rfl, show (gI (mkB b0 b1 b2 b3 b4 b5 b6 b7).cells 1) = b1 from rfl, show (gI (mkB b0 b1 b2 b3 b4 b5 b6 b7).cells 2) = b2 from rfl, show (gI (mkB b0 b1 b2 b3 b4 b5 b6 b7).cells 3) = b3 from rfl]
  unfold q00
  cases qp3 (mkB b0 b1 b2 b3 b4 b5 b6 b7) with
  | false => rfl
  | true =>
    cases mayB (mkB b0 b1 b2 b3 b4 b5 b6 b7) with
    | false => rfl
    | true =>
      simp only [Bool.not_true, cond_f, bne_self_eq_false]
      cases l.any (atP b0 b1 b2 b3) <;> cases l.any (qc1 (mkB b0 b1 b2 b3 b4 b5 b6 b7)) <;> cases occF l b0 b1 b2 b3 <;> cases decide ((l.length : Int) ≥ 512) <;> rfl
theorem qb5t (l : List AV) (hl : qbn l) (hn : l.length ≤ 100000) (b0 : Bool) (b1 b2 b3 b4 : Int) (b5 b6 : List UInt8) (b7 : Int) (hb : qgn (mkB b0 b1 b2 b3 b4 b5 b6 b7)) : qum l b0 b1 b2 b3 b4 b5 b6 b7 = some (addF l (mkB b0 b1 b2 b3 b4 b5 b6 b7)) := by
  have h1 : qnl b0 b1 b2 b3 b4 b5 b6 b7 = some (mayB (mkB b0 b1 b2 b3 b4 b5 b6 b7)) := qb6i (mkB b0 b1 b2 b3 b4 b5 b6 b7) hb
  have h2 : ∀ z, qim b0 b1 b2 b3 b4 b5 b6 b7 (gB z.cells 0) (gI z.cells 1) (gI z.cells 2) (gI z.cells 3) (gI z.cells 4) (gS z.cells 5) (gS z.cells 6) (gI z.cells 7) = some (qc1 (mkB b0 b1 b2 b3 b4 b5 b6 b7) z) := fun z => qb0x (mkB b0 b1 b2 b3 b4 b5 b6 b7) z hb
  rw [q95]; unfold q2y addF
  have lp : ∀ kx : Unit → Option (List AV × Int), qnu l b0 b1 b2 b3 b4 b5 b6 b7 kx FU 0 = bif l.any (fun z => qc1 (mkB b0 b1 b2 b3 b4 b5 b6 b7) z || qgk (gB z.cells 0) (gI z.cells 1) (gI z.cells 2) (gI z.cells 3) b0 b1 b2 b3) then some ([], 24) else kx () := by
    intro kx
    rw [q1x, qqv l hl.1 (qo0 l b0 b1 b2 b3 b4 b5 b6 b7 kx) (fun i nx => qhu l i b0 b1 b2 b3 b4 b5 b6 b7 nx kx) (fun _ _ => rfl) (fun r => bif r.any (fun z => qc1 (mkB b0 b1 b2 b3 b4 b5 b6 b7) z || qgk (gB z.cells 0) (gI z.cells 1) (gI z.cells 2) (gI z.cells 3) b0 b1 b2 b3) then some ([], 24) else kx ())]
    · intro nx; simp [qhu]
    · intro i y r nx g1 g2 g3 g4 g5
      have hy := hl.2 y (List.mem_of_getElem? g2)
      have g6 : (i : Int) < (l.length : Int) := by omega
      unfold qhu
      simp only [g6, decide_true, cond_t, ixB_nat, g2, oB_s, hy.1, h2, qb6j _ _ _ _ _ _ _ _ hy.2.1 hy.2.2.1, g4, g5, List.any_cons]
      cases qc1 (mkB b0 b1 b2 b3 b4 b5 b6 b7) y <;> cases qgk (gB y.cells 0) (gI y.cells 1) (gI y.cells 2) (gI y.cells 3) b0 b1 b2 b3 <;> simp
  simp only [q45, oB_s, h1, qblp l hl, qjr, lp, qbuf l hl hn]
  rw [show (gB (mkB b0 b1 b2 b3 b4 b5 b6 b7).cells 0) = b0 from rfl, show (gI (mkB b0 b1 b2 b3 b4 b5 b6 b7).cells 1) = b1 from rfl, show (gI (mkB b0 b1 b2 b3 b4 b5 b6 b7).cells 2) = b2 from rfl, show (gI (mkB b0 b1 b2 b3 b4 b5 b6 b7).cells 3) = b3 from rfl]
  rw [show qp3 (mkB b0 b1 b2 b3 b4 b5 b6 b7) = qdz b0 b1 b2 b3 from rfl]
  have ho : l.any (fun z => qc1 (mkB b0 b1 b2 b3 b4 b5 b6 b7) z || qgk (gB z.cells 0) (gI z.cells 1) (gI z.cells 2) (gI z.cells 3) b0 b1 b2 b3) = (l.any (qc1 (mkB b0 b1 b2 b3 b4 b5 b6 b7)) || occF l b0 b1 b2 b3) := by
    unfold occF
    clear hl hn lp
    induction l with
    | nil => rfl
    | cons y r ih => simp only [List.any_cons, ih]; cases qc1 (mkB b0 b1 b2 b3 b4 b5 b6 b7) y <;> cases qgk (gB y.cells 0) (gI y.cells 1) (gI y.cells 2) (gI y.cells 3) b0 b1 b2 b3 <;> simp
  rw [ho]
  cases qdz b0 b1 b2 b3 <;> simp only [Bool.not_true, Bool.not_false, cond_t, cond_f]
  cases mayB (mkB b0 b1 b2 b3 b4 b5 b6 b7) <;> simp only [Bool.not_true, Bool.not_false, cond_t, cond_f]
  cases l.any (atP b0 b1 b2 b3) <;> simp only [cond_t, cond_f]
  cases (l.any (qc1 (mkB b0 b1 b2 b3 b4 b5 b6 b7)) || occF l b0 b1 b2 b3) <;> simp only [cond_t, cond_f]
  cases decide ((l.length : Int) ≥ 512) <;> rfl
end Go.Proofs.Ytmjdngnagiloeaa.Dn
