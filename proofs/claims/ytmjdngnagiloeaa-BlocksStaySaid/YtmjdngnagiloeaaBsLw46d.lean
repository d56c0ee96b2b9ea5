/- Tables of blocks: what Add and Remove answer, the program's and the reference's. -/
import Derived.Test.YtmjdngnagiloeaaBsLw46c
set_option linter.all false
namespace Go.Proofs.Ytmjdngnagiloeaa.Dn
open Go Go.Pev
set_option linter.unusedVariables false
set_option linter.unusedSimpArgs false
set_option maxRecDepth 4000
def mkB (b0 : Bool) (b1 b2 b3 b4 : Int) (b5 b6 : List UInt8) (b7 : Int) : AV := .agg [(.bool b0), (.int .u64 b1), (.int .u64 b2), (.int .i64 b3), (.int .i64 b4), (.str b5), (.str b6), (.int .i64 b7)]
def mkP (b0 : Bool) (b1 b2 b3 : Int) : AV := .agg [(.bool b0), (.int .u64 b1), (.int .u64 b2), (.int .i64 b3)]
theorem qbuk {cs : List AV} (h : fitC qa cs = true) : cs = (mkB (gB cs 0) (gI cs 1) (gI cs 2) (gI cs 3) (gI cs 4) (gS cs 5) (gS cs 6) (gI cs 7)).cells := by
  have := qra (ls := qa) (by decide) h
  exact this.symm
theorem qgo {y : AV} (h : fitC qa y.cells = true) : mkB (gB y.cells 0) (gI y.cells 1) (gI y.cells 2) (gI y.cells 3) (gI y.cells 4) (gS y.cells 5) (gS y.cells 6) (gI y.cells 7) = y := by
  have h1 := qbuk h
  cases y with
  | agg cs =>
    simp only [AV.cells] at h1 ⊢
    unfold mkB at h1 ⊢
    simp only [AV.cells] at h1
    rw [← h1]
  | _ =>
    have h2 := congrArg List.length h1
    simp [AV.cells, mkB] at h2
theorem qbqq {y : AV} (h : fitC qa y.cells = true) : blkV y = y := qgo h
def occF (l : List AV) (v : Bool) (hi lo bits : Int) : Bool := l.any fun y => qg5 (gB y.cells 0) (gI y.cells 1) (gI y.cells 2) (gI y.cells 3) v hi lo bits
theorem q7t {R : Type} (l : List AV) (hl : qbk l) (a0 : Bool) (a1 : Int) (a2 : Int) (a3 : Int) (kr : Int → Bool → Int → Int → Int → Option R) (q : AV → Bool) (hq : ∀ y, qgd y → ∀ kr : Bool → Bool → Int → Int → Int → Option R, qkz (gB y.cells 0) (gI y.cells 1) (gI y.cells 2) (gI y.cells 3) (gI y.cells 4) (gS y.cells 5) (gS y.cells 6) (gI y.cells 7) a0 a1 a2 a3 kr = kr (q y) a0 a1 a2 a3) :
    qbn l a0 a1 a2 a3 kr = kr (idxI q l) a0 a1 a2 a3 := by
  rw [qel]; unfold qc8
  rw [qdz]
  have key := qjr l hl.1 (fun n i (s : Bool × Int × Int × Int) => qby l (l.length : Int) (fun c0 c1 c2 c3 => kr (-1 : Int) c0 c1 c2 c3) kr n i s.1 s.2.1 s.2.2.1 s.2.2.2)
    (fun i s nx => qx l (l.length : Int) i s.1 s.2.1 s.2.2.1 s.2.2.2 (fun i c0 c1 c2 c3 => nx i (c0, c1, c2, c3)) (fun c0 c1 c2 c3 => kr (-1 : Int) c0 c1 c2 c3) kr) (fun _ _ _ => rfl)
    (fun i s => s = (a0, a1, a2, a3)) (fun r s => kr (match idxO q r with | some k => ((l.length - r.length + k : Nat) : Int) | none => -1) a0 a1 a2 a3) ?_ ?_ (a0, a1, a2, a3) FU rfl (qno (by have := hl.1; omega))
  · refine key.trans ?_
    unfold idxI
    cases idxO q l <;> simp
  · intro s nx hs
    subst hs
    simp [qx, idxO]
  · rintro i y r _ nx h1 h2 h3 h4 rfl h5
    have hy := hl.2 y (List.mem_of_getElem? h2)
    have h6 : (i : Int) < (l.length : Int) := by omega
    have hr : r.length = l.length - (i + 1) := by
      have := congrArg List.length h1
      simp at this
      omega
    unfold qx
    simp only [h6, decide_true, cond_t, ixB_nat, h2, oB_s, hy.1, hq y hy, h4]
    unfold idxO
    cases hqq : q y with
    | true =>
      simp only [cond_t, if_true]
      congr 1
      simp
      omega
    | false =>
      simp only [cond_f, Bool.false_eq_true, if_false]
      rw [h5 _ rfl]
      cases idxO q r with
      | none => rfl
      | some k =>
        simp
        congr 1
        omega
theorem q6e (l : List AV) (hl : qbk l) (v : Bool) (hi lo bits : Int) : qhx l v hi lo bits = some (occF l v hi lo bits) := by
  rw [qxb]; unfold qrg
  rw [qd1]; unfold qcw
  rw [q7t l hl _ _ _ _ _ (fun y => qg5 (gB y.cells 0) (gI y.cells 1) (gI y.cells 2) (gI y.cells 3) v hi lo bits), qta]
  · rfl
  · intro z hz kr
    rw [qt6]; unfold qpd
    simp only [q4q, oB_s]
def insF (b : AV) : List AV → List AV
  | [] => [b]
  | y :: r => bif decide (cmpY y b > 0) then b :: y :: r else y :: insF b r
theorem q2s (b y : AV) (r : List AV) : insF b (y :: r) = bif decide (cmpY y b > 0) then b :: y :: r else y :: insF b r := rfl
theorem qoj (b : AV) : ∀ l, (insF b l).length = l.length + 1
  | [] => rfl
  | y :: r => by unfold insF; cases decide (cmpY y b > 0) <;> simp [qoj b r]
theorem qe8 {b y : AV} : ∀ {l : List AV}, y ∈ insF b l ↔ y = b ∨ y ∈ l
  | [] => by simp [insF]
  | z :: r => by
    unfold insF
    cases decide (cmpY z b > 0)
    · simp only [cond_f, List.mem_cons, qe8 (l := r)]
      constructor
      · rintro (h | h | h)
        · exact .inr (.inl h)
        · exact .inl h
        · exact .inr (.inr h)
      · rintro (h | h | h)
        · exact .inr (.inl h)
        · exact .inl h
        · exact .inr (.inr h)
    · simp
theorem qbm4 (b : AV) : ∀ l, insF b l = l.take ((idxO (fun y => decide (cmpY y b > 0)) l).getD l.length) ++ [b] ++ l.drop ((idxO (fun y => decide (cmpY y b > 0)) l).getD l.length)
  | [] => rfl
  | y :: r => by
    unfold insF idxO
    have ih := qbm4 b r
    cases h : decide (cmpY y b > 0) with
    | true => simp
    | false =>
      simp only [cond_f, Bool.false_eq_true, if_false]
      rw [ih]
      cases idxO (fun y => decide (cmpY y b > 0)) r <;> simp
theorem qbb6 {R : Type} (l : List AV) (hl : qbk l) (a0 : Bool) (a1 : Int) (a2 : Int) (a3 : Int) (a4 : Int) (a5 : List UInt8) (a6 : List UInt8) (a7 : Int) (kr : Int → Bool → Int → Int → Int → Int → List UInt8 → List UInt8 → Int → Option R) (q : AV → Bool) (hq : ∀ y, qgd y → ∀ kr : Bool → Bool → Int → Int → Int → Int → List UInt8 → List UInt8 → Int → Option R, qmd (gB y.cells 0) (gI y.cells 1) (gI y.cells 2) (gI y.cells 3) (gI y.cells 4) (gS y.cells 5) (gS y.cells 6) (gI y.cells 7) a0 a1 a2 a3 a4 a5 a6 a7 kr = kr (q y) a0 a1 a2 a3 a4 a5 a6 a7) :
    qbp l a0 a1 a2 a3 a4 a5 a6 a7 kr = kr (idxI q l) a0 a1 a2 a3 a4 a5 a6 a7 := by
  rw [qes]; unfold qdc
  rw [qea]
  have key := qjr l hl.1 (fun n i (s : Bool × Int × Int × Int × Int × (List UInt8) × (List UInt8) × Int) => qca l (l.length : Int) (fun c0 c1 c2 c3 c4 c5 c6 c7 => kr (-1 : Int) c0 c1 c2 c3 c4 c5 c6 c7) kr n i s.1 s.2.1 s.2.2.1 s.2.2.2.1 s.2.2.2.2.1 s.2.2.2.2.2.1 s.2.2.2.2.2.2.1 s.2.2.2.2.2.2.2)
    (fun i s nx => qbc l (l.length : Int) i s.1 s.2.1 s.2.2.1 s.2.2.2.1 s.2.2.2.2.1 s.2.2.2.2.2.1 s.2.2.2.2.2.2.1 s.2.2.2.2.2.2.2 (fun i c0 c1 c2 c3 c4 c5 c6 c7 => nx i (c0, c1, c2, c3, c4, c5, c6, c7)) (fun c0 c1 c2 c3 c4 c5 c6 c7 => kr (-1 : Int) c0 c1 c2 c3 c4 c5 c6 c7) kr) (fun _ _ _ => rfl)
    (fun i s => s = (a0, a1, a2, a3, a4, a5, a6, a7)) (fun r s => kr (match idxO q r with | some k => ((l.length - r.length + k : Nat) : Int) | none => -1) a0 a1 a2 a3 a4 a5 a6 a7) ?_ ?_ (a0, a1, a2, a3, a4, a5, a6, a7) FU rfl (qno (by have := hl.1; omega))
  · refine key.trans ?_
    unfold idxI
    cases idxO q l <;> simp
  · intro s nx hs
    subst hs
    simp [qbc, idxO]
  · rintro i y r _ nx h1 h2 h3 h4 rfl h5
    have hy := hl.2 y (List.mem_of_getElem? h2)
    have h6 : (i : Int) < (l.length : Int) := by omega
    have hr : r.length = l.length - (i + 1) := by
      have := congrArg List.length h1
      simp at this
      omega
    unfold qbc
    simp only [h6, decide_true, cond_t, ixB_nat, h2, oB_s, hy.1, hq y hy, h4]
    unfold idxO
    cases hqq : q y with
    | true =>
      simp only [cond_t, if_true]
      congr 1
      simp
      omega
    | false =>
      simp only [cond_f, Bool.false_eq_true, if_false]
      rw [h5 _ rfl]
      cases idxO q r with
      | none => rfl
      | some k =>
        simp
        congr 1
        omega
theorem q6f (l : List AV) (hl : qbk l) (hn : l.length ≤ 100000) (b0 : Bool) (b1 b2 b3 b4 : Int) (b5 b6 : List UInt8) (b7 : Int) : qgf l b0 b1 b2 b3 b4 b5 b6 b7 = some (insF (mkB b0 b1 b2 b3 b4 b5 b6 b7) l) := by
  rw [q0p]; unfold qua
  rw [qbb6 l hl _ _ _ _ _ _ _ _ _ (fun y => decide (cmpY y (mkB b0 b1 b2 b3 b4 b5 b6 b7) > 0))]
  · have hc : qbv l = some l := by
      unfold qbv q9z
      have : l.length * 80 ≤ 140737488355328 := by omega
      simp [this]
    rw [qvj]; unfold qqm
    have fin : ∀ k : Nat, k ≤ l.length → qwk 80 l (k : Int) [mkB b0 b1 b2 b3 b4 b5 b6 b7] = some (l.take k ++ [mkB b0 b1 b2 b3 b4 b5 b6 b7] ++ l.drop k) := fun k hk => by
      unfold qwk
      have : (l.length + 1) * 80 ≤ 140737488355328 := by omega
      simp [hk, this]
    show (bif decide (idxI (fun y => decide (cmpY y (mkB b0 b1 b2 b3 b4 b5 b6 b7) > 0)) l < 0) then (oB (qbv l) fun r11 => (bif hd r11 r11.length then (bif hd [mkB b0 b1 b2 b3 b4 b5 b6 b7] ([mkB b0 b1 b2 b3 b4 b5 b6 b7].length) then (oB (qwk 80 r11 (l.length : Int) [mkB b0 b1 b2 b3 b4 b5 b6 b7]) fun r12 => (bif hd r12 r12.length then (some r12) else none)) else none) else none)) else (oB (qbv l) fun r11 => (bif hd r11 r11.length then (bif hd [mkB b0 b1 b2 b3 b4 b5 b6 b7] ([mkB b0 b1 b2 b3 b4 b5 b6 b7].length) then (oB (qwk 80 r11 (idxI (fun y => decide (cmpY y (mkB b0 b1 b2 b3 b4 b5 b6 b7) > 0)) l) [mkB b0 b1 b2 b3 b4 b5 b6 b7]) fun r12 => (bif hd r12 r12.length then (some r12) else none)) else none) else none))) = _
    rw [qbm4, hc]
    unfold idxI
    cases hq : idxO (fun y => decide (cmpY y (mkB b0 b1 b2 b3 b4 b5 b6 b7) > 0)) l with
    | none =>
      simp only [oB_s, hd_self, cond_t, Option.getD_none]
      rw [fin l.length (Nat.le_refl _)]
      simp
    | some k =>
      obtain ⟨y, hy, _⟩ := qtt l k hq
      have hk := (List.getElem?_eq_some_iff.1 hy).1
      have h0 : ¬ ((k : Int) < 0) := by omega
      simp only [oB_s, hd_self, cond_t, h0, decide_false, cond_f, Option.getD_some]
      rw [fin k (by omega)]
      simp
  · intro z hz kr
    rw [qxd]; unfold qrk
    simp only [qbqp, oB_s]
    rfl
theorem qbgv {R : Type} {a : List AV} (x : AV) (h : (a.length + 1) * 80 ≤ 140737488355328) (k : Option R) : (bif decide ((a.length + ([x] : List AV).length) * 80 ≤ 140737488355328) then k else none) = k := by
  rw [show ([x] : List AV).length = 1 from rfl, decide_eq_true h]; rfl
def remF (l : List AV) (v : Bool) (hi lo bits : Int) : List AV := l.filter fun y => !atP v hi lo bits y
theorem qbgw {q : AV → Bool} : ∀ (l : List AV) (k : Nat), idxO q l = some k → (∀ (j : Nat) (y : AV), k < j → l[j]? = some y → q y = false) → l.take k ++ l.drop (k + 1) = l.filter fun y => !q y
  | [], k, h, _ => by simp [idxO] at h
  | y :: r, k, h, hu => by
    unfold idxO at h
    cases hq : q y with
    | true =>
      simp [hq] at h
      subst h
      simp only [List.take_zero, List.drop_succ_cons, List.drop_zero, List.nil_append]
      rw [List.filter_cons, hq]
      simp only [Bool.not_true, Bool.false_eq_true, if_false]
      refine (List.filter_eq_self.2 fun z hz => ?_).symm
      obtain ⟨j, hj⟩ := List.getElem?_of_mem hz
      rw [hu (j + 1) z (by omega) (by simpa using hj)]; rfl
    | false =>
      simp [hq] at h
      obtain ⟨k', h1, rfl⟩ := h
      have ih := qbgw r k' h1 (fun j z hj hz => hu (j + 1) z (by omega) (by simpa using hz))
      rw [List.filter_cons, hq]
      simp only [Bool.not_false, if_true, List.take_succ_cons, List.drop_succ_cons, List.cons_append]
      rw [ih]
theorem qcs.uniq {l : List AV} (h : qcs l) {v : Bool} {hi lo bits : Int} {i j : Nat} {y z : AV} (hy : l[i]? = some y) (hz : l[j]? = some z) (h1 : atP v hi lo bits y = true) (h2 : atP v hi lo bits z = true) : i = j := by
  have key : ∀ {i j : Nat} {y z : AV}, l[i]? = some y → l[j]? = some z → atP v hi lo bits y = true → atP v hi lo bits z = true → ¬ i < j := fun hy hz h1 h2 hij => by
    have := h.sorted _ _ hy _ _ hij hz
    obtain ⟨a, b, c, d⟩ := qjs.1 h1
    obtain ⟨a', b', c', d'⟩ := qjs.1 h2
    unfold ltY at this
    rw [a, b, c, d, a', b', c', d'] at this
    exact qh3 this
  have a := key hy hz h1 h2
  have b := key hz hy h2 h1
  omega
theorem qbqr (l : List AV) (hn : l.length ≤ 100000) (k : Nat) (hk : k < l.length) : qfq l (k : Int) = some (l.take k ++ l.drop (k + 1)) := by
  rw [qy2]; unfold qsx
  have hc : qbv l = some l := by
    unfold qbv q9z
    have : l.length * 80 ≤ 140737488355328 := by omega
    simp [this]
  have hw : IntKind.i64.wrap ((k : Int) + 1) = ((k + 1 : Nat) : Int) := w64 (by omega) (by omega)
  have hd' : q4o l (k : Int) ((k + 1 : Nat) : Int) = some (l.take k ++ l.drop (k + 1)) := by
    unfold q4o
    have : ((0 : Int) ≤ (k : Int) ∧ (k : Int) < ((k + 1 : Nat) : Int) ∧ ((k + 1 : Nat) : Int) ≤ (l.length : Int) ∧ l.length ≤ 9223372036854775807) := ⟨by omega, by omega, by omega, by omega⟩
    simp only [this, and_self, decide_true, cond_t, Int.toNat_natCast]
  simp only [hc, oB_s, hd_self, cond_t, hw, hd']
theorem qz3 (l : List AV) (hn : l.length ≤ 100000) (ht : qcs l) {v : Bool} {hi lo bits : Int} {k : Nat} (hk : idxO (atP v hi lo bits) l = some k) : qfq l (k : Int) = some (remF l v hi lo bits) := by
  obtain ⟨y, hy, hf⟩ := qtt l k hk
  rw [qbqr l hn k (List.getElem?_eq_some_iff.1 hy).1]
  congr 1
  have hq := List.find?_some hf
  refine qbgw l k hk fun j z hj hz => ?_
  rw [Bool.eq_false_iff]
  intro h2
  have := ht.uniq hy hz hq h2
  omega
def qks (l : List AV) (v : Bool) (hi lo bits : Int) : List AV × Int :=
  bif !(l.any (atP v hi lo bits)) then ([], 11) else bif occF l v hi lo bits then ([], 25) else (remF l v hi lo bits, 0)
theorem qbol (q : AV → Bool) (l : List AV) : decide (idxI q l < 0) = !(l.any q) := by
  rw [← qta, Bool.eq_iff_iff]
  simp
theorem qbaj {q : AV → Bool} {l : List AV} (h : l.any q = true) : ∃ k, idxO q l = some k ∧ idxI q l = (k : Int) := by
  rw [← qta] at h
  unfold idxI at *
  cases hq : idxO q l with
  | none => rw [hq] at h; simp at h
  | some k => exact ⟨k, rfl, rfl⟩
theorem qbec (l : List AV) (hl : qbk l) (hn : l.length ≤ 100000) (ht : qcs l) (v : Bool) (hi lo bits : Int) : qip l v hi lo bits = some (qks l v hi lo bits) := by
  rw [q0o]; unfold qt7 qks
  simp only [qwl l hl, oB_s, q6e l hl, qbol]
  cases ha : l.any (atP v hi lo bits) with
  | false => rfl
  | true =>
    obtain ⟨k, h1, h2⟩ := qbaj ha
    simp only [Bool.not_true, cond_f]
    cases occF l v hi lo bits with
    | true => rfl
    | false =>
      simp only [cond_f, h2, qz3 l hn ht h1, oB_s]
theorem qx2 (l : List AV) (v : Bool) (hi lo bits : Int) : (qz1 l v hi lo bits).2 = l.any (atP v hi lo bits) := by
  unfold qz1
  cases hf : l.find? (atP v hi lo bits) with
  | none =>
    simp only
    symm
    rw [List.any_eq_false]
    intro y hy
    simpa using List.find?_eq_none.1 hf y hy
  | some y =>
    simp only
    symm
    rw [List.any_eq_true]
    exact ⟨y, List.mem_of_find?_eq_some hf, List.find?_some hf⟩
def addF (l : List AV) (b : AV) : List AV × Int :=
  bif !qp0 b then ([], 3) else bif !mayB b then ([], 1) else bif l.any (atP (gB b.cells 0) (gI b.cells 1) (gI b.cells 2) (gI b.cells 3)) then ([], 12) else
  bif l.any (qdd b) || occF l (gB b.cells 0) (gI b.cells 1) (gI b.cells 2) (gI b.cells 3) then ([], 24) else bif decide ((l.length : Int) ≥ 512) then ([], 9) else (insF b l, 0)
theorem qcs.may {l : List AV} (ht : qcs l) {y : AV} (hy : y ∈ l) : mayB y = true := by
  obtain ⟨j, hj⟩ := List.getElem?_of_mem hy
  exact (ht j y hj).may
theorem qcs.mis {l : List AV} (ht : qcs l) (b : AV) : l.any (misY b) = l.any (qdd b) := by
  rw [Bool.eq_iff_iff, List.any_eq_true, List.any_eq_true]
  constructor <;> (rintro ⟨z, hz, hb⟩; refine ⟨z, hz, ?_⟩; simpa [qbok (ht.may hz)] using hb)
theorem qbsf (l : List AV) (hl : qbk l) (hn : l.length ≤ 100000) (ht : qcs l) (b0 : Bool) (b1 b2 b3 b4 : Int) (b5 b6 : List UInt8) (b7 : Int) (hb : qgd (mkB b0 b1 b2 b3 b4 b5 b6 b7)) : qn1 l b0 b1 b2 b3 b4 b5 b6 b7 = some (addF l (mkB b0 b1 b2 b3 b4 b5 b6 b7)) := by
  have h1 : qls b0 b1 b2 b3 b4 b5 b6 b7 = some (qu7 (mkB b0 b1 b2 b3 b4 b5 b6 b7)) := qboj (mkB b0 b1 b2 b3 b4 b5 b6 b7) hb
  have h2 : qgi l b0 b1 b2 b3 b4 b5 b6 b7 = some (l.any (misY (mkB b0 b1 b2 b3 b4 b5 b6 b7))) := qbcm l hl (mkB b0 b1 b2 b3 b4 b5 b6 b7)
  rw [q6u]; unfold q0r addF
  simp only [h1, oB_s, qy5, qsz, h2, qwl l hl, qta, q6e l hl, q6f l hl hn, ht.mis]
  rw [show (gB (mkB b0 b1 b2 b3 b4 b5 b6 b7).cells 0) = b0 from rfl, show (gI (mkB b0 b1 b2 b3 b4 b5 b6 b7).cells 1) = b1 from rfl, show (gI (mkB b0 b1 b2 b3 b4 b5 b6 b7).cells 2) = b2 from rfl, show (gI (mkB b0 b1 b2 b3 b4 b5 b6 b7).cells 3) = b3 from rfl]
  unfold qu7
  cases qp0 (mkB b0 b1 b2 b3 b4 b5 b6 b7) with
  | false => rfl
  | true =>
    cases mayB (mkB b0 b1 b2 b3 b4 b5 b6 b7) with
    | false => rfl
    | true =>
      simp only [Bool.not_true, cond_f, bne_self_eq_false]
      cases l.any (atP b0 b1 b2 b3) <;> cases l.any (qdd (mkB b0 b1 b2 b3 b4 b5 b6 b7)) <;> cases occF l b0 b1 b2 b3 <;> cases decide ((l.length : Int) ≥ 512) <;> rfl
end Go.Proofs.Ytmjdngnagiloeaa.Dn
