/- Tables of blocks: what Add and Remove answer, the program's and the reference's. -/
import Derived.Test.YtmjdngnagiloeaaBlLw46c
set_option linter.all false
namespace Go.Proofs.Ytmjdngnagiloeaa.Dn
open Go Go.Pev
set_option linter.unusedVariables false
set_option linter.unusedSimpArgs false
set_option maxRecDepth 4000
def mkB (b0 : Bool) (b1 b2 b3 b4 : Int) (b5 b6 : List UInt8) (b7 : Int) : AV := .agg [(.bool b0), (.int .u64 b1), (.int .u64 b2), (.int .i64 b3), (.int .i64 b4), (.str b5), (.str b6), (.int .i64 b7)]
def mkP (b0 : Bool) (b1 b2 b3 : Int) : AV := .agg [(.bool b0), (.int .u64 b1), (.int .u64 b2), (.int .i64 b3)]
theorem qbwj {cs : List AV} (h : fitC qa cs = true) : cs = (mkB (gB cs 0) (gI cs 1) (gI cs 2) (gI cs 3) (gI cs 4) (gS cs 5) (gS cs 6) (gI cs 7)).cells := by
  have := qsa (ls := qa) (by decide) h
  exact this.symm
theorem qlw {y : AV} (h : fitC qa y.cells = true) : mkB (gB y.cells 0) (gI y.cells 1) (gI y.cells 2) (gI y.cells 3) (gI y.cells 4) (gS y.cells 5) (gS y.cells 6) (gI y.cells 7) = y := by
  have h1 := qbwj h
  cases y with
  | agg cs =>
    simp only [AV.cells] at h1 ⊢
    unfold mkB at h1 ⊢
    simp only [AV.cells] at h1
    rw [← h1]
  | _ =>
    have h2 := congrArg List.length h1
    simp [AV.cells, mkB] at h2
theorem qbsg {y : AV} (h : fitC qa y.cells = true) : blkV y = y := qlw h
def occF (l : List AV) (v : Bool) (hi lo bits : Int) : Bool := l.any fun y => qit (gB y.cells 0) (gI y.cells 1) (gI y.cells 2) (gI y.cells 3) v hi lo bits
theorem q86 {R : Type} (l : List AV) (hl : qbz l) (a0 : Bool) (a1 : Int) (a2 : Int) (a3 : Int) (kr : Int → Bool → Int → Int → Int → Option R) (q : AV → Bool) (hq : ∀ y, qj8 y → ∀ kr : Bool → Bool → Int → Int → Int → Option R, qly (gB y.cells 0) (gI y.cells 1) (gI y.cells 2) (gI y.cells 3) (gI y.cells 4) (gS y.cells 5) (gS y.cells 6) (gI y.cells 7) a0 a1 a2 a3 kr = kr (q y) a0 a1 a2 a3) :
    qbo l a0 a1 a2 a3 kr = kr (idxI q l) a0 a1 a2 a3 := by
  rw [qez]; unfold qda
  rw [qd2]
  have key := qgl l hl.1 (fun n i (s : Bool × Int × Int × Int) => qb0 l (l.length : Int) (fun c0 c1 c2 c3 => kr (-1 : Int) c0 c1 c2 c3) kr n i s.1 s.2.1 s.2.2.1 s.2.2.2)
    (fun i s nx => qz l (l.length : Int) i s.1 s.2.1 s.2.2.1 s.2.2.2 (fun i c0 c1 c2 c3 => nx i (c0, c1, c2, c3)) (fun c0 c1 c2 c3 => kr (-1 : Int) c0 c1 c2 c3) kr) (fun _ _ _ => rfl)
    (fun i s => s = (a0, a1, a2, a3)) (fun r s => kr (match idxO q r with | some k => ((l.length - r.length + k : Nat) : Int) | none => -1) a0 a1 a2 a3) ?_ ?_ (a0, a1, a2, a3) FU rfl (ql4 (by have := hl.1; omega))
  · refine key.trans ?_
    unfold idxI
    cases idxO q l <;> simp
  · intro s nx hs
    subst hs
    simp [qz, idxO]
  · rintro i y r _ nx h1 h2 h3 h4 rfl h5
    have hy := hl.2 y (List.mem_of_getElem? h2)
    have h6 : (i : Int) < (l.length : Int) := by omega
    have hr : r.length = l.length - (i + 1) := by
      have := congrArg List.length h1
      simp at this
      omega
    unfold qz
    simp only [h6, decide_true, cond_t, ixB_nat, h2, oB_s, hy.1, hq y hy, h4]
    unfold idxO
    cases hqq : q y with
    | true =>
      simp only [cond_t, if_true]
      congr 1
      simp
      omega
    | false =>
      simp only [cond_f, Bool.false_eq_true, if_false]
      rw [h5 _ rfl]
      cases idxO q r with
      | none => rfl
      | some k =>
        simp
        congr 1
        omega
theorem q7x (l : List AV) (hl : qbz l) (v : Bool) (hi lo bits : Int) : qim l v hi lo bits = some (occF l v hi lo bits) := by
  rw [qyh]; unfold qsf
  rw [qd4]; unfold qcy
  rw [q86 l hl _ _ _ _ _ (fun y => qit (gB y.cells 0) (gI y.cells 1) (gI y.cells 2) (gI y.cells 3) v hi lo bits), quc]
  · rfl
  · intro z hz kr
    rw [qvb]; unfold qqd
    simp only [q59, oB_s]
def insF (b : AV) : List AV → List AV
  | [] => [b]
  | y :: r => bif decide (cmpY y b > 0) then b :: y :: r else y :: insF b r
theorem qbft (b : AV) : ∀ l, (insF b l).length = l.length + 1
  | [] => rfl
  | y :: r => by unfold insF; cases decide (cmpY y b > 0) <;> simp [qbft b r]
theorem qbox {b y : AV} : ∀ {l : List AV}, y ∈ insF b l ↔ y = b ∨ y ∈ l
  | [] => by simp [insF]
  | z :: r => by
    unfold insF
    cases decide (cmpY z b > 0)
    · simp only [cond_f, List.mem_cons, qbox (l := r)]
      constructor
      · rintro (h | h | h)
        · exact .inr (.inl h)
        · exact .inl h
        · exact .inr (.inr h)
      · rintro (h | h | h)
        · exact .inr (.inl h)
        · exact .inl h
        · exact .inr (.inr h)
    · simp
theorem qboy (b : AV) : ∀ l, insF b l = l.take ((idxO (fun y => decide (cmpY y b > 0)) l).getD l.length) ++ [b] ++ l.drop ((idxO (fun y => decide (cmpY y b > 0)) l).getD l.length)
  | [] => rfl
  | y :: r => by
    unfold insF idxO
    have ih := qboy b r
    cases h : decide (cmpY y b > 0) with
    | true => simp
    | false =>
      simp only [cond_f, Bool.false_eq_true, if_false]
      rw [ih]
      cases idxO (fun y => decide (cmpY y b > 0)) r <;> simp
theorem qbdl {R : Type} (l : List AV) (hl : qbz l) (a0 : Bool) (a1 : Int) (a2 : Int) (a3 : Int) (a4 : Int) (a5 : List UInt8) (a6 : List UInt8) (a7 : Int) (kr : Int → Bool → Int → Int → Int → Int → List UInt8 → List UInt8 → Int → Option R) (q : AV → Bool) (hq : ∀ y, qj8 y → ∀ kr : Bool → Bool → Int → Int → Int → Int → List UInt8 → List UInt8 → Int → Option R, qnf (gB y.cells 0) (gI y.cells 1) (gI y.cells 2) (gI y.cells 3) (gI y.cells 4) (gS y.cells 5) (gS y.cells 6) (gI y.cells 7) a0 a1 a2 a3 a4 a5 a6 a7 kr = kr (q y) a0 a1 a2 a3 a4 a5 a6 a7) :
    qbq l a0 a1 a2 a3 a4 a5 a6 a7 kr = kr (idxI q l) a0 a1 a2 a3 a4 a5 a6 a7 := by
  rw [qe5]; unfold qdf
  rw [qei]
  have key := qgl l hl.1 (fun n i (s : Bool × Int × Int × Int × Int × (List UInt8) × (List UInt8) × Int) => qcc l (l.length : Int) (fun c0 c1 c2 c3 c4 c5 c6 c7 => kr (-1 : Int) c0 c1 c2 c3 c4 c5 c6 c7) kr n i s.1 s.2.1 s.2.2.1 s.2.2.2.1 s.2.2.2.2.1 s.2.2.2.2.2.1 s.2.2.2.2.2.2.1 s.2.2.2.2.2.2.2)
    (fun i s nx => qbd l (l.length : Int) i s.1 s.2.1 s.2.2.1 s.2.2.2.1 s.2.2.2.2.1 s.2.2.2.2.2.1 s.2.2.2.2.2.2.1 s.2.2.2.2.2.2.2 (fun i c0 c1 c2 c3 c4 c5 c6 c7 => nx i (c0, c1, c2, c3, c4, c5, c6, c7)) (fun c0 c1 c2 c3 c4 c5 c6 c7 => kr (-1 : Int) c0 c1 c2 c3 c4 c5 c6 c7) kr) (fun _ _ _ => rfl)
    (fun i s => s = (a0, a1, a2, a3, a4, a5, a6, a7)) (fun r s => kr (match idxO q r with | some k => ((l.length - r.length + k : Nat) : Int) | none => -1) a0 a1 a2 a3 a4 a5 a6 a7) ?_ ?_ (a0, a1, a2, a3, a4, a5, a6, a7) FU rfl (ql4 (by have := hl.1; omega))
  · refine key.trans ?_
    unfold idxI
    cases idxO q l <;> simp
  · intro s nx hs
    subst hs
    simp [qbd, idxO]
  · rintro i y r _ nx h1 h2 h3 h4 rfl h5
    have hy := hl.2 y (List.mem_of_getElem? h2)
    have h6 : (i : Int) < (l.length : Int) := by omega
    have hr : r.length = l.length - (i + 1) := by
      have := congrArg List.length h1
      simp at this
      omega
    unfold qbd
    simp only [h6, decide_true, cond_t, ixB_nat, h2, oB_s, hy.1, hq y hy, h4]
    unfold idxO
    cases hqq : q y with
    | true =>
      simp only [cond_t, if_true]
      congr 1
      simp
      omega
    | false =>
      simp only [cond_f, Bool.false_eq_true, if_false]
      rw [h5 _ rfl]
      cases idxO q r with
      | none => rfl
      | some k =>
        simp
        congr 1
        omega
theorem q7y (l : List AV) (hl : qbz l) (hn : l.length ≤ 100000) (b0 : Bool) (b1 b2 b3 b4 : Int) (b5 b6 : List UInt8) (b7 : Int) : qg4 l b0 b1 b2 b3 b4 b5 b6 b7 = some (insF (mkB b0 b1 b2 b3 b4 b5 b6 b7) l) := by
  rw [q2b]; unfold qve
  rw [qbdl l hl _ _ _ _ _ _ _ _ _ (fun y => decide (cmpY y (mkB b0 b1 b2 b3 b4 b5 b6 b7) > 0))]
  · have hc : qbw l = some l := by
      unfold qbw qbbb
      have : l.length * 80 ≤ 140737488355328 := by omega
      simp [this]
    rw [qwq]; unfold qrn
    have fin : ∀ k : Nat, k ≤ l.length → qxr 80 l (k : Int) [mkB b0 b1 b2 b3 b4 b5 b6 b7] = some (l.take k ++ [mkB b0 b1 b2 b3 b4 b5 b6 b7] ++ l.drop k) := fun k hk => by
      unfold qxr
      have : (l.length + 1) * 80 ≤ 140737488355328 := by omega
      simp [hk, this]
    show (bif decide (idxI (fun y => decide (cmpY y (mkB b0 b1 b2 b3 b4 b5 b6 b7) > 0)) l < 0) then (oB (qbw l) fun r11 => (bif hd r11 r11.length then (bif hd [mkB b0 b1 b2 b3 b4 b5 b6 b7] ([mkB b0 b1 b2 b3 b4 b5 b6 b7].length) then (oB (qxr 80 r11 (l.length : Int) [mkB b0 b1 b2 b3 b4 b5 b6 b7]) fun r12 => (bif hd r12 r12.length then (some r12) else none)) else none) else none)) else (oB (qbw l) fun r11 => (bif hd r11 r11.length then (bif hd [mkB b0 b1 b2 b3 b4 b5 b6 b7] ([mkB b0 b1 b2 b3 b4 b5 b6 b7].length) then (oB (qxr 80 r11 (idxI (fun y => decide (cmpY y (mkB b0 b1 b2 b3 b4 b5 b6 b7) > 0)) l) [mkB b0 b1 b2 b3 b4 b5 b6 b7]) fun r12 => (bif hd r12 r12.length then (some r12) else none)) else none) else none))) = _
    rw [qboy, hc]
    unfold idxI
    cases hq : idxO (fun y => decide (cmpY y (mkB b0 b1 b2 b3 b4 b5 b6 b7) > 0)) l with
    | none =>
      simp only [oB_s, hd_self, cond_t, Option.getD_none]
      rw [fin l.length (Nat.le_refl _)]
      simp
    | some k =>
      obtain ⟨y, hy, _⟩ := quw l k hq
      have hk := (List.getElem?_eq_some_iff.1 hy).1
      have h0 : ¬ ((k : Int) < 0) := by omega
      simp only [oB_s, hd_self, cond_t, h0, decide_false, cond_f, Option.getD_some]
      rw [fin k (by omega)]
      simp
  · intro z hz kr
    rw [qyj]; unfold qsj
    simp only [qbov, oB_s]
    rfl
theorem qbik {R : Type} {a : List AV} (x : AV) (h : (a.length + 1) * 80 ≤ 140737488355328) (k : Option R) : (bif decide ((a.length + ([x] : List AV).length) * 80 ≤ 140737488355328) then k else none) = k := by
  rw [show ([x] : List AV).length = 1 from rfl, decide_eq_true h]; rfl
def remF (l : List AV) (v : Bool) (hi lo bits : Int) : List AV := l.filter fun y => !atP v hi lo bits y
theorem qbil {q : AV → Bool} : ∀ (l : List AV) (k : Nat), idxO q l = some k → (∀ (j : Nat) (y : AV), k < j → l[j]? = some y → q y = false) → l.take k ++ l.drop (k + 1) = l.filter fun y => !q y
  | [], k, h, _ => by simp [idxO] at h
  | y :: r, k, h, hu => by
    unfold idxO at h
    cases hq : q y with
    | true =>
      simp [hq] at h
      subst h
      simp only [List.take_zero, List.drop_succ_cons, List.drop_zero, List.nil_append]
      rw [List.filter_cons, hq]
      simp only [Bool.not_true, Bool.false_eq_true, if_false]
      refine (List.filter_eq_self.2 fun z hz => ?_).symm
      obtain ⟨j, hj⟩ := List.getElem?_of_mem hz
      rw [hu (j + 1) z (by omega) (by simpa using hj)]; rfl
    | false =>
      simp [hq] at h
      obtain ⟨k', h1, rfl⟩ := h
      have ih := qbil r k' h1 (fun j z hj hz => hu (j + 1) z (by omega) (by simpa using hz))
      rw [List.filter_cons, hq]
      simp only [Bool.not_false, if_true, List.take_succ_cons, List.drop_succ_cons, List.cons_append]
      rw [ih]
theorem qfq.uniq {l : List AV} (h : qfq l) {v : Bool} {hi lo bits : Int} {i j : Nat} {y z : AV} (hy : l[i]? = some y) (hz : l[j]? = some z) (h1 : atP v hi lo bits y = true) (h2 : atP v hi lo bits z = true) : i = j := by
  have key : ∀ {i j : Nat} {y z : AV}, l[i]? = some y → l[j]? = some z → atP v hi lo bits y = true → atP v hi lo bits z = true → ¬ i < j := fun hy hz h1 h2 hij => by
    have := h.sorted _ _ hy _ _ hij hz
    obtain ⟨a, b, c, d⟩ := quv.1 h1
    obtain ⟨a', b', c', d'⟩ := quv.1 h2
    unfold ltY at this
    rw [a, b, c, d, a', b', c', d'] at this
    exact qky this
  have a := key hy hz h1 h2
  have b := key hz hy h2 h1
  omega
theorem qbsh (l : List AV) (hn : l.length ≤ 100000) (k : Nat) (hk : k < l.length) : qf7 l (k : Int) = some (l.take k ++ l.drop (k + 1)) := by
  rw [q0j]; unfold qty
  have hc : qbw l = some l := by
    unfold qbw qbbb
    have : l.length * 80 ≤ 140737488355328 := by omega
    simp [this]
  have hw : IntKind.i64.wrap ((k : Int) + 1) = ((k + 1 : Nat) : Int) := w64 (by omega) (by omega)
  have hd' : q58 l (k : Int) ((k + 1 : Nat) : Int) = some (l.take k ++ l.drop (k + 1)) := by
    unfold q58
    have : ((0 : Int) ≤ (k : Int) ∧ (k : Int) < ((k + 1 : Nat) : Int) ∧ ((k + 1 : Nat) : Int) ≤ (l.length : Int) ∧ l.length ≤ 9223372036854775807) := ⟨by omega, by omega, by omega, by omega⟩
    simp only [this, and_self, decide_true, cond_t, Int.toNat_natCast]
  simp only [hc, oB_s, hd_self, cond_t, hw, hd']
theorem q1r (l : List AV) (hn : l.length ≤ 100000) (ht : qfq l) {v : Bool} {hi lo bits : Int} {k : Nat} (hk : idxO (atP v hi lo bits) l = some k) : qf7 l (k : Int) = some (remF l v hi lo bits) := by
  obtain ⟨y, hy, hf⟩ := quw l k hk
  rw [qbsh l hn k (List.getElem?_eq_some_iff.1 hy).1]
  congr 1
  have hq := List.find?_some hf
  refine qbil l k hk fun j z hj hz => ?_
  rw [Bool.eq_false_iff]
  intro h2
  have := ht.uniq hy hz hq h2
  omega
def qbkk (l : List AV) (v : Bool) (hi lo bits : Int) : List AV × Int :=
  bif !(l.any (atP v hi lo bits)) then ([], 11) else bif occF l v hi lo bits then ([], 25) else (remF l v hi lo bits, 0)
theorem qbqa (q : AV → Bool) (l : List AV) : decide (idxI q l < 0) = !(l.any q) := by
  rw [← quc, Bool.eq_iff_iff]
  simp
theorem qbbv {q : AV → Bool} {l : List AV} (h : l.any q = true) : ∃ k, idxO q l = some k ∧ idxI q l = (k : Int) := by
  rw [← quc] at h
  unfold idxI at *
  cases hq : idxO q l with
  | none => rw [hq] at h; simp at h
  | some k => exact ⟨k, rfl, rfl⟩
theorem qbtq (l : List AV) (hl : qbz l) (hn : l.length ≤ 100000) (ht : qfq l) (v : Bool) (hi lo bits : Int) : qm5 l v hi lo bits = some (qbkk l v hi lo bits) := by
  rw [q2a]; unfold qvc qbkk
  simp only [qxt l hl, oB_s, q7x l hl, qbqa]
  cases ha : l.any (atP v hi lo bits) with
  | false => rfl
  | true =>
    obtain ⟨k, h1, h2⟩ := qbbv ha
    simp only [Bool.not_true, cond_f]
    cases occF l v hi lo bits with
    | true => rfl
    | false =>
      simp only [cond_f, h2, q1r l hn ht h1, oB_s]
theorem qzf (l : List AV) (v : Bool) (hi lo bits : Int) : (q1o l v hi lo bits).2 = l.any (atP v hi lo bits) := by
  unfold q1o
  cases hf : l.find? (atP v hi lo bits) with
  | none =>
    simp only
    symm
    rw [List.any_eq_false]
    intro y hy
    simpa using List.find?_eq_none.1 hf y hy
  | some y =>
    simp only
    symm
    rw [List.any_eq_true]
    exact ⟨y, List.mem_of_find?_eq_some hf, List.find?_some hf⟩
def addF (l : List AV) (b : AV) : List AV × Int :=
  bif !qtm b then ([], 3) else bif !mayB b then ([], 1) else bif l.any (atP (gB b.cells 0) (gI b.cells 1) (gI b.cells 2) (gI b.cells 3)) then ([], 12) else
  bif l.any (qkk b) || occF l (gB b.cells 0) (gI b.cells 1) (gI b.cells 2) (gI b.cells 3) then ([], 24) else bif decide ((l.length : Int) ≥ 512) then ([], 9) else (insF b l, 0)
theorem qfq.may {l : List AV} (ht : qfq l) {y : AV} (hy : y ∈ l) : mayB y = true := by
  obtain ⟨j, hj⟩ := List.getElem?_of_mem hy
  exact (ht j y hj).may
theorem qfq.mis {l : List AV} (ht : qfq l) (b : AV) : l.any (misY b) = l.any (qkk b) := by
  rw [Bool.eq_iff_iff, List.any_eq_true, List.any_eq_true]
  constructor <;> (rintro ⟨z, hz, hb⟩; refine ⟨z, hz, ?_⟩; simpa [qbp9 (ht.may hz)] using hb)
theorem qbwk (l : List AV) (hl : qbz l) (hn : l.length ≤ 100000) (ht : qfq l) (b0 : Bool) (b1 b2 b3 b4 : Int) (b5 b6 : List UInt8) (b7 : Int) (hb : qj8 (mkB b0 b1 b2 b3 b4 b5 b6 b7)) : qr3 l b0 b1 b2 b3 b4 b5 b6 b7 = some (addF l (mkB b0 b1 b2 b3 b4 b5 b6 b7)) := by
  have h1 : qmp b0 b1 b2 b3 b4 b5 b6 b7 = some (qwd (mkB b0 b1 b2 b3 b4 b5 b6 b7)) := qbp8 (mkB b0 b1 b2 b3 b4 b5 b6 b7) hb
  have h2 : qg8 l b0 b1 b2 b3 b4 b5 b6 b7 = some (l.any (misY (mkB b0 b1 b2 b3 b4 b5 b6 b7))) := qbd1 l hl (mkB b0 b1 b2 b3 b4 b5 b6 b7)
  rw [q76]; unfold q2d addF
  simp only [h1, oB_s, q0n, qt0, h2, qxt l hl, quc, q7x l hl, q7y l hl hn, ht.mis]
  rw [show (gB (mkB b0 b1 b2 b3 b4 b5 b6 b7).cells 0) = b0 from rfl, show (gI (mkB b0 b1 b2 b3 b4 b5 b6 b7).cells 1) = b1 from rfl, show (gI (mkB b0 b1 b2 b3 b4 b5 b6 b7).cells 2) = b2 from rfl, show (gI (mkB b0 b1 b2 b3 b4 b5 b6 b7).cells 3) = b3 from rfl]
  unfold qwd
  cases qtm (mkB b0 b1 b2 b3 b4 b5 b6 b7) with
  | false => rfl
  | true =>
    cases mayB (mkB b0 b1 b2 b3 b4 b5 b6 b7) with
    | false => rfl
    | true =>
      simp only [Bool.not_true, cond_f, bne_self_eq_false]
      cases l.any (atP b0 b1 b2 b3) <;> cases l.any (qkk (mkB b0 b1 b2 b3 b4 b5 b6 b7)) <;> cases occF l b0 b1 b2 b3 <;> cases decide ((l.length : Int) ≥ 512) <;> rfl
end Go.Proofs.Ytmjdngnagiloeaa.Dn
