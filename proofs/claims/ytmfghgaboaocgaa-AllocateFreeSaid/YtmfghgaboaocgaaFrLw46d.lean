/- Tables of blocks: what Add and Remove answer, the program's and the reference's. -/
import Derived.Test.YtmfghgaboaocgaaFrLw46c
set_option linter.all false
namespace Go.Proofs.Ytmfghgaboaocgaa.Dn
open Go Go.Pev
set_option linter.unusedVariables false
set_option linter.unusedSimpArgs false
set_option maxRecDepth 4000
def mkB (b0 : Bool) (b1 b2 b3 b4 : Int) (b5 b6 : List UInt8) (b7 : Int) : AV := .agg [(.bool b0), (.int .u64 b1), (.int .u64 b2), (.int .i64 b3), (.int .i64 b4), (.str b5), (.str b6), (.int .i64 b7)]
def mkP (b0 : Bool) (b1 b2 b3 : Int) : AV := .agg [(.bool b0), (.int .u64 b1), (.int .u64 b2), (.int .i64 b3)]
theorem qbsa {cs : List AV} (h : fitC qj cs = true) : cs = (mkB (gB cs 0) (gI cs 1) (gI cs 2) (gI cs 3) (gI cs 4) (gS cs 5) (gS cs 6) (gI cs 7)).cells := by
  have := qrh (ls := qj) (by decide) h
  exact this.symm
theorem qbc6 {y : AV} (h : fitC qj y.cells = true) : mkB (gB y.cells 0) (gI y.cells 1) (gI y.cells 2) (gI y.cells 3) (gI y.cells 4) (gS y.cells 5) (gS y.cells 6) (gI y.cells 7) = y := by
  have h1 := qbsa h
  cases y with
  | agg cs =>
    simp only [AV.cells] at h1 ⊢
    unfold mkB at h1 ⊢
    simp only [AV.cells] at h1
    rw [← h1]
  | _ =>
    have h2 := congrArg List.length h1
    simp [AV.cells, mkB] at h2
theorem qbom {y : AV} (h : fitC qj y.cells = true) : blkV y = y := qbc6 h
def occF (l : List AV) (v : Bool) (hi lo bits : Int) : Bool := l.any fun y => qsw (gB y.cells 0) (gI y.cells 1) (gI y.cells 2) (gI y.cells 3) v hi lo bits
theorem q62 {R : Type} (l : List AV) (hl : qc4 l) (a0 : Bool) (a1 : Int) (a2 : Int) (a3 : Int) (kr : Int → Bool → Int → Int → Int → Option R) (q : AV → Bool) (hq : ∀ y, qu9 y → ∀ kr : Bool → Bool → Int → Int → Int → Option R, qkn (gB y.cells 0) (gI y.cells 1) (gI y.cells 2) (gI y.cells 3) (gI y.cells 4) (gS y.cells 5) (gS y.cells 6) (gI y.cells 7) a0 a1 a2 a3 kr = kr (q y) a0 a1 a2 a3) :
    qbm l a0 a1 a2 a3 kr = kr (idxI q l) a0 a1 a2 a3 := by
  rw [qen]; unfold qc1
  rw [qd0]
  have key := qkl l hl.1 (fun n i (s : Bool × Int × Int × Int) => qbv l (l.length : Int) (fun c0 c1 c2 c3 => kr (-1 : Int) c0 c1 c2 c3) kr n i s.1 s.2.1 s.2.2.1 s.2.2.2)
    (fun i s nx => qy l (l.length : Int) i s.1 s.2.1 s.2.2.1 s.2.2.2 (fun i c0 c1 c2 c3 => nx i (c0, c1, c2, c3)) (fun c0 c1 c2 c3 => kr (-1 : Int) c0 c1 c2 c3) kr) (fun _ _ _ => rfl)
    (fun i s => s = (a0, a1, a2, a3)) (fun r s => kr (match idxO q r with | some k => ((l.length - r.length + k : Nat) : Int) | none => -1) a0 a1 a2 a3) ?_ ?_ (a0, a1, a2, a3) FU rfl (qou (by have := hl.1; omega))
  · refine key.trans ?_
    unfold idxI
    cases idxO q l <;> simp
  · intro s nx hs
    subst hs
    simp [qy, idxO]
  · rintro i y r _ nx h1 h2 h3 h4 rfl h5
    have hy := hl.2 y (List.mem_of_getElem? h2)
    have h6 : (i : Int) < (l.length : Int) := by omega
    have hr : r.length = l.length - (i + 1) := by
      have := congrArg List.length h1
      simp at this
      omega
    unfold qy
    simp only [h6, decide_true, cond_t, ixB_nat, h2, oB_s, hy.1, hq y hy, h4]
    unfold idxO
    cases hqq : q y with
    | true =>
      simp only [cond_t, if_true]
      congr 1
      simp
      omega
    | false =>
      simp only [cond_f, Bool.false_eq_true, if_false]
      rw [h5 _ rfl]
      cases idxO q r with
      | none => rfl
      | some k =>
        simp
        congr 1
        omega
theorem qbfc (l : List AV) (hl : qc4 l) (v : Bool) (hi lo bits : Int) : qkf l v hi lo bits = some (occF l v hi lo bits) := by
  rw [qxj]; unfold qr9
  rw [qd2]; unfold qcr
  rw [q62 l hl _ _ _ _ _ (fun y => qsw (gB y.cells 0) (gI y.cells 1) (gI y.cells 2) (gI y.cells 3) v hi lo bits), q0q]
  · rfl
  · intro z hz kr
    rw [qun]; unfold qpj
    simp only [qbkz, oB_s]
def insF (b : AV) : List AV → List AV
  | [] => [b]
  | y :: r => bif decide (cmpY y b > 0) then b :: y :: r else y :: insF b r
theorem qbh1 (b y : AV) (r : List AV) : insF b (y :: r) = bif decide (cmpY y b > 0) then b :: y :: r else y :: insF b r := rfl
theorem qbc7 (b : AV) : ∀ l, (insF b l).length = l.length + 1
  | [] => rfl
  | y :: r => by unfold insF; cases decide (cmpY y b > 0) <;> simp [qbc7 b r]
theorem qq0 {b y : AV} : ∀ {l : List AV}, y ∈ insF b l ↔ y = b ∨ y ∈ l
  | [] => by simp [insF]
  | z :: r => by
    unfold insF
    cases decide (cmpY z b > 0)
    · simp only [cond_f, List.mem_cons, qq0 (l := r)]
      constructor
      · rintro (h | h | h)
        · exact .inr (.inl h)
        · exact .inl h
        · exact .inr (.inr h)
      · rintro (h | h | h)
        · exact .inr (.inl h)
        · exact .inl h
        · exact .inr (.inr h)
    · simp
theorem qbk1 (b : AV) : ∀ l, insF b l = l.take ((idxO (fun y => decide (cmpY y b > 0)) l).getD l.length) ++ [b] ++ l.drop ((idxO (fun y => decide (cmpY y b > 0)) l).getD l.length)
  | [] => rfl
  | y :: r => by
    unfold insF idxO
    have ih := qbk1 b r
    cases h : decide (cmpY y b > 0) with
    | true => simp
    | false =>
      simp only [cond_f, Bool.false_eq_true, if_false]
      rw [ih]
      cases idxO (fun y => decide (cmpY y b > 0)) r <;> simp
theorem qba8 {R : Type} (l : List AV) (hl : qc4 l) (a0 : Bool) (a1 : Int) (a2 : Int) (a3 : Int) (a4 : Int) (a5 : List UInt8) (a6 : List UInt8) (a7 : Int) (kr : Int → Bool → Int → Int → Int → Int → List UInt8 → List UInt8 → Int → Option R) (q : AV → Bool) (hq : ∀ y, qu9 y → ∀ kr : Bool → Bool → Int → Int → Int → Int → List UInt8 → List UInt8 → Int → Option R, qlw (gB y.cells 0) (gI y.cells 1) (gI y.cells 2) (gI y.cells 3) (gI y.cells 4) (gS y.cells 5) (gS y.cells 6) (gI y.cells 7) a0 a1 a2 a3 a4 a5 a6 a7 kr = kr (q y) a0 a1 a2 a3 a4 a5 a6 a7) :
    qbo l a0 a1 a2 a3 a4 a5 a6 a7 kr = kr (idxI q l) a0 a1 a2 a3 a4 a5 a6 a7 := by
  rw [qet]; unfold qc3
  rw [qed]
  have key := qkl l hl.1 (fun n i (s : Bool × Int × Int × Int × Int × (List UInt8) × (List UInt8) × Int) => qb5 l (l.length : Int) (fun c0 c1 c2 c3 c4 c5 c6 c7 => kr (-1 : Int) c0 c1 c2 c3 c4 c5 c6 c7) kr n i s.1 s.2.1 s.2.2.1 s.2.2.2.1 s.2.2.2.2.1 s.2.2.2.2.2.1 s.2.2.2.2.2.2.1 s.2.2.2.2.2.2.2)
    (fun i s nx => qbc l (l.length : Int) i s.1 s.2.1 s.2.2.1 s.2.2.2.1 s.2.2.2.2.1 s.2.2.2.2.2.1 s.2.2.2.2.2.2.1 s.2.2.2.2.2.2.2 (fun i c0 c1 c2 c3 c4 c5 c6 c7 => nx i (c0, c1, c2, c3, c4, c5, c6, c7)) (fun c0 c1 c2 c3 c4 c5 c6 c7 => kr (-1 : Int) c0 c1 c2 c3 c4 c5 c6 c7) kr) (fun _ _ _ => rfl)
    (fun i s => s = (a0, a1, a2, a3, a4, a5, a6, a7)) (fun r s => kr (match idxO q r with | some k => ((l.length - r.length + k : Nat) : Int) | none => -1) a0 a1 a2 a3 a4 a5 a6 a7) ?_ ?_ (a0, a1, a2, a3, a4, a5, a6, a7) FU rfl (qou (by have := hl.1; omega))
  · refine key.trans ?_
    unfold idxI
    cases idxO q l <;> simp
  · intro s nx hs
    subst hs
    simp [qbc, idxO]
  · rintro i y r _ nx h1 h2 h3 h4 rfl h5
    have hy := hl.2 y (List.mem_of_getElem? h2)
    have h6 : (i : Int) < (l.length : Int) := by omega
    have hr : r.length = l.length - (i + 1) := by
      have := congrArg List.length h1
      simp at this
      omega
    unfold qbc
    simp only [h6, decide_true, cond_t, ixB_nat, h2, oB_s, hy.1, hq y hy, h4]
    unfold idxO
    cases hqq : q y with
    | true =>
      simp only [cond_t, if_true]
      congr 1
      simp
      omega
    | false =>
      simp only [cond_f, Bool.false_eq_true, if_false]
      rw [h5 _ rfl]
      cases idxO q r with
      | none => rfl
      | some k =>
        simp
        congr 1
        omega
theorem qbpn (l : List AV) (hl : qc4 l) (hn : l.length ≤ 100000) (b0 : Bool) (b1 b2 b3 b4 : Int) (b5 b6 : List UInt8) (b7 : Int) : qor l b0 b1 b2 b3 b4 b5 b6 b7 = some (insF (mkB b0 b1 b2 b3 b4 b5 b6 b7) l) := by
  rw [qz0]; unfold quq
  rw [qba8 l hl _ _ _ _ _ _ _ _ _ (fun y => decide (cmpY y (mkB b0 b1 b2 b3 b4 b5 b6 b7) > 0))]
  · have hc : qbs l = some l := by
      unfold qbs q86
      have : l.length * 80 ≤ 140737488355328 := by omega
      simp [this]
    rw [qvt]; unfold qqu
    have fin : ∀ k : Nat, k ≤ l.length → qws 80 l (k : Int) [mkB b0 b1 b2 b3 b4 b5 b6 b7] = some (l.take k ++ [mkB b0 b1 b2 b3 b4 b5 b6 b7] ++ l.drop k) := fun k hk => by
      unfold qws
      have : (l.length + 1) * 80 ≤ 140737488355328 := by omega
      simp [hk, this]
    show (bif decide (idxI (fun y => decide (cmpY y (mkB b0 b1 b2 b3 b4 b5 b6 b7) > 0)) l < 0) then (oB (qbs l) fun r11 => (bif hd r11 r11.length then (bif hd [mkB b0 b1 b2 b3 b4 b5 b6 b7] ([mkB b0 b1 b2 b3 b4 b5 b6 b7].length) then (oB (qws 80 r11 (l.length : Int) [mkB b0 b1 b2 b3 b4 b5 b6 b7]) fun r12 => (bif hd r12 r12.length then (some r12) else none)) else none) else none)) else (oB (qbs l) fun r11 => (bif hd r11 r11.length then (bif hd [mkB b0 b1 b2 b3 b4 b5 b6 b7] ([mkB b0 b1 b2 b3 b4 b5 b6 b7].length) then (oB (qws 80 r11 (idxI (fun y => decide (cmpY y (mkB b0 b1 b2 b3 b4 b5 b6 b7) > 0)) l) [mkB b0 b1 b2 b3 b4 b5 b6 b7]) fun r12 => (bif hd r12 r12.length then (some r12) else none)) else none) else none))) = _
    rw [qbk1, hc]
    unfold idxI
    cases hq : idxO (fun y => decide (cmpY y (mkB b0 b1 b2 b3 b4 b5 b6 b7) > 0)) l with
    | none =>
      simp only [oB_s, hd_self, cond_t, Option.getD_none]
      rw [fin l.length (Nat.le_refl _)]
      simp
    | some k =>
      obtain ⟨y, hy, _⟩ := q1r l k hq
      have hk := (List.getElem?_eq_some_iff.1 hy).1
      have h0 : ¬ ((k : Int) < 0) := by omega
      simp only [oB_s, hd_self, cond_t, h0, decide_false, cond_f, Option.getD_some]
      rw [fin k (by omega)]
      simp
  · intro z hz kr
    rw [qxl]; unfold qsb
    simp only [qbok, oB_s]
    rfl
theorem qbon {R : Type} {a : List AV} (x : AV) (h : (a.length + 1) * 80 ≤ 140737488355328) (k : Option R) : (bif decide ((a.length + ([x] : List AV).length) * 80 ≤ 140737488355328) then k else none) = k := by
  rw [show ([x] : List AV).length = 1 from rfl, decide_eq_true h]; rfl
def remF (l : List AV) (v : Bool) (hi lo bits : Int) : List AV := l.filter fun y => !atP v hi lo bits y
theorem qbfd {q : AV → Bool} : ∀ (l : List AV) (k : Nat), idxO q l = some k → (∀ (j : Nat) (y : AV), k < j → l[j]? = some y → q y = false) → l.take k ++ l.drop (k + 1) = l.filter fun y => !q y
  | [], k, h, _ => by simp [idxO] at h
  | y :: r, k, h, hu => by
    unfold idxO at h
    cases hq : q y with
    | true =>
      simp [hq] at h
      subst h
      simp only [List.take_zero, List.drop_succ_cons, List.drop_zero, List.nil_append]
      rw [List.filter_cons, hq]
      simp only [Bool.not_true, Bool.false_eq_true, if_false]
      refine (List.filter_eq_self.2 fun z hz => ?_).symm
      obtain ⟨j, hj⟩ := List.getElem?_of_mem hz
      rw [hu (j + 1) z (by omega) (by simpa using hj)]; rfl
    | false =>
      simp [hq] at h
      obtain ⟨k', h1, rfl⟩ := h
      have ih := qbfd r k' h1 (fun j z hj hz => hu (j + 1) z (by omega) (by simpa using hz))
      rw [List.filter_cons, hq]
      simp only [Bool.not_false, if_true, List.take_succ_cons, List.drop_succ_cons, List.cons_append]
      rw [ih]
theorem qg2.uniq {l : List AV} (h : qg2 l) {v : Bool} {hi lo bits : Int} {i j : Nat} {y z : AV} (hy : l[i]? = some y) (hz : l[j]? = some z) (h1 : atP v hi lo bits y = true) (h2 : atP v hi lo bits z = true) : i = j := by
  have key : ∀ {i j : Nat} {y z : AV}, l[i]? = some y → l[j]? = some z → atP v hi lo bits y = true → atP v hi lo bits z = true → ¬ i < j := fun hy hz h1 h2 hij => by
    have := h.sorted _ _ hy _ _ hij hz
    obtain ⟨a, b, c, d⟩ := qt2.1 h1
    obtain ⟨a', b', c', d'⟩ := qt2.1 h2
    unfold ltY at this
    rw [a, b, c, d, a', b', c', d'] at this
    exact qkx this
  have a := key hy hz h1 h2
  have b := key hz hy h2 h1
  omega
theorem qboo (l : List AV) (hn : l.length ≤ 100000) (k : Nat) (hk : k < l.length) : qk5 l (k : Int) = some (l.take k ++ l.drop (k + 1)) := by
  rw [qy6]; unfold qte
  have hc : qbs l = some l := by
    unfold qbs q86
    have : l.length * 80 ≤ 140737488355328 := by omega
    simp [this]
  have hw : IntKind.i64.wrap ((k : Int) + 1) = ((k + 1 : Nat) : Int) := w64 (by omega) (by omega)
  have hd' : q3j l (k : Int) ((k + 1 : Nat) : Int) = some (l.take k ++ l.drop (k + 1)) := by
    unfold q3j
    have : ((0 : Int) ≤ (k : Int) ∧ (k : Int) < ((k + 1 : Nat) : Int) ∧ ((k + 1 : Nat) : Int) ≤ (l.length : Int) ∧ l.length ≤ 9223372036854775807) := ⟨by omega, by omega, by omega, by omega⟩
    simp only [this, and_self, decide_true, cond_t, Int.toNat_natCast]
  simp only [hc, oB_s, hd_self, cond_t, hw, hd']
theorem qbnb (l : List AV) (hn : l.length ≤ 100000) (ht : qg2 l) {v : Bool} {hi lo bits : Int} {k : Nat} (hk : idxO (atP v hi lo bits) l = some k) : qk5 l (k : Int) = some (remF l v hi lo bits) := by
  obtain ⟨y, hy, hf⟩ := q1r l k hk
  rw [qboo l hn k (List.getElem?_eq_some_iff.1 hy).1]
  congr 1
  have hq := List.find?_some hf
  refine qbfd l k hk fun j z hj hz => ?_
  rw [Bool.eq_false_iff]
  intro h2
  have := ht.uniq hy hz hq h2
  omega
def q3k (l : List AV) (v : Bool) (hi lo bits : Int) : List AV × Int :=
  bif !(l.any (atP v hi lo bits)) then ([], 11) else bif occF l v hi lo bits then ([], 25) else (remF l v hi lo bits, 0)
theorem qbqz (q : AV → Bool) (l : List AV) : decide (idxI q l < 0) = !(l.any q) := by
  rw [← q0q, Bool.eq_iff_iff]
  simp
theorem qbq0 {q : AV → Bool} {l : List AV} (h : l.any q = true) : ∃ k, idxO q l = some k ∧ idxI q l = (k : Int) := by
  rw [← q0q] at h
  unfold idxI at *
  cases hq : idxO q l with
  | none => rw [hq] at h; simp at h
  | some k => exact ⟨k, rfl, rfl⟩
theorem qbpo (l : List AV) (hl : qc4 l) (hn : l.length ≤ 100000) (ht : qg2 l) (v : Bool) (hi lo bits : Int) : qos l v hi lo bits = some (q3k l v hi lo bits) := by
  rw [qz4]; unfold quu q3k
  simp only [qbc5 l hl, oB_s, qbfc l hl, qbqz]
  cases ha : l.any (atP v hi lo bits) with
  | false => rfl
  | true =>
    obtain ⟨k, h1, h2⟩ := qbq0 ha
    simp only [Bool.not_true, cond_f]
    cases occF l v hi lo bits with
    | true => rfl
    | false =>
      simp only [cond_f, h2, qbnb l hn ht h1, oB_s]
def addF (l : List AV) (b : AV) : List AV × Int :=
  bif !qpu b then ([], 3) else bif !mayB b then ([], 1) else bif l.any (atP (gB b.cells 0) (gI b.cells 1) (gI b.cells 2) (gI b.cells 3)) then ([], 12) else
  bif l.any (qda b) || occF l (gB b.cells 0) (gI b.cells 1) (gI b.cells 2) (gI b.cells 3) then ([], 24) else bif decide ((l.length : Int) ≥ 512) then ([], 9) else (insF b l, 0)
theorem qg2.may {l : List AV} (ht : qg2 l) {y : AV} (hy : y ∈ l) : mayB y = true := by
  obtain ⟨j, hj⟩ := List.getElem?_of_mem hy
  exact (ht j y hj).may
theorem qg2.mis {l : List AV} (ht : qg2 l) (b : AV) : l.any (misY b) = l.any (qda b) := by
  rw [Bool.eq_iff_iff, List.any_eq_true, List.any_eq_true]
  constructor <;> (rintro ⟨z, hz, hb⟩; refine ⟨z, hz, ?_⟩; simpa [qbmg (ht.may hz)] using hb)
theorem qbsb (l : List AV) (hl : qc4 l) (hn : l.length ≤ 100000) (ht : qg2 l) (b0 : Bool) (b1 b2 b3 b4 : Int) (b5 b6 : List UInt8) (b7 : Int) (hb : qu9 (mkB b0 b1 b2 b3 b4 b5 b6 b7)) : qus l b0 b1 b2 b3 b4 b5 b6 b7 = some (addF l (mkB b0 b1 b2 b3 b4 b5 b6 b7)) := by
  have h1 : qla b0 b1 b2 b3 b4 b5 b6 b7 = some (qvc (mkB b0 b1 b2 b3 b4 b5 b6 b7)) := qbmf (mkB b0 b1 b2 b3 b4 b5 b6 b7) hb
  have h2 : qgp l b0 b1 b2 b3 b4 b5 b6 b7 = some (l.any (misY (mkB b0 b1 b2 b3 b4 b5 b6 b7))) := qbbm l hl (mkB b0 b1 b2 b3 b4 b5 b6 b7)
  rw [q5p]; unfold qz2 addF
  simp only [h1, oB_s, qy5, qtc, h2, qbc5 l hl, q0q, qbfc l hl, qbpn l hl hn, ht.mis]
  rw [show (gB (mkB b0 b1 b2 b3 b4 b5 b6 b7).cells 0) = b0 from rfl, show (gI (mkB b0 b1 b2 b3 b4 b5 b6 b7).cells 1) = b1 from rfl, show (gI (mkB b0 b1 b2 b3 b4 b5 b6 b7).cells 2) = b2 from rfl, show (gI (mkB b0 b1 b2 b3 b4 b5 b6 b7).cells 3) = b3 from rfl]
  unfold qvc
  cases qpu (mkB b0 b1 b2 b3 b4 b5 b6 b7) with
  | false => rfl
  | true =>
    cases mayB (mkB b0 b1 b2 b3 b4 b5 b6 b7) with
    | false => rfl
    | true =>
      simp only [Bool.not_true, cond_f, bne_self_eq_false]
      cases l.any (atP b0 b1 b2 b3) <;> cases l.any (qda (mkB b0 b1 b2 b3 b4 b5 b6 b7)) <;> cases occF l b0 b1 b2 b3 <;> cases decide ((l.length : Int) ≥ 512) <;> rfl
end Go.Proofs.Ytmfghgaboaocgaa.Dn
