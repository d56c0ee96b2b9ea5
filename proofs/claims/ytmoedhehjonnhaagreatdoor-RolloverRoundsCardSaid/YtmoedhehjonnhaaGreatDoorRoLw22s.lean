/- The law of RolloverRounds. -/
import Derived.Test.YtmoedhehjonnhaaGreatDoorRoLw22r
set_option linter.all false
namespace Go.Proofs.YtmoedhehjonnhaaGreatDoor.Dn
open Go Go.Pev
set_option linter.unusedVariables false
set_option linter.unusedSimpArgs false
set_option maxRecDepth 100000
def ZC (L : List Mg) (w R : Int) : Prop := ∀ t1 t2, 0 ≤ t1 → 0 ≤ t2 → t1 < R → t1 - t2 ≤ w → t2 - t1 ≤ w → ∃ e, e ∈ L ∧ e.k = false ∧ mSig e t1 = true ∧ mPub e t2 = true
def KC (L : List Mg) (w R : Int) : Prop := ∀ t1 t2, 0 ≤ t1 → 0 ≤ t2 → t1 < R → t2 < R → t1 - t2 ≤ w → t2 - t1 ≤ w → ∃ e, e ∈ L ∧ e.k = true ∧ mSig e t1 = true ∧ mSig e t2 = true
theorem qtg {k : Bool} {now w : Int} {L : List Mg} {e e' : Mg} (h : e ∈ L) (h2 : qho k now w e = some e') : e' ∈ qch k now w L := by
  unfold qch
  exact List.mem_filterMap.2 ⟨e, h, h2⟩
theorem qxv {k : Bool} {now w : Int} {e : Mg} (h : e.k ≠ k) : qho k now w e = some e := by
  unfold qho
  have : (e.k == k) = false := by simpa using h
  rw [this]
  rfl
theorem q0l {k : Bool} {now w : Int} {e : Mg} (h : e.k = k) (h2 : e.a ≤ now + w) : ∃ e', qho k now w e = some e' ∧ e'.k = e.k ∧ e'.p = e.p ∧ e'.a = e.a ∧ ((e'.r = e.r ∧ e'.m = e.m ∧ e.r ≤ now + w) ∨ (e'.r = now + w ∧ e'.m = now + 2 * w)) := by
  unfold qho
  have h1 : (e.k == k) = true := by simpa using h
  rw [h1, cond_t, decide_eq_false (show ¬ e.a > now + w by omega), cond_f]
  by_cases h3 : e.r > now + w
  · rw [decide_eq_true h3, cond_t]
    exact ⟨_, rfl, rfl, rfl, rfl, .inr ⟨rfl, rfl⟩⟩
  · rw [decide_eq_false h3, cond_f]
    exact ⟨_, rfl, rfl, rfl, rfl, .inl ⟨rfl, rfl, by omega⟩⟩
theorem qg0 {e : Mg} {t : Int} : mSig e t = true ↔ e.a ≤ t ∧ t < e.r := by
  unfold mSig; simp only [Bool.and_eq_true, decide_eq_true_eq]
theorem qwj {e : Mg} {t : Int} : mPub e t = true ↔ e.p ≤ t ∧ t < e.m := by
  unfold mPub; simp only [Bool.and_eq_true, decide_eq_true_eq]
theorem qbdh {L : List Mg} {w R : Int} (h : ZC L w R) (k : Bool) (z : List UInt8) (s now life : Int) (hn : 0 ≤ now) (hw : 0 ≤ w) (hR : now + w < R) (hl : R ≤ life) : ZC (qch k now w L ++ [newK z k s now w life]) w R := by
  intro t1 t2 a1 a2 a3 d1 d2
  cases k with
  | true =>
    obtain ⟨e, h1, h2, h3, h4⟩ := h t1 t2 a1 a2 a3 d1 d2
    exact ⟨e, List.mem_append.2 (.inl (qtg h1 (qxv (by rw [h2]; simp)))), h2, h3, h4⟩
  | false =>
    by_cases ht : t1 < now + w
    · obtain ⟨e, h1, h2, h3, h4⟩ := h t1 t2 a1 a2 a3 d1 d2
      rw [qg0] at h3
      rw [qwj] at h4
      obtain ⟨e', h5, h6, h7, h8, h9⟩ := q0l (now := now) (w := w) h2 (by omega)
      refine ⟨e', List.mem_append.2 (.inl (qtg h1 h5)), by rw [h6, h2], qg0.2 ?_, qwj.2 ?_⟩ <;> omega
    · refine ⟨newK z false s now w life, List.mem_append.2 (.inr (by simp)), rfl, qg0.2 ?_, qwj.2 ?_⟩
      · show now + w ≤ t1 ∧ t1 < now + w + life
        omega
      · show now ≤ t2 ∧ t2 < now + w + life + w
        omega
theorem qbdi {L : List Mg} {w R : Int} (h : KC L w R) (k : Bool) (z : List UInt8) (s now life : Int) (hn : 0 ≤ now) (hw : 0 ≤ w) (hR : now + w < R) (hl : R ≤ life) : KC (qch k now w L ++ [newK z k s now w life]) w R := by
  intro t1 t2 a1 a2 a3 a4 d1 d2
  cases k with
  | false =>
    obtain ⟨e, h1, h2, h3, h4⟩ := h t1 t2 a1 a2 a3 a4 d1 d2
    exact ⟨e, List.mem_append.2 (.inl (qtg h1 (qxv (by rw [h2]; simp)))), h2, h3, h4⟩
  | true =>
    by_cases ht : t1 < now + w ∧ t2 < now + w
    · obtain ⟨e, h1, h2, h3, h4⟩ := h t1 t2 a1 a2 a3 a4 d1 d2
      rw [qg0] at h3 h4
      obtain ⟨e', h5, h6, h7, h8, h9⟩ := q0l (now := now) (w := w) h2 (by omega)
      refine ⟨e', List.mem_append.2 (.inl (qtg h1 h5)), by rw [h6, h2], qg0.2 ?_, qg0.2 ?_⟩ <;> omega
    · refine ⟨newK z true s now w life, List.mem_append.2 (.inr (by simp)), rfl, qg0.2 ?_, qg0.2 ?_⟩
      · show now ≤ t1 ∧ t1 < now + life
        omega
      · show now ≤ t2 ∧ t2 < now + life
        omega
theorem q5p {L : List Mg} {w R u : Int} (hz : ZC L w R) (hk : KC L w R) (hu : u < R) : qv3 L w 0 u := by
  intro t1 t2 a1 a2 b1 b2 d1 d2
  obtain ⟨e, h1, h2, h3, h4⟩ := hz t1 t2 a1 b1 (by omega) d1 d2
  obtain ⟨f, g1, g2, g3, g4⟩ := hk t1 t2 a1 b1 (by omega) (by omega) d1 d2
  unfold qgz
  rw [List.any_eq_true.2 ⟨e, h1, by unfold sv1; rw [h2, h3, h4]; rfl⟩, List.any_eq_true.2 ⟨f, g1, by unfold sv2; rw [g2, g3, g4]; rfl⟩]
  rfl
theorem q67 (z0 : List UInt8) : ∀ (L : List Mg) (tags : List Int), (∀ e, e ∈ L → badT e = false) → chkS z0 tags L = 0 ∨ chkS z0 tags L = 18
  | [], _, _ => .inl rfl
  | x :: L, tags, h => by
    unfold chkS
    cases errD x.z x.s != 0 || !(x.z == z0) with
    | true => exact .inr rfl
    | false =>
      rw [cond_f]
      cases tags.contains (tagM x) with
      | true => exact .inr rfl
      | false =>
        rw [cond_f, h x (by simp), cond_f]
        exact q67 z0 L _ fun e he => h e (by simp [he])
theorem qber {L : List Mg} (hl : L.length ≤ 16) (h : ∀ e, e ∈ L → badT e = false) : chk L = 0 ∨ chk L = 18 := by
  unfold chk
  rw [decide_eq_false (show ¬ (L.length : Int) > 16 by omega), cond_f]
  exact q67 _ L [] h
theorem ql8 {e : Mg} (h : 0 ≤ e.p ∧ e.p ≤ e.a ∧ e.a ≤ e.r ∧ e.r ≤ e.m ∧ e.m ≤ 4294967295) : badT e = false := by
  unfold badT
  simp only [Bool.or_eq_false_iff, decide_eq_false_iff_not]
  omega
theorem qbbo {L : List Mg} (hc : chk L = 0) (k : Bool) (z : List UInt8) (s now w : Int) (hn : 0 ≤ now) (hn2 : now ≤ 1000000) (hw : 0 ≤ w) (hw2 : w ≤ 1000) : ∀ e, e ∈ qch k now w L ++ [newK z k s now w 100000] → badT e = false := by
  intro e he
  rcases List.mem_append.1 he with he | he
  · unfold qch at he
    obtain ⟨x, h1, h2⟩ := List.mem_filterMap.1 he
    have hb := qyr ((q5k hc).2 x h1).2.2
    unfold qho at h2
    cases h3 : x.k == k with
    | false =>
      rw [h3, cond_f] at h2
      obtain rfl := Option.some.inj h2
      exact ql8 hb
    | true =>
      rw [h3, cond_t] at h2
      by_cases h4 : x.a > now + w
      · rw [decide_eq_true h4] at h2; cases h2
      · rw [decide_eq_false h4, cond_f] at h2
        by_cases h5 : x.r > now + w
        · rw [decide_eq_true h5, cond_t] at h2
          obtain rfl := Option.some.inj h2
          exact ql8 (by show 0 ≤ x.p ∧ x.p ≤ x.a ∧ x.a ≤ now + w ∧ now + w ≤ now + 2 * w ∧ now + 2 * w ≤ 4294967295; omega)
        · rw [decide_eq_false h5, cond_f] at h2
          obtain rfl := Option.some.inj h2
          exact ql8 hb
  · rw [List.mem_singleton] at he
    subst he
    cases k
    · exact ql8 (by show 0 ≤ now ∧ now ≤ now + w ∧ now + w ≤ now + w + 100000 ∧ now + w + 100000 ≤ now + w + 100000 + w ∧ now + w + 100000 + w ≤ 4294967295; omega)
    · exact ql8 (by show 0 ≤ now ∧ now ≤ now ∧ now ≤ now + 100000 ∧ now + 100000 ≤ now + 100000 + w ∧ now + 100000 + w ≤ 4294967295; omega)
theorem qbbp {L : List Mg} (hc : chk L = 0) (hl : L.length ≤ 15) (k : Bool) (z : List UInt8) (s now w : Int) (hn : 0 ≤ now) (hn2 : now ≤ 1000000) (hw : 0 ≤ w) (hw2 : w ≤ 1000) :
    (qmk L z k s now w 100000).2 = 18 ∨ (qmk L z k s now w 100000 = (qch k now w L ++ [newK z k s now w 100000], 0) ∧ chk (qch k now w L ++ [newK z k s now w 100000]) = 0) := by
  have hb := qbbo hc k z s now w hn hn2 hw hw2
  have hlen := qv2 k now w L
  have h18 := qber (L := qch k now w L ++ [newK z k s now w 100000]) (by rw [List.length_append, List.length_singleton]; omega) hb
  have hm : (newK z k s now w 100000).m ≤ 4294967295 := (qyr (hb _ (List.mem_append.2 (.inr (by simp))))).2.2.2.2
  unfold qmk
  rw [hc]
  have h0 : ((0 : Int) != 0) = false := rfl
  have hbn : badN now w 100000 = false := by
    unfold badN
    simp only [Bool.or_eq_false_iff, decide_eq_false_iff_not]
    omega
  rw [h0, cond_f, hbn, cond_f, decide_eq_false (show ¬ (newK z k s now w 100000).m > 4294967295 by omega), decide_eq_false (show ¬ now + 2 * w > 4294967295 by omega), Bool.or_self, cond_f]
  rcases h18 with h | h
  · right
    rw [h, h0, cond_f]
    exact ⟨rfl, rfl⟩
  · left
    rw [h]
    rfl
def rd1 (w : Int) : Mg := ⟨exN, false, 1000, 0, 0, 100000, 100000 + w⟩
def rd2 (w : Int) : Mg := ⟨exN, true, 1001, 0, 0, 100000, 100000 + w⟩
theorem qbes (w : Int) (h : 0 ≤ w) (h2 : w ≤ 255) : chk [rd1 w, rd2 w] = 0 := by
  have e1 : (errD exN 1000 != 0) = false := by decide +kernel
  have e2 : (errD exN 1001 != 0) = false := by decide +kernel
  have e3 : (tagK exN false 1000 == tagK exN true 1001) = false := by decide +kernel
  have b1 : badT (rd1 w) = false := ql8 (by show (0 : Int) ≤ 0 ∧ (0 : Int) ≤ 0 ∧ (0 : Int) ≤ 100000 ∧ (100000 : Int) ≤ 100000 + w ∧ 100000 + w ≤ 4294967295; omega)
  have b2 : badT (rd2 w) = false := ql8 (by show (0 : Int) ≤ 0 ∧ (0 : Int) ≤ 0 ∧ (0 : Int) ≤ 100000 ∧ (100000 : Int) ≤ 100000 + w ∧ 100000 + w ≤ 4294967295; omega)
  have z0 : qwi [rd1 w, rd2 w] = exN := rfl
  have l2 : decide ((([rd1 w, rd2 w] : List Mg).length : Int) > 16) = false := rfl
  unfold chk
  rw [l2, cond_f, z0]
  have hz : (exN == exN) = true := beq_self_eq_true exN
  have c1 : (errD (rd1 w).z (rd1 w).s != 0 || !((rd1 w).z == exN)) = false := by
    show (errD exN 1000 != 0 || !(exN == exN)) = false
    rw [e1, hz]; rfl
  have c2 : (errD (rd2 w).z (rd2 w).s != 0 || !((rd2 w).z == exN)) = false := by
    show (errD exN 1001 != 0 || !(exN == exN)) = false
    rw [e2, hz]; rfl
  unfold chkS
  rw [c1, cond_f]
  have n1 : ([] : List Int).contains (tagM (rd1 w)) = false := rfl
  rw [n1, cond_f, b1, cond_f]
  unfold chkS
  rw [c2, cond_f]
  have n2 : ([] ++ [tagM (rd1 w)] : List Int).contains (tagM (rd2 w)) = false := by
    show (tagM (rd2 w) == tagM (rd1 w) || ([] : List Int).contains (tagM (rd2 w))) = false
    have : (tagM (rd2 w) == tagM (rd1 w)) = false := by
      show (tagK exN true 1001 == tagK exN false 1000) = false
      rw [Bool.beq_comm, e3]
    rw [this]; rfl
  rw [n2, cond_f, b2, cond_f]
  rfl
theorem law_RolloverRounds (w : Int) (l : List AV) (hw : IntKind.u8.min ≤ w ∧ w ≤ IntKind.u8.max) (hl : l.length ≤ 9223372036854775807) (hf : ∀ y, y ∈ l → fitC [(.i .u8)] y.cells = true ∧ (IntKind.u8.min ≤ gI y.cells 0 ∧ gI y.cells 0 ≤ IntKind.u8.max)) : qd8 w l = some true := by
  have hw0 : 0 ≤ w ∧ w ≤ 255 := hw
  rw [qm4]
  unfold qdl
  rw [ql7, oB_s, ql7, oB_s, w64 (show -9223372036854775808 ≤ w by omega) (by omega), w64 (show -9223372036854775808 ≤ 100000 + w by omega) (by omega)]
  have e0 : ([(.agg [(.str (gS (AV.agg [.str exN, .bool false, .int .i64 1000]).cells 0)), (.bool (gB (AV.agg [.str exN, .bool false, .int .i64 1000]).cells 1)), (.int .i64 (gI (AV.agg [.str exN, .bool false, .int .i64 1000]).cells 2)), (.int .i64 0), (.int .i64 0), (.int .i64 (100000 : Int)), (.int .i64 (100000 + w))]), (.agg [(.str (gS (AV.agg [.str exN, .bool true, .int .i64 1001]).cells 0)), (.bool (gB (AV.agg [.str exN, .bool true, .int .i64 1001]).cells 1)), (.int .i64 (gI (AV.agg [.str exN, .bool true, .int .i64 1001]).cells 2)), (.int .i64 0), (.int .i64 0), (.int .i64 (100000 : Int)), (.int .i64 (100000 + w))])] : List AV) = mgL [rd1 w, rd2 w] := rfl
  rw [e0, hd_self, cond_t, qk6]
  refine q6x (σ := List AV × Int × Int) (fun n s => qb3 l w _ n s.1 s.2.1 s.2.2) (fun s nx => qcf l w s.1 s.2.1 s.2.2 (fun x y z => nx (x, y, z)) _) (fun n s => rfl)
    (fun s => ∃ (L : List Mg) (i : Nat), s.1 = mgL L ∧ s.2.2 = i ∧ i ≤ 10 ∧ chk L = 0 ∧ qjk L ∧ L.length ≤ 2 + i ∧ 0 ≤ s.2.1 ∧ s.2.1 ≤ 1100 * i ∧ ZC L w 100000 ∧ KC L w 100000) (fun s => (10 - s.2.2).toNat) (fun _ => some true) (fun s hI nx hnx => ?_) FU (mgL [rd1 w, rd2 w], 0, 0) ⟨[rd1 w, rd2 w], 0, rfl, rfl, by omega, qbes w hw0.1 hw0.2, ?_, by simp, by simp, by simp, ?_, ?_⟩ (qek (by simp))
  · obtain ⟨x, now, c⟩ := s
    obtain ⟨L, i, h1, h2, h3, hc, hz, hlen, n0, n1, hZ, hK⟩ := hI
    dsimp only at h1 h2 n0 n1
    subst h1 h2
    dsimp only
    unfold qcf
    by_cases hgo : i < l.length ∧ i < 10
    · rw [decide_eq_true (show (i : Int) < (l.length : Int) by omega), decide_eq_true (show (i : Int) < 10 by omega), Bool.and_self, cond_t, ixB_nat, List.getElem?_eq_getElem hgo.1, oB_s]
      obtain ⟨f1, f2⟩ := hf _ (List.getElem_mem hgo.1)
      have f3 : 0 ≤ gI (l[i]'hgo.1).cells 0 ∧ gI (l[i]'hgo.1).cells 0 ≤ 255 := f2
      rw [f1, cond_t]
      generalize gI (l[i]'hgo.1).cells 0 = y at f3 ⊢
      have ht : (i : Int).tmod 2 = (i % 2 : Nat) := by
        rw [Int.tmod_eq_emod_of_nonneg (by omega)]; omega
      rw [w64 (show -9223372036854775808 ≤ 3 * w by omega) (by omega), w64 (show -9223372036854775808 ≤ 3 * w + 1 by omega) (by omega), w64 (show -9223372036854775808 ≤ y by omega) (by omega), w64 (show -9223372036854775808 ≤ 3 * w + 1 + y by omega) (by omega), w64 (show -9223372036854775808 ≤ now + (3 * w + 1 + y) by omega) (by omega), ql7, oB_s]
      generalize ((i : Int).tmod 2 == 1) = k
      generalize hnow : now + (3 * w + 1 + y) = now'
      have eR : qe2 (mgL L) (gS (AV.agg [.str exN, .bool k, .int .i64 (i : Int)]).cells 0) (gB (AV.agg [.str exN, .bool k, .int .i64 (i : Int)]).cells 1) (gI (AV.agg [.str exN, .bool k, .int .i64 (i : Int)]).cells 2) now' w 100000 = some (mgL (qmk L exN k i now' w 100000).1, (qmk L exN k i now' w 100000).2) := q9z L (by omega) hz exN (by decide) k i now' w 100000
      rw [eR, oB_s]
      dsimp only
      rcases qbbp hc (by omega) k exN i now' w (by omega) (by omega) (by omega) (by omega) with h18 | ⟨hr, hc'⟩
      · rw [h18, q63]
        rfl
      · rw [hr]
        have h0 : ((0 : Int) != 0) = false := rfl
        rw [h0, cond_f, w64 (show -9223372036854775808 ≤ (i : Int) + 1 by omega) (by omega)]
        refine hnx (_, now', (i : Int) + 1) ⟨_, i + 1, rfl, rfl, by omega, hc', ?_, ?_, by show 0 ≤ now'; omega, by show now' ≤ 1100 * ((i + 1 : Nat) : Int); omega, ?_, ?_⟩ ?_
        · intro e he
          rcases List.mem_append.1 he with h | h
          · exact qxu hz e h
          · rw [List.mem_singleton] at h; subst h; exact (by decide : exN.length ≤ 1000000)
        · have := qv2 k now' w L
          rw [List.length_append, List.length_singleton]; omega
        · exact qbdh hZ k exN i now' 100000 (by omega) (by omega) (by omega) (by omega)
        · exact qbdi hK k exN i now' 100000 (by omega) (by omega) (by omega) (by omega)
        · show (10 - ((i : Int) + 1)).toNat < (10 - (i : Int)).toNat
          omega
    · have hno : (decide ((i : Int) < (l.length : Int)) && decide ((i : Int) < 10)) = false := by
        simp only [Bool.and_eq_false_iff, decide_eq_false_iff_not]
        omega
      rw [hno, cond_f]
      dsimp only
      rw [qrq L (by omega) hz, oB_s, hc]
      have h0 : ((0 : Int) == 0) = true := rfl
      rw [h0, cond_t, w64 (show -9223372036854775808 ≤ now + w by omega) (by omega), w64 (show -9223372036854775808 ≤ now + w + 1000 by omega) (by omega), q5m L (by omega) hz, oB_s]
      have hr : qir w 0 (now + w + 1000) = false := by
        unfold qir
        simp only [Bool.or_eq_false_iff, decide_eq_false_iff_not]
        omega
      rw [(q98 hc hr).2 (q5p hZ hK (by omega)), cond_t, q63]
      rfl
  · intro e he
    simp at he
    rcases he with rfl | rfl <;> exact (by decide : exN.length ≤ 1000000)
  · intro t1 t2 a1 a2 a3 d1 d2
    refine ⟨rd1 w, by simp, rfl, qg0.2 ?_, qwj.2 ?_⟩
    · show (0 : Int) ≤ t1 ∧ t1 < 100000
      omega
    · show (0 : Int) ≤ t2 ∧ t2 < 100000 + w
      omega
  · intro t1 t2 a1 a2 a3 a4 d1 d2
    refine ⟨rd2 w, by simp, rfl, qg0.2 ?_, qg0.2 ?_⟩
    · show (0 : Int) ≤ t1 ∧ t1 < 100000
      omega
    · show (0 : Int) ≤ t2 ∧ t2 < 100000
      omega
end Go.Proofs.YtmoedhehjonnhaaGreatDoor.Dn
