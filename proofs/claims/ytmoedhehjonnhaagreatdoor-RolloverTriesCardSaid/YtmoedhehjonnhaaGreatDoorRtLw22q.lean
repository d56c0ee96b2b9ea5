/- The law of RolloverTries. -/
import Derived.Test.YtmoedhehjonnhaaGreatDoorRtLw22p
set_option linter.all false
namespace Go.Proofs.YtmoedhehjonnhaaGreatDoor.Dn
open Go Go.Pev
set_option linter.unusedVariables false
set_option linter.unusedSimpArgs false
set_option maxRecDepth 8000
def keq (a b : Mg) : Bool := a.z == b.z && (a.k == b.k && (a.s == b.s && true))
theorem qbfg {a b : Mg} (h : keq a b = true) : tagM a = tagM b := by
  unfold keq at h
  simp only [Bool.and_eq_true, beq_iff_eq] at h
  unfold tagM
  rw [h.1, h.2.1, h.2.2.1]
theorem q7f (a : Mg) : keq a a = true := by simp [keq]
theorem q4f (z0 : List UInt8) : ∀ (L : List Mg) (tags : List Int), chkS z0 tags L = 0 → (∀ e, e ∈ L → tagM e ∉ tags) ∧ L.Pairwise (fun a b => tagM a ≠ tagM b)
  | [], _, _ => by simp
  | x :: L, tags, h => by
    unfold chkS at h
    cases h1 : errD x.z x.s != 0 || !(x.z == z0) with
    | true => rw [h1] at h; simp at h
    | false =>
      rw [h1, cond_f] at h
      cases h2 : tags.contains (tagM x) with
      | true => rw [h2] at h; simp at h
      | false =>
        rw [h2, cond_f] at h
        cases h3 : badT x with
        | true => rw [h3] at h; simp at h
        | false =>
          rw [h3, cond_f] at h
          obtain ⟨h4, h5⟩ := q4f z0 L _ h
          refine ⟨fun e he => ?_, ?_⟩
          · rcases List.mem_cons.1 he with rfl | he
            · simpa using h2
            · intro h6
              exact h4 e he (List.mem_append.2 (.inl h6))
          · rw [List.pairwise_cons]
            refine ⟨fun e he h6 => h4 e he ?_, h5⟩
            rw [← h6]
            simp
theorem qbdk {L : List Mg} (h : chk L = 0) : L.Pairwise (fun a b => tagM a ≠ tagM b) := by
  unfold chk at h
  cases h1 : decide ((L.length : Int) > 16) with
  | true => rw [h1] at h; simp at h
  | false =>
    rw [h1, cond_f] at h
    exact (q4f _ L [] h).2
theorem q7g {α β : Type} (g : α → β) : ∀ {L : List α}, L.Pairwise (fun a b => g a ≠ g b) → ∀ a b, a ∈ L → b ∈ L → g a = g b → a = b
  | [], _, a, b, ha, _, _ => by simp at ha
  | x :: L, h, a, b, ha, hb, e => by
    rw [List.pairwise_cons] at h
    rcases List.mem_cons.1 ha with h1 | h1
    · rcases List.mem_cons.1 hb with h2 | h2
      · rw [h1, h2]
      · rw [h1] at e; exact absurd e (h.1 b h2)
    · rcases List.mem_cons.1 hb with h2 | h2
      · rw [h2] at e; exact absurd e.symm (h.1 a h1)
      · exact q7g g h.2 a b h1 h2 e
theorem q8v {L : List Mg} (h : chk L = 0) {a b : Mg} (ha : a ∈ L) (hb : b ∈ L) (e : keq a b = true) : a = b := q7g tagM (qbdk h) a b ha hb (qbfg e)
theorem q29 (L : List Mg) (i : Nat) : (kyL L)[i]? = (L[i]?).map Mg.key := by simp [kyL]
theorem qbhd (l : List AV) (v5 v7 v8 : Int) (v6 v10 : Bool) (v91 : List AV) (v92 v93 : Int) (M : List Mg) (hM : M.length ≤ 1000000) (w f u : Int) (a : Mg) (z : Bool) (kx : Bool → Option Bool) :
    qfn l v5 v6 v7 v8 v10 v91 v92 v93 (kyL M) (M.length : Int) w f u a.z a.k a.s kx FU z 0 = kx (z || M.any fun b => keq a b && !a.k) := by
  rw [qms]
  exact qcf (σ := Bool) M (by omega) (fun n i s => qb8 l v5 v6 v7 v8 v10 v91 v92 v93 (kyL M) (M.length : Int) w f u a.z a.k a.s kx n s i) (fun i s nx => qb7 l v5 v6 v7 v8 s v10 v91 v92 v93 (kyL M) (M.length : Int) i w f u a.z a.k a.s (fun x j => nx j x) kx) (fun n i s => rfl)
    (fun _ _ => True) (fun r s => kx (s || r.any fun b => keq a b && !a.k)) (fun s nx _ => by
      unfold qb7
      rw [decide_eq_false (show ¬ (M.length : Int) < (M.length : Int) by omega), cond_f]
      simp)
    (fun i b r s nx h1 h2 h3 h4 _ hnx => by
      have hg : (kyL M)[i]? = some b.key := by rw [q29, h2]; rfl
      unfold qb7
      rw [decide_eq_true (show (i : Int) < (M.length : Int) by omega), cond_t, ixB_nat, hg, oB_s, q26, cond_t, h4, List.any_cons]
      have hk : ((a.z == (gS b.key.cells 0)) && ((a.k == (gB b.key.cells 1)) && ((a.s == (gI b.key.cells 2)) && true))) = keq a b := rfl
      rw [hk]
      dsimp only
      rw [hnx true trivial, hnx (!a.k) trivial, hnx false trivial]
      cases s <;> cases keq a b <;> cases a.k <;> simp) z FU trivial (qcr (by omega))
theorem qbhe (l : List AV) (v5 v7 v8 : Int) (v6 v9 : Bool) (v91 : List AV) (v92 v93 : Int) (M : List Mg) (hM : M.length ≤ 1000000) (w f u : Int) (a : Mg) (z : Bool) (kx : Bool → Option Bool) :
    qfo l v5 v6 v7 v8 v9 v91 v92 v93 (kyL M) (M.length : Int) w f u a.z a.k a.s kx FU z 0 = kx (z || M.any fun b => keq a b) := by
  rw [qmt]
  exact qcf (σ := Bool) M (by omega) (fun n i s => qca l v5 v6 v7 v8 v9 v91 v92 v93 (kyL M) (M.length : Int) w f u a.z a.k a.s kx n s i) (fun i s nx => qb9 l v5 v6 v7 v8 v9 s v91 v92 v93 (kyL M) (M.length : Int) i w f u a.z a.k a.s (fun x j => nx j x) kx) (fun n i s => rfl)
    (fun _ _ => True) (fun r s => kx (s || r.any fun b => keq a b)) (fun s nx _ => by
      unfold qb9
      rw [decide_eq_false (show ¬ (M.length : Int) < (M.length : Int) by omega), cond_f]
      simp)
    (fun i b r s nx h1 h2 h3 h4 _ hnx => by
      have hg : (kyL M)[i]? = some b.key := by rw [q29, h2]; rfl
      unfold qb9
      rw [decide_eq_true (show (i : Int) < (M.length : Int) by omega), cond_t, ixB_nat, hg, oB_s, q26, cond_t, h4, List.any_cons]
      have hk : ((a.z == (gS b.key.cells 0)) && ((a.k == (gB b.key.cells 1)) && ((a.s == (gI b.key.cells 2)) && true))) = keq a b := rfl
      rw [hk]
      dsimp only
      rw [hnx _ trivial, Bool.or_assoc]) z FU trivial (qcr (by omega))
def zTry (P : List Mg) (a : Mg) : Bool := P.any fun b => keq a b && !a.k
def kTry (T : List Mg) (a : Mg) : Bool := T.any fun b => keq a b
theorem qbhf (L : List Mg) (hL : L.length ≤ 1000000) (v5 v7 t2 : Int) (v6 : Bool) (A : List Mg) (hA : A.length ≤ 1000000) (w f u : Int) (kx : Bool → Bool → Option Bool) :
    qfp (mgL L) v5 v6 v7 t2 (kyL A) (A.length : Int) w f u kx FU false false 0 = kx (A.any (zTry (L.filter fun e => mPub e t2))) (A.any (kTry (L.filter fun e => mTru e t2))) := by
  rw [qmu]
  refine (qcf (σ := Bool × Bool) A (by omega) (fun n i s => qcc (mgL L) v5 v6 v7 t2 (kyL A) (A.length : Int) w f u kx n s.1 s.2 i) (fun i s nx => qcb (mgL L) v5 v6 v7 t2 s.1 s.2 (kyL A) (A.length : Int) i w f u (fun x y j => nx j (x, y)) kx) (fun n i s => rfl)
    (fun _ _ => True) (fun r s => kx (s.1 || r.any (zTry (L.filter fun e => mPub e t2))) (s.2 || r.any (kTry (L.filter fun e => mTru e t2)))) (fun s nx _ => by
      unfold qcb
      rw [decide_eq_false (show ¬ (A.length : Int) < (A.length : Int) by omega), cond_f]
      simp)
    (fun i a r s nx h1 h2 h3 h4 _ hnx => by
      have hg : (kyL A)[i]? = some a.key := by rw [q29, h2]; rfl
      obtain ⟨z, k⟩ := s
      unfold qcb
      have l1 : (L.filter fun e => mPub e t2).length ≤ L.length := List.length_filter_le _ _
      have l2 : (L.filter fun e => mTru e t2).length ≤ L.length := List.length_filter_le _ _
      rw [decide_eq_true (show (i : Int) < (A.length : Int) by omega), cond_t, ixB_nat, hg, oB_s, q26, cond_t, qzb L t2 hL, oB_s, q25]
      refine (qbhd (mgL L) v5 v7 t2 v6 k _ _ _ _ (by omega) w f u a z _).trans ?_
      rw [qbbq L t2 hL, oB_s, q25]
      refine (qbhe (mgL L) v5 v7 t2 v6 _ _ _ _ _ (by omega) w f u a k _).trans ?_
      dsimp only
      rw [h4, hnx _ trivial, List.any_cons, List.any_cons, Bool.or_assoc, Bool.or_assoc]
      rfl) (false, false) FU trivial (qcr (by omega))).trans ?_
  simp
theorem q9s {L : List Mg} (hc : chk L = 0) (t1 t2 : Int) : (((L.filter fun e => mSig e t1).any (zTry (L.filter fun e => mPub e t2))) && ((L.filter fun e => mSig e t1).any (kTry (L.filter fun e => mTru e t2)))) = qfl L t1 t2 := by
  unfold qfl
  congr 1
  · rw [Bool.eq_iff_iff, List.any_eq_true, List.any_eq_true]
    constructor
    · rintro ⟨a, h1, h2⟩
      unfold zTry at h2
      obtain ⟨b, h3, h4⟩ := List.any_eq_true.1 h2
      rw [List.mem_filter] at h1 h3
      rw [Bool.and_eq_true] at h4
      have := q8v hc h1.1 h3.1 h4.1
      subst this
      exact ⟨a, h1.1, by unfold sv1; rw [h1.2, h3.2, h4.2]; rfl⟩
    · rintro ⟨a, h1, h2⟩
      unfold sv1 at h2
      simp only [Bool.and_eq_true] at h2
      refine ⟨a, List.mem_filter.2 ⟨h1, h2.2.1⟩, ?_⟩
      unfold zTry
      exact List.any_eq_true.2 ⟨a, List.mem_filter.2 ⟨h1, h2.2.2⟩, by rw [q7f, h2.1]; rfl⟩
  · rw [Bool.eq_iff_iff, List.any_eq_true, List.any_eq_true]
    constructor
    · rintro ⟨a, h1, h2⟩
      unfold kTry at h2
      obtain ⟨b, h3, h4⟩ := List.any_eq_true.1 h2
      rw [List.mem_filter] at h1 h3
      have := q8v hc h1.1 h3.1 h4
      subst this
      have h5 := h3.2
      unfold mTru at h5
      rw [Bool.and_eq_true] at h5
      exact ⟨a, h1.1, by unfold sv2; rw [h1.2, h5.1, h5.2]; rfl⟩
    · rintro ⟨a, h1, h2⟩
      unfold sv2 at h2
      simp only [Bool.and_eq_true] at h2
      refine ⟨a, List.mem_filter.2 ⟨h1, h2.2.1⟩, ?_⟩
      unfold kTry
      exact List.any_eq_true.2 ⟨a, List.mem_filter.2 ⟨h1, by show mTru a t2 = true; unfold mTru; rw [h2.1, h2.2.2]; rfl⟩, q7f a⟩
def allT (g : Int → Bool) : Nat → Int → Bool
  | 0, _ => true
  | n + 1, t => g t && allT g n (t + 1)
theorem qux (g : Int → Bool) : ∀ (n : Nat) (t : Int), allT g n t = true ↔ ∀ x, t ≤ x → x < t + n → g x = true
  | 0, t => by
    constructor
    · intro _ x h1 h2; omega
    · intro _; rfl
  | n + 1, t => by
    unfold allT
    rw [Bool.and_eq_true, qux g n (t + 1)]
    constructor
    · rintro ⟨h1, h2⟩ x h3 h4
      by_cases h : x = t
      · subst h; exact h1
      · exact h2 x (by omega) (by omega)
    · intro h
      exact ⟨h t (by omega) (by omega), fun x h1 h2 => h x (by omega) (by omega)⟩
def tryP (L : List Mg) (w t1 t2 : Int) : Bool := (decide (t1 - t2 > w) || decide (t2 - t1 > w)) || qfl L t1 t2
theorem qbhg (L : List Mg) (hL : L.length ≤ 1000000) (hc : chk L = 0) (w f u0 : Int) (u t1 : Int) (h0 : 0 ≤ f) (hu : u ≤ 4294967295) (h1 : 0 ≤ t1) (h2 : t1 ≤ 4294967295) (s : Bool) (hfu : f ≤ u) (kx : Bool → Option Bool) :
    qfq (mgL L) u t1 w f u0 kx FU s f = kx (s && allT (tryP L w t1) (u + 1 - f).toNat f) := by
  rw [qmv]
  refine q2x (σ := Bool × Int) (fun n s => qcd (mgL L) u t1 w f u0 kx n s.1 s.2) (fun s nx => qc1 (mgL L) u s.1 t1 s.2 w f u0 (fun x y => nx (x, y)) kx) (fun n s => rfl)
    (fun s => f ≤ s.2 ∧ s.2 ≤ u + 1) (fun s => (u + 1 - s.2).toNat) (fun s => kx (s.1 && allT (tryP L w t1) (u + 1 - s.2).toNat s.2)) (fun s hI nx hnx => ?_) FU (s, f) ⟨by omega, by show f ≤ u + 1; omega⟩ (qcr (by show (u + 1 - f).toNat ≤ _; omega))
  obtain ⟨b, t2⟩ := s
  obtain ⟨i1, i2⟩ := hI
  dsimp only at i1 i2 ⊢
  unfold qc1
  by_cases ht : t2 ≤ u
  · rw [decide_eq_true ht, cond_t, w64 (show -9223372036854775808 ≤ t1 - t2 by omega) (by omega), w64 (show -9223372036854775808 ≤ t2 - t1 by omega) (by omega), w64 (show -9223372036854775808 ≤ t2 + 1 by omega) (by omega)]
    have en : (u + 1 - t2).toNat = (u + 1 - (t2 + 1)).toNat + 1 := by omega
    have step : ∀ x : Bool, nx (x, t2 + 1) = kx (x && allT (tryP L w t1) (u + 1 - (t2 + 1)).toNat (t2 + 1)) := fun x => hnx (x, t2 + 1) ⟨by show f ≤ t2 + 1; omega, by show t2 + 1 ≤ u + 1; omega⟩ (by show (u + 1 - (t2 + 1)).toNat < (u + 1 - t2).toNat; omega)
    rw [en, allT]
    have hp : tryP L w t1 t2 = ((decide (t1 - t2 > w) || decide (t2 - t1 > w)) || qfl L t1 t2) := rfl
    rw [hp]
    dsimp only
    cases decide (t1 - t2 > w) || decide (t2 - t1 > w) with
    | true => rw [cond_t, step, Bool.true_or, Bool.true_and]
    | false =>
      have l1 : (L.filter fun e => mSig e t1).length ≤ L.length := List.length_filter_le _ _
      rw [cond_f, q4c L t1 hL, oB_s, q25]
      refine (qbhf L hL u t1 t2 b _ (by omega) w f u0 _).trans ?_
      rw [step, Bool.and_assoc b, q9s hc, Bool.false_or, Bool.and_assoc]
  · rw [decide_eq_false ht, cond_f]
    have en : (u + 1 - t2).toNat = 0 := by omega
    rw [en, allT, Bool.and_true]
theorem qbhh (L : List Mg) (hL : L.length ≤ 1000000) (hc : chk L = 0) (w f u0 : Int) (u : Int) (h0 : 0 ≤ f) (hu : u ≤ 4294967295) (hfu : f ≤ u) (kx : Bool → Option Bool) :
    qfr (mgL L) u w f u0 kx FU true f = kx (allT (fun t1 => allT (tryP L w t1) (u + 1 - f).toNat f) (u + 1 - f).toNat f) := by
  rw [qmw]
  refine (q2x (σ := Bool × Int) (fun n s => qce (mgL L) u w f u0 kx n s.1 s.2) (fun s nx => qc2 (mgL L) u s.1 s.2 w f u0 (fun x y => nx (x, y)) kx) (fun n s => rfl)
    (fun s => f ≤ s.2 ∧ s.2 ≤ u + 1) (fun s => (u + 1 - s.2).toNat) (fun s => kx (s.1 && allT (fun t1 => allT (tryP L w t1) (u + 1 - f).toNat f) (u + 1 - s.2).toNat s.2)) (fun s hI nx hnx => ?_) FU (true, f) ⟨by omega, by show f ≤ u + 1; omega⟩ (qcr (by show (u + 1 - f).toNat ≤ _; omega))).trans (by rw [Bool.true_and])
  obtain ⟨b, t1⟩ := s
  obtain ⟨i1, i2⟩ := hI
  dsimp only at i1 i2 ⊢
  unfold qc2
  by_cases ht : t1 ≤ u
  · rw [decide_eq_true ht, cond_t, w64 (show -9223372036854775808 ≤ t1 + 1 by omega) (by omega)]
    have en : (u + 1 - t1).toNat = (u + 1 - (t1 + 1)).toNat + 1 := by omega
    rw [en, allT]
    refine (qbhg L hL hc w f u0 u t1 h0 hu (by omega) (by omega) b hfu _).trans ?_
    dsimp only
    rw [hnx (_, t1 + 1) ⟨by show f ≤ t1 + 1; omega, by show t1 + 1 ≤ u + 1; omega⟩ (by show (u + 1 - (t1 + 1)).toNat < (u + 1 - t1).toNat; omega), Bool.and_assoc]
  · rw [decide_eq_false ht, cond_f]
    have en : (u + 1 - t1).toNat = 0 := by omega
    rw [en, allT, Bool.and_true]
theorem qbfh {L : List Mg} {w f u : Int} (hfu : f ≤ u) : allT (fun t1 => allT (tryP L w t1) (u + 1 - f).toNat f) (u + 1 - f).toNat f = true ↔ qxk L w f u := by
  rw [qux]
  constructor
  · intro h t1 t2 a1 a2 b1 b2 d1 d2
    have h1 := (qux _ _ _).1 (h t1 a1 (by omega)) t2 b1 (by omega)
    unfold tryP at h1
    rw [decide_eq_false (show ¬ t1 - t2 > w by omega), decide_eq_false (show ¬ t2 - t1 > w by omega)] at h1
    simpa using h1
  · intro h t1 a1 a2
    rw [qux]
    intro t2 b1 b2
    unfold tryP
    by_cases d1 : t1 - t2 > w
    · rw [decide_eq_true d1]; rfl
    · by_cases d2 : t2 - t1 > w
      · rw [decide_eq_true d2, Bool.or_true]; rfl
      · rw [h t1 t2 a1 (by omega) b1 (by omega) (by omega) (by omega), Bool.or_true]
theorem qbhi (z : List AV) : cutI z none (some (if (6 : Int) < (z.length : Int) then (6 : Int) else (z.length : Int))) = some (z.take 6) := by
  unfold cutI
  by_cases h : (6 : Int) < z.length
  · rw [if_pos h]
    simp only [Option.getD_none, Option.getD_some]
    rw [if_pos (by omega)]
    rfl
  · rw [if_neg h]
    simp only [Option.getD_none, Option.getD_some]
    rw [if_pos (by omega)]
    simp only [Int.toNat_natCast, Int.toNat_zero, List.drop_zero]
    rw [List.take_of_length_le (by omega), List.take_of_length_le (by omega)]
theorem qbdl (x : Int) : 0 ≤ IntKind.u64.wrap x := by
  simp [IntKind.wrap, IntKind.signed, IntKind.bits]; omega
theorem law_RolloverTries (l : List AV) (w f u : Int) (hl : l.length ≤ 9223372036854775807) (hf : ∀ y, y ∈ l → fitC qc y.cells = true) : qfc l w f u = some true := by
  rw [q9r hf, qo3]
  unfold qee
  generalize hL0 : l.map mgOf = L0
  have hL0l : L0.length ≤ 9223372036854775807 := by rw [← hL0]; simpa using hl
  rw [qbg7 L0 hL0l, oB_s, qbhi, oB_s]
  have ec : (mgL (fewF L0)).take 6 = mgL ((fewF L0).take 6) := by unfold mgL; rw [List.map_take]
  rw [ec]
  have h6 : ((fewF L0).take 6).length ≤ 6 := by rw [List.length_take]; omega
  have hz : qjv ((fewF L0).take 6) := fun e he => qbbn L0 e (List.mem_of_mem_take he)
  generalize (fewF L0).take 6 = L at h6 hz ⊢
  rw [qs7 L (by omega) hz, oB_s]
  cases hb : ((chk L != 0) || decide (w < 0)) || decide (f < 0) with
  | true =>
    rw [cond_t, qmr]
    unfold qc0
    have hs : qmo L w f u = false := by
      unfold qmo
      have : (chk L != 0 || qhz w f u) = true := by
        unfold qhz
        rw [← Bool.or_assoc, ← Bool.or_assoc (chk L != 0), hb]
        rfl
      rw [this]; rfl
    rw [q15 L (by omega) hz, oB_s, hs, q28]
    rfl
  | false =>
    rw [cond_f]
    simp only [Bool.or_eq_false_iff, decide_eq_false_iff_not] at hb
    obtain ⟨⟨hc, hw⟩, hf0⟩ := hb
    have hc0 : chk L = 0 := by simpa using hc
    by_cases hbig : f > 4294967255
    · rw [decide_eq_true hbig, cond_t, q28]; rfl
    · rw [decide_eq_false hbig, cond_f]
      have hx := qbdl u
      generalize IntKind.u64.wrap u = x at hx ⊢
      have hm : 0 ≤ x.tmod 40 ∧ x.tmod 40 < 40 := ⟨Int.tmod_nonneg _ hx, Int.tmod_lt_of_pos _ (by omega)⟩
      rw [w64 (show -9223372036854775808 ≤ x.tmod 40 by omega) (by omega), w64 (show -9223372036854775808 ≤ f + x.tmod 40 by omega) (by omega)]
      generalize hu : f + x.tmod 40 = v
      have hr : qhz w f v = false := by
        unfold qhz
        simp only [Bool.or_eq_false_iff, decide_eq_false_iff_not]
        omega
      rw [qbhh L (by omega) hc0 w f u v (by omega) (by omega) (by omega), q15 L (by omega) hz, oB_s]
      have : qmo L w f v = allT (fun t1 => allT (tryP L w t1) (v + 1 - f).toNat f) (v + 1 - f).toNat f := by
        rw [Bool.eq_iff_iff, qbb1 hc0 hr, qbfh (by omega)]
      rw [this]
      simp only [beq_self_eq_true, Bool.and_self, cond_t]
      rw [q28]
      rfl
end Go.Proofs.YtmoedhehjonnhaaGreatDoor.Dn
