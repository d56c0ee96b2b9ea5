/- The law of RolloverSafes. -/
import Derived.Test.YtmoedhehjonnhaaGreatDoorRsLw22o
import Derived.Test.YtmoedhehjonnhaaGreatDoorRsLw22l
set_option linter.all false
namespace Go.Proofs.YtmoedhehjonnhaaGreatDoor.Dn
open Go Go.Pev
set_option linter.unusedVariables false
set_option linter.unusedSimpArgs false
set_option maxRecDepth 8000
def gapP (P : List Int) (i k : Nat) : Int := bif decide (i < k) then P.getD k 0 - (P.getD (i + 1) 0 - 1) else bif decide (k < i) then P.getD i 0 - (P.getD (k + 1) 0 - 1) else 0
def okP (L : List Mg) (w : Int) (P : List Int) (i k : Nat) : Bool := !decide (gapP P i k ≤ w) || qfm L (P.getD i 0) (P.getD k 0)
theorem qyd {R : Type} (P : List Int) (i : Nat) (hi : i < P.length) (F : AV → Option R) : oB (ixB (inL P) (i : Int)) F = F (.int .i64 (P.getD i 0)) := by
  rw [ixB_nat, q5n, List.getElem?_eq_getElem hi, List.getD_eq_getElem?_getD, List.getElem?_eq_getElem hi]
  rfl
theorem qbq0 (l : List AV) (w : Int) (P : List Int) (hP : P.length ≤ 1000000) (hR : ∀ x, x ∈ P → 0 ≤ x ∧ x ≤ 4294967296) (i k : Nat) (hi : i + 1 < P.length) (hk : k + 1 < P.length) (kn : Int → Option Bool) :
    qmv l w (inL P) (i : Int) (k : Int) 0 kn = kn (gapP P i k) := by
  have hr : ∀ j, j < P.length → 0 ≤ P.getD j 0 ∧ P.getD j 0 ≤ 4294967296 := fun j hj => by
    rw [List.getD_eq_getElem?_getD, List.getElem?_eq_getElem hj]
    exact hR _ (List.getElem_mem hj)
  rw [qz9]
  unfold qhk gapP
  have wi : IntKind.i64.wrap ((i : Int) + 1) = ((i + 1 : Nat) : Int) := by rw [w64 (by omega) (by omega)]; rfl
  have wk : IntKind.i64.wrap ((k : Int) + 1) = ((k + 1 : Nat) : Int) := by rw [w64 (by omega) (by omega)]; rfl
  have e1 : ∀ x : Int, fitC [(.i .i64)] (AV.int .i64 x).cells = true := fun _ => rfl
  have e2 : ∀ x : Int, gI (AV.int .i64 x).cells 0 = x := fun _ => rfl
  have h1 := hr i (by omega)
  have h2 := hr (i + 1) hi
  have h3 := hr k (by omega)
  have h4 := hr (k + 1) hk
  rw [wi, wk]
  rcases Nat.lt_trichotomy i k with h | h | h
  · rw [decide_eq_true (show (i : Int) < (k : Int) by omega), decide_eq_true h, cond_t, cond_t, qyd P k (by omega), e1, cond_t, qyd P (i + 1) hi, e1, cond_t, e2, e2, w64 (show -9223372036854775808 ≤ P.getD (i + 1) 0 - 1 by omega) (by omega), w64 (by omega) (by omega)]
  · subst h
    simp
  · rw [decide_eq_false (show ¬ (i : Int) < (k : Int) by omega), decide_eq_false (show ¬ i < k by omega), cond_f, cond_f, decide_eq_true (show (k : Int) < (i : Int) by omega), decide_eq_true h, cond_t, cond_t, qyd P i (by omega), e1, cond_t, qyd P (k + 1) hk, e1, cond_t, e2, e2, w64 (show -9223372036854775808 ≤ P.getD (k + 1) 0 - 1 by omega) (by omega), w64 (by omega) (by omega)]
theorem qbar {n i a : Nat} {r : List Nat} (h : (List.range n)[i]? = some a) : a = i := by
  rw [List.getElem?_range] at h
  · exact (Option.some.inj h).symm
  · obtain ⟨h1, _⟩ := List.getElem?_eq_some_iff.1 h
    simpa using h1
theorem qbq1 (L : List Mg) (hL : L.length ≤ 1000000) (w : Int) (P : List Int) (n : Nat) (hn : P.length = n + 1) (hP : P.length ≤ 1000000) (hR : ∀ x, x ∈ P → 0 ≤ x ∧ x ≤ 4294967296) (i : Nat) (hi : i + 1 < P.length) (kx : Unit → Option Bool) :
    qmw (mgL L) w (inL P) (i : Int) kx FU 0 = bif (List.range n).all (okP L w P i) then kx () else some false := by
  rw [q0a]
  have hl : (List.range n).length = n := List.length_range
  refine qlk (List.range n) (by omega) (fun m k => qfe (mgL L) w (inL P) (i : Int) kx m k) (fun k nx => qfd (mgL L) w (inL P) (i : Int) k nx kx) (fun m k => rfl) (fun r => bif r.all (okP L w P i) then kx () else some false) (fun nx => ?_) (fun k a r nx h2 h3 h4 h5 hnx => ?_)
  · unfold qfd
    rw [hl, w64 (show -9223372036854775808 ≤ (n : Int) + 1 by omega) (by omega), qdw, decide_eq_false (show ¬ (n : Int) + 1 < (P.length : Int) by omega), cond_f]
    rfl
  · have := qbar (r := r) h3
    subst this
    rw [hl] at h4
    unfold qfd
    rw [h5, qdw, decide_eq_true (show ((a + 1 : Nat) : Int) < (P.length : Int) by omega), cond_t, qbq0 (mgL L) w P hP hR i a hi (by omega), List.all_cons]
    have e1 : ∀ x : Int, fitC [(.i .i64)] (AV.int .i64 x).cells = true := fun _ => rfl
    have e2 : ∀ x : Int, gI (AV.int .i64 x).cells 0 = x := fun _ => rfl
    have ho : okP L w P i a = (!decide (gapP P i a ≤ w) || qfm L (P.getD i 0) (P.getD a 0)) := rfl
    rw [ho]
    cases decide (gapP P i a ≤ w) with
    | false => rw [cond_f, hnx]; rfl
    | true =>
      rw [cond_t, qyd P i (by omega), e1, cond_t, qyd P a (by omega), e1, cond_t, e2, e2, qbqa L hL, oB_s, hnx]
      cases qfm L (P.getD i 0) (P.getD a 0) <;> rfl
theorem qbq2 (L : List Mg) (hL : L.length ≤ 1000000) (w : Int) (P : List Int) (n : Nat) (hn : P.length = n + 1) (hP : P.length ≤ 1000000) (hR : ∀ x, x ∈ P → 0 ≤ x ∧ x ≤ 4294967296) (kx : Unit → Option Bool) :
    qmx (mgL L) w (inL P) kx FU 0 = bif (List.range n).all (fun i => (List.range n).all (okP L w P i)) then kx () else some false := by
  rw [q0b]
  have hl : (List.range n).length = n := List.length_range
  refine qlk (List.range n) (by omega) (fun m k => qfg (mgL L) w (inL P) kx m k) (fun k nx => qff (mgL L) w (inL P) k nx kx) (fun m k => rfl) (fun r => bif r.all (fun i => (List.range n).all (okP L w P i)) then kx () else some false) (fun nx => ?_) (fun k a r nx h2 h3 h4 h5 hnx => ?_)
  · unfold qff
    rw [hl, w64 (show -9223372036854775808 ≤ (n : Int) + 1 by omega) (by omega), qdw, decide_eq_false (show ¬ (n : Int) + 1 < (P.length : Int) by omega), cond_f]
    rfl
  · have := qbar (r := r) h3
    subst this
    rw [hl] at h4
    unfold qff
    rw [h5, qdw, decide_eq_true (show ((a + 1 : Nat) : Int) < (P.length : Int) by omega), cond_t, qbq1 L hL w P n hn hP hR a (by omega), List.all_cons, hnx]
    cases (List.range n).all (okP L w P a) <;> rfl
theorem q8h {n x : Int} : ∀ {l : List Int}, x ∈ insF n l ↔ x = n ∨ x ∈ l
  | [] => by simp [insF]
  | y :: l => by
    unfold insF
    cases decide (y > n)
    · rw [cond_f, List.mem_cons, q8h, List.mem_cons]
      constructor <;> (intro h; rcases h with h | h | h <;> simp [h])
    · rw [cond_t, List.mem_cons]
theorem q69 {n : Int} : ∀ {l : List Int}, l.Pairwise (· < ·) → n ∉ l → (insF n l).Pairwise (· < ·)
  | [], _, _ => by simp [insF]
  | y :: l, h, hn => by
    rw [List.pairwise_cons] at h
    rw [List.mem_cons] at hn
    unfold insF
    cases hd : decide (y > n)
    · rw [cond_f, List.pairwise_cons]
      simp only [decide_eq_false_iff_not] at hd
      refine ⟨fun x hx => ?_, q69 h.2 (fun h => hn (.inr h))⟩
      rcases q8h.1 hx with rfl | hx
      · have : ¬ x = y := fun h => hn (.inl h)
        omega
      · exact h.1 x hx
    · rw [cond_t, List.pairwise_cons]
      simp only [decide_eq_true_eq] at hd
      refine ⟨fun x hx => ?_, List.pairwise_cons.2 h⟩
      rcases List.mem_cons.1 hx with rfl | hx
      · omega
      · have := h.1 x hx; omega
theorem qbmq {n x : Int} {l : List Int} : x ∈ putF l n ↔ x = n ∨ x ∈ l := by
  unfold putF
  cases hc : l.contains n
  · rw [cond_f]; exact q8h
  · rw [cond_t]
    constructor
    · exact .inr
    · rintro (rfl | h)
      · simpa using hc
      · exact h
theorem qbg3 {n : Int} {l : List Int} (h : l.Pairwise (· < ·)) : (putF l n).Pairwise (· < ·) := by
  unfold putF
  cases hc : l.contains n
  · rw [cond_f]
    exact q69 h (by simpa using hc)
  · exact h
theorem qbf9 (f u : Int) : ∀ (M q : List Int), q.Pairwise (· < ·) → (ptL f u q M).Pairwise (· < ·) ∧ ∀ x, x ∈ ptL f u q M ↔ x ∈ q ∨ (x ∈ M ∧ f < x ∧ x ≤ u)
  | [], q, h => ⟨h, fun x => by simp [ptL]⟩
  | y :: M, q, h => by
    have hs : (ptS f u q y).Pairwise (· < ·) := by
      unfold ptS
      cases decide (y > f) && decide (y ≤ u)
      · exact h
      · exact qbg3 h
    have hm : ∀ x, x ∈ ptS f u q y ↔ x ∈ q ∨ (x = y ∧ f < x ∧ x ≤ u) := by
      intro x
      unfold ptS
      cases hd : decide (y > f) && decide (y ≤ u)
      · rw [cond_f]
        simp only [Bool.and_eq_false_iff, decide_eq_false_iff_not] at hd
        constructor
        · exact .inl
        · rintro (h | ⟨rfl, h1, h2⟩)
          · exact h
          · omega
      · rw [cond_t, qbmq]
        simp only [Bool.and_eq_true, decide_eq_true_eq] at hd
        constructor
        · rintro (rfl | h)
          · exact .inr ⟨rfl, hd⟩
          · exact .inl h
        · rintro (h | ⟨rfl, _⟩)
          · exact .inr h
          · exact .inl rfl
    obtain ⟨h1, h2⟩ := qbf9 f u M (ptS f u q y) hs
    refine ⟨h1, fun x => ?_⟩
    have e : ptL f u q (y :: M) = ptL f u (ptS f u q y) M := rfl
    rw [e, h2, hm, List.mem_cons]
    constructor
    · rintro ((h | h) | h)
      · exact .inl h
      · exact .inr ⟨.inl h.1, h.2⟩
      · exact .inr ⟨.inr h.1, h.2⟩
    · rintro (h | ⟨h | h, h3⟩)
      · exact .inl (.inl h)
      · exact .inl (.inr ⟨h, h3⟩)
      · exact .inr ⟨h, h3⟩
theorem qbga (f u : Int) : ∀ (L : List Mg) (q : List Int), q.Pairwise (· < ·) → (ptA f u q L).Pairwise (· < ·) ∧ ∀ x, x ∈ ptA f u q L ↔ x ∈ q ∨ (x ∈ qc7 L ∧ f < x ∧ x ≤ u)
  | [], q, h => ⟨h, fun x => by simp [ptA, qc7]⟩
  | e :: L, q, h => by
    obtain ⟨h1, h2⟩ := qbf9 f u e.ts q h
    obtain ⟨h3, h4⟩ := qbga f u L (ptL f u q e.ts) h1
    refine ⟨h3, fun x => ?_⟩
    have e1 : ptA f u q (e :: L) = ptA f u (ptL f u q e.ts) L := rfl
    rw [e1, h4, h2]
    have e2 : x ∈ qc7 (e :: L) ↔ x ∈ e.ts ∨ x ∈ qc7 L := by unfold qc7; rw [List.flatMap_cons, List.mem_append]
    rw [e2]
    constructor
    · rintro ((h | h) | h)
      · exact .inl h
      · exact .inr ⟨.inl h.1, h.2⟩
      · exact .inr ⟨.inr h.1, h.2⟩
    · rintro (h | ⟨h | h, h3⟩)
      · exact .inl (.inl h)
      · exact .inl (.inr ⟨h, h3⟩)
      · exact .inr ⟨h, h3⟩
theorem qbhw (f u : Int) : ∀ (L : List Mg) (q : List Int), (ptA f u q L).length ≤ q.length + 4 * L.length
  | [], q => by simp [ptA]
  | e :: L, q => by
    have h1 := qbbw f u e.ts q
    have h2 := qbhw f u L (ptL f u q e.ts)
    have e1 : ptA f u q (e :: L) = ptA f u (ptL f u q e.ts) L := rfl
    have e2 : e.ts.length = 4 := rfl
    rw [e1, List.length_cons]
    omega
theorem qbor {L : List Mg} {w f u : Int} (hw : 0 ≤ w) (hfu : f ≤ u) (P : List Int) (n : Nat) (hn : P.length = n + 1) (hs : P.Pairwise (· < ·)) (hm : ∀ x, x ∈ P ↔ x ∈ [f, u + 1] ∨ (x ∈ qc7 L ∧ f < x ∧ x ≤ u)) :
    ((List.range n).all (fun i => (List.range n).all (okP L w P i))) = true ↔ q46 L w f u := by
  have mono : ∀ i j, i < j → j < P.length → P.getD i 0 < P.getD j 0 := fun i j h1 h2 => by
    have := List.pairwise_iff_getElem.1 hs i j (by omega) h2 h1
    rwa [List.getD_eq_getElem?_getD, List.getD_eq_getElem?_getD, List.getElem?_eq_getElem h2, List.getElem?_eq_getElem (show i < P.length by omega)]
  have mono' : ∀ i j, i ≤ j → j < P.length → P.getD i 0 ≤ P.getD j 0 := fun i j h1 h2 => by
    rcases Nat.lt_or_eq_of_le h1 with h | rfl
    · have := mono i j h h2; omega
    · omega
  have mem : ∀ i, i < P.length → P.getD i 0 ∈ P := fun i hi => by
    rw [List.getD_eq_getElem?_getD, List.getElem?_eq_getElem hi]
    exact List.getElem_mem hi
  have idx : ∀ x, x ∈ P → ∃ i, i < P.length ∧ P.getD i 0 = x := fun x hx => by
    obtain ⟨i, hi, rfl⟩ := List.getElem_of_mem hx
    exact ⟨i, hi, by rw [List.getD_eq_getElem?_getD, List.getElem?_eq_getElem hi]; rfl⟩
  have lo : ∀ x, x ∈ P → f ≤ x ∧ x ≤ u + 1 := fun x hx => by
    rcases (hm x).1 hx with h | ⟨_, h1, h2⟩
    · simp at h; omega
    · omega
  have same : ∀ i t, i + 1 < P.length → P.getD i 0 ≤ t → t < P.getD (i + 1) 0 → Same L t (P.getD i 0) := fun i t hi h1 h2 x hx => by
    constructor
    · intro h3
      by_cases h4 : x ≤ P.getD i 0
      · exact h4
      · have h5 := lo _ (mem i (by omega))
        have h6 := lo _ (mem (i + 1) hi)
        obtain ⟨j, hj, rfl⟩ := idx x ((hm x).2 (.inr ⟨hx, by omega, by omega⟩))
        by_cases h7 : j ≤ i
        · have := mono' j i h7 (by omega); omega
        · have := mono' (i + 1) j (by omega) hj; omega
    · omega
  have find : ∀ t, f ≤ t → t ≤ u → ∃ i, i + 1 < P.length ∧ P.getD i 0 ≤ t ∧ t < P.getD (i + 1) 0 := fun t h1 h2 => by
    obtain ⟨x, h3, h4, h5⟩ := qbk3 P (fun x => x ≤ t) ⟨f, (hm f).2 (.inl (by simp)), h1⟩
    obtain ⟨i, hi, rfl⟩ := idx x h3
    obtain ⟨j, hj, h6⟩ := idx (u + 1) ((hm (u + 1)).2 (.inl (by simp)))
    have hij : i < j := by
      by_cases h : i < j
      · exact h
      · have := mono' j i (by omega) hi; omega
    refine ⟨i, by omega, h4, ?_⟩
    by_cases h : t < P.getD (i + 1) 0
    · exact h
    · have := h5 _ (mem (i + 1) (by omega)) (by omega)
      have := mono i (i + 1) (by omega) (by omega)
      omega
  have okI : ∀ i k, okP L w P i k = true ↔ (gapP P i k ≤ w → qfm L (P.getD i 0) (P.getD k 0) = true) := fun i k => by
    unfold okP
    by_cases h : gapP P i k ≤ w <;> simp [h]
  simp only [List.all_eq_true, List.mem_range]
  constructor
  · intro h t1 t2 a1 a2 b1 b2 d1 d2
    obtain ⟨i, hi, i1, i2⟩ := find t1 a1 a2
    obtain ⟨k, hk, k1, k2⟩ := find t2 b1 b2
    rw [qq4 (same i t1 hi i1 i2) (same k t2 hk k1 k2)]
    refine (okI i k).1 (h i (by omega) k (by omega)) ?_
    unfold gapP
    rcases Nat.lt_trichotomy i k with h1 | h1 | h1
    · rw [decide_eq_true h1, cond_t]
      omega
    · subst h1; simpa using hw
    · rw [decide_eq_false (show ¬ i < k by omega), cond_f, decide_eq_true h1, cond_t]
      omega
  · intro h i hi k hk
    rw [okI]
    have mi := mono i (i + 1) (by omega) (by omega)
    have mk := mono k (k + 1) (by omega) (by omega)
    have li := lo _ (mem i (by omega))
    have li' := lo _ (mem (i + 1) (by omega))
    have lk := lo _ (mem k (by omega))
    have lk' := lo _ (mem (k + 1) (by omega))
    intro hg
    unfold gapP at hg
    rcases Nat.lt_trichotomy i k with h1 | h1 | h1
    · rw [decide_eq_true h1, cond_t] at hg
      have := mono' (i + 1) k (by omega) (by omega)
      rw [← qq4 (same i (P.getD (i + 1) 0 - 1) (by omega) (by omega) (by omega)) (same k (P.getD k 0) (by omega) (by omega) (by omega))]
      exact h _ _ (by omega) (by omega) (by omega) (by omega) (by omega) (by omega)
    · subst h1
      exact h _ _ (by omega) (by omega) (by omega) (by omega) (by omega) (by omega)
    · rw [decide_eq_false (show ¬ i < k by omega), cond_f, decide_eq_true h1, cond_t] at hg
      have := mono' (k + 1) i (by omega) (by omega)
      rw [← qq4 (same i (P.getD i 0) (by omega) (by omega) (by omega)) (same k (P.getD (k + 1) 0 - 1) (by omega) (by omega) (by omega))]
      exact h _ _ (by omega) (by omega) (by omega) (by omega) (by omega) (by omega)
theorem qbos (L : List Mg) (hL : L.length ≤ 1000) (hz : qic L) (w f u : Int) : qry (mgL L) w f u = some (qpy L w f u) := by
  rw [q73]
  unfold qky
  rw [qbmi L (by omega) hz, oB_s]
  have hb : (((((chk L != 0) || (decide (w < 0))) || (decide (f < 0))) || (decide (f > u))) || (decide (u > (4294967295 : Int)))) = (chk L != 0 || qi6 w f u) := by
    unfold qi6
    have : decide (f > u) = decide (u < f) := rfl
    rw [this]
    cases chk L != 0 <;> cases decide (w < 0) <;> cases decide (f < 0) <;> rfl
  rw [hb]
  cases h1 : (chk L != 0 || qi6 w f u) with
  | true => unfold qpy; rw [h1]; rfl
  | false =>
    rw [cond_f]
    rw [Bool.or_eq_false_iff] at h1
    obtain ⟨h2, h3⟩ := h1
    have hc : chk L = 0 := by simpa using h2
    have hs := qbk5 hc h3
    unfold qi6 at h3
    simp only [Bool.or_eq_false_iff, decide_eq_false_iff_not] at h3
    rw [w64 (show -9223372036854775808 ≤ u + 1 by omega) (by omega)]
    have e0 : ([(.int .i64 f), (.int .i64 (u + 1))] : List AV) = inL [f, u + 1] := rfl
    rw [e0, hd_self, cond_t, qbqz w f u L hL [f, u + 1] (by simp)]
    obtain ⟨s1, s2⟩ := qbga f u L [f, u + 1] (by simp; omega)
    have hlen := qbhw f u L [f, u + 1]
    generalize ptA f u [f, u + 1] L = P at s1 s2 hlen ⊢
    have hl2 : ([f, u + 1] : List Int).length = 2 := rfl
    have hpos : P.length ≠ 0 := fun h => by
      have h4 := (s2 f).2 (.inl (by simp))
      rw [List.length_eq_zero_iff.1 h] at h4
      simp at h4
    obtain ⟨n, hn⟩ : ∃ n, P.length = n + 1 := ⟨P.length - 1, by omega⟩
    have hR : ∀ x, x ∈ P → 0 ≤ x ∧ x ≤ 4294967296 := fun x hx => by
      rcases (s2 x).1 hx with h | ⟨_, h4, h5⟩
      · simp at h; omega
      · omega
    rw [qbq2 L (by omega) w P n hn (by omega) hR]
    have hk := qbor (L := L) (w := w) (by omega) (by omega) P n hn s1 s2
    have : qpy L w f u = (List.range n).all (fun i => (List.range n).all (okP L w P i)) := by
      rw [Bool.eq_iff_iff, hs, hk]
    rw [this]
    cases (List.range n).all (fun i => (List.range n).all (okP L w P i)) <;> rfl
theorem law_RolloverSafes (l : List AV) (w f u : Int) (hl : l.length ≤ 9223372036854775807) (hf : ∀ y, y ∈ l → fitC qb y.cells = true) : qfs l w f u = some true := by
  rw [qbis hf, qsw]
  unfold qek
  generalize hL0 : l.map mgOf = L0
  have hL0l : L0.length ≤ 9223372036854775807 := by rw [← hL0]; simpa using hl
  rw [qbqq L0 hL0l, oB_s]
  generalize hL : fewF L0 = L
  have h20 : L.length ≤ 20 := by rw [← hL]; exact qboj L0
  have hz : qic L := by rw [← hL]; exact qbkr L0
  rw [qbf5 L (by omega) hz, oB_s, qbos L (by omega) hz, oB_s]
  simp only [beq_self_eq_true, Bool.and_self, cond_t]
  rw [qboq]
  rfl
end Go.Proofs.YtmoedhehjonnhaaGreatDoor.Dn
