/- The law of RolloverStays. -/
import Derived.Test.YtmoedhehjonnhaaGreatDoorRyLw22q
set_option linter.all false
namespace Go.Proofs.YtmoedhehjonnhaaGreatDoor.Dn
open Go Go.Pev
set_option linter.unusedVariables false
set_option linter.unusedSimpArgs false
set_option maxRecDepth 8000
def qwv (now : Int) (S : List Int) (s : Int × Bool) : Prop := (s.2 = true → now < s.1 ∧ s.1 ∈ S ∧ ∀ x, x ∈ S → now < x → s.1 ≤ x) ∧ (s.2 = false → ∀ x, x ∈ S → x ≤ now)
theorem q6j (now : Int) : ∀ (r S : List Int) (s : Int × Bool), qwv now S s → qwv now (S ++ r) (qol now s r)
  | [], S, s, h => by rw [List.append_nil]; exact h
  | t :: r, S, s, h => by
    unfold qol
    have e : S ++ t :: r = (S ++ [t]) ++ r := by simp
    rw [e]
    refine q6j now r (S ++ [t]) _ ?_
    obtain ⟨n, ok⟩ := s
    obtain ⟨h1, h2⟩ := h
    dsimp only at h1 h2 ⊢
    cases hd : decide (t > now) && (!ok || decide (t < n)) with
    | true =>
      rw [cond_t]
      simp only [Bool.and_eq_true, Bool.or_eq_true, decide_eq_true_eq, Bool.not_eq_true'] at hd
      refine ⟨fun _ => ⟨by show now < t; omega, List.mem_append.2 (.inr (by simp)), fun x hx hn => ?_⟩, fun h => by cases h⟩
      show t ≤ x
      rcases List.mem_append.1 hx with hx | hx
      · cases ok with
        | true =>
          obtain ⟨_, _, h3⟩ := h1 rfl
          have := h3 x hx hn
          rcases hd.2 with h4 | h4
          · cases h4
          · omega
        | false => have := h2 rfl x hx; omega
      · simp at hx; omega
    | false =>
      rw [cond_f]
      simp only [Bool.and_eq_false_iff, Bool.or_eq_false_iff, decide_eq_false_iff_not, Bool.not_eq_false'] at hd
      refine ⟨fun ho => ?_, fun ho x hx => ?_⟩
      · obtain ⟨a, b, c⟩ := h1 ho
        refine ⟨a, List.mem_append.2 (.inl b), fun x hx hn => ?_⟩
        rcases List.mem_append.1 hx with hx | hx
        · exact c x hx hn
        · simp at hx
          subst hx
          show n ≤ x
          omega
      · dsimp only at ho
        subst ho
        rcases List.mem_append.1 hx with hx | hx
        · exact h2 rfl x hx
        · simp at hx
          subst hx
          rcases hd with h | h
          · omega
          · cases h.1
theorem q6k (now : Int) : ∀ (L : List Mg) (S : List Int) (s : Int × Bool), qwv now S s → qwv now (S ++ qgr L) (qom now s L)
  | [], S, s, h => by simpa [qgr, qom] using h
  | e :: L, S, s, h => by
    unfold qom
    have h1 := q6k now L (S ++ e.ts) _ (q6j now e.ts S s h)
    have e1 : S ++ qgr (e :: L) = (S ++ e.ts) ++ qgr L := by unfold qgr; rw [List.flatMap_cons, List.append_assoc]
    rw [e1]
    exact h1
theorem qbec (now : Int) (L : List Mg) : qwv now (qgr L) (qom now (0, false) L) := by
  have := q6k now L [] (0, false) ⟨fun h => (by cases h), fun _ x hx => (by simp at hx)⟩
  simpa using this
theorem qyo {α : Type} (l : List α) (p q : α → Bool) (h : ∀ x, x ∈ l → p x = q x) : l.filter p = l.filter q := List.filter_congr h
theorem qbch {L : List Mg} {t s : Int} (h : Same L t s) : (L.filter fun e => mPub e t) = (L.filter fun e => mPub e s) := qyo L _ _ fun e he => h.pub he
theorem qbci {L : List Mg} {t s : Int} (h : Same L t s) : (L.filter fun e => mSig e t) = (L.filter fun e => mSig e s) := qyo L _ _ fun e he => h.sig he
def keqR (a b : Mg) : Bool := b.z == a.z && (b.k == a.k && (b.s == a.s && true))
theorem qbf7 (l : List AV) (now : Int) (v71 : List AV) (v72 v73 : Int) (M : List Mg) (hM : M.length ≤ 1000000) (a : Mg) (z : Bool) (kx : Bool → Option Bool) :
    qfb l now v71 v72 v73 (kyL M) (M.length : Int) a.z a.k a.s kx FU z 0 = kx (z || M.any (keqR a)) := by
  rw [ql2]
  exact qco (σ := Bool) M (by omega) (fun n i s => qb5 l now v71 v72 v73 (kyL M) (M.length : Int) a.z a.k a.s kx n s i) (fun i s nx => qb4 l now s v71 v72 v73 (kyL M) (M.length : Int) i a.z a.k a.s (fun x j => nx j x) kx) (fun n i s => rfl)
    (fun _ _ => True) (fun r s => kx (s || r.any (keqR a))) (fun s nx _ => by
      unfold qb4
      rw [decide_eq_false (show ¬ (M.length : Int) < (M.length : Int) by omega), cond_f]
      simp)
    (fun i b r s nx h1 h2 h3 h4 _ hnx => by
      have hg : (kyL M)[i]? = some b.key := by rw [q7x, h2]; rfl
      unfold qb4
      rw [decide_eq_true (show (i : Int) < (M.length : Int) by omega), cond_t, ixB_nat, hg, oB_s, q2h, cond_t, h4, List.any_cons]
      have hk : (((gS b.key.cells 0) == a.z) && (((gB b.key.cells 1) == a.k) && (((gI b.key.cells 2) == a.s) && true))) = keqR a b := rfl
      rw [hk]
      dsimp only
      rw [hnx _ trivial, Bool.or_assoc]) z FU trivial (qd7 (by omega))
theorem qbed (L : List Mg) (hL : L.length ≤ 1000000) (now : Int) (A : List Mg) (hA : A.length ≤ 1000000) (hin : ∀ a, a ∈ A → (L.filter fun e => mPub e now).any (keqR a) = true) (kx : Unit → Option Bool) :
    qc9 (mgL L) now (kyL A) (A.length : Int) kx FU 0 = kx () := by
  rw [ql3]
  refine qne A (by omega) (fun n i => qb7 (mgL L) now (kyL A) (A.length : Int) kx n i) (fun i nx => qb6 (mgL L) now (kyL A) (A.length : Int) i nx kx) (fun n i => rfl) (fun _ => kx ()) (fun nx => ?_) (fun i a r nx h2 h3 h4 h5 hnx => ?_)
  · unfold qb6
    rw [decide_eq_false (show ¬ (A.length : Int) < (A.length : Int) by omega), cond_f]
  · have hg : (kyL A)[i]? = some a.key := by rw [q7x, h3]; rfl
    unfold qb6
    have l1 : (L.filter fun e => mPub e now).length ≤ L.length := List.length_filter_le _ _
    rw [decide_eq_true (show (i : Int) < (A.length : Int) by omega), cond_t, ixB_nat, hg, oB_s, q2h, cond_t, qm2 L now hL, oB_s, q2g]
    refine (qbf7 (mgL L) now _ _ _ _ (by omega) a false _).trans ?_
    rw [hin a (List.mem_of_getElem? h3), Bool.false_or, Bool.not_true, cond_f, h5, hnx]
theorem qbee (L : List Mg) (hL : L.length ≤ 1000000) (now t : Int) (h : Same L now t) (kn : Bool → Option Bool) : qc8 (mgL L) now t kn = kn false := by
  rw [ql1]
  unfold qcu
  rw [qm2 L now hL, oB_s, qm2 L t hL, oB_s, ← qbch h, q6g _ (Nat.le_trans (List.length_filter_le _ _) hL), oB_s, Bool.not_true, cond_f,
    qqy L now hL, oB_s, qqy L t hL, oB_s, ← qbci h, q6g _ (Nat.le_trans (List.length_filter_le _ _) hL), oB_s, Bool.not_true]
theorem law_RolloverStays (l : List AV) (now d : Int) (hl : l.length ≤ 9223372036854775807) (hf : ∀ y, y ∈ l → fitC qc y.cells = true) (hd : IntKind.u32.min ≤ d ∧ d ≤ IntKind.u32.max) : qe3 l now d = some true := by
  have hd0 : 0 ≤ d ∧ d ≤ 4294967295 := hd
  rw [q8t hf, qn9]
  unfold qd4
  generalize hL0 : l.map mgOf = L0
  have hL0l : L0.length ≤ 9223372036854775807 := by rw [← hL0]; simpa using hl
  rw [qbf1 L0 hL0l, oB_s]
  generalize hL : fewF L0 = L
  have h20 : L.length ≤ 20 := by rw [← hL]; exact qbd6 L0
  have hz : qi7 L := by rw [← hL]; exact qbao L0
  rw [qsk L (by omega) hz, oB_s]
  cases hb : ((chk L != 0) || decide (now < 0)) || decide (now > 4294967295) with
  | true => rw [cond_t, q7w]; rfl
  | false =>
    rw [cond_f]
    simp only [Bool.or_eq_false_iff, decide_eq_false_iff_not] at hb
    obtain ⟨⟨hc, h0⟩, h1⟩ := hb
    have hc0 : chk L = 0 := by simpa using hc
    have hR : ∀ x, x ∈ qgr L → 0 ≤ x ∧ x ≤ 4294967295 := fun x hx => by
      unfold qgr at hx
      obtain ⟨e, he, hx⟩ := List.mem_flatMap.1 hx
      exact q7v hc0 e he x hx
    rw [qbap L now (by omega), oB_s]
    have hn := qbec now L
    generalize qom now (0, false) L = s at hn ⊢
    obtain ⟨n, ok⟩ := s
    obtain ⟨n1, n2⟩ := hn
    dsimp only at n1 n2 ⊢
    have main : ∀ t, Same L now t → (qc8 (mgL L) now t (fun v68q6 => (bif v68q6 then (some false) else (oB (qcb (mgL L) now) fun r7 => (qc9 (mgL L) now r7 (r7.length : Int) (fun (_ : Unit) => (oB (qhb) fun r8 => (some r8))) FU 0))))) = some true := by
      intro t ht
      have l1 : (L.filter fun e => mSig e now).length ≤ L.length := List.length_filter_le _ _
      rw [qbee L (by omega) now t ht, cond_f, qqy L now (by omega), oB_s, q2g, qbed L (by omega) now _ (by omega) (fun a ha => ?_), q7w]
      · rfl
      · rw [List.mem_filter] at ha
        refine List.any_eq_true.2 ⟨a, List.mem_filter.2 ⟨ha.1, ?_⟩, by simp [keqR]⟩
        have hb := q6i ((q6h hc0).2 a ha.1).2.2
        have hs := ha.2
        unfold mSig at hs
        unfold mPub
        simp only [Bool.and_eq_true, decide_eq_true_eq] at hs ⊢
        omega
    rw [w64 (show -9223372036854775808 ≤ d by omega) (by omega), w64 (show -9223372036854775808 ≤ now + d by omega) (by omega), qlz]
    unfold qct
    cases ok with
    | true =>
      obtain ⟨a1, a2, a3⟩ := n1 rfl
      have hr := hR n a2
      have hm : 0 ≤ d.tmod (n - now) ∧ d.tmod (n - now) < n - now := ⟨Int.tmod_nonneg _ (by omega), Int.tmod_lt_of_pos _ (by omega)⟩
      rw [cond_t, decide_eq_false (show ¬ n ≤ now by omega), cond_f, w64 (show -9223372036854775808 ≤ n - now by omega) (by omega), decide_eq_true (show n - now ≠ 0 by omega), cond_t, w64 (show -9223372036854775808 ≤ d by omega) (by omega), w64 (show -9223372036854775808 ≤ now + d.tmod (n - now) by omega) (by omega)]
      refine main _ fun x hx => ?_
      constructor
      · omega
      · intro h
        by_cases hx2 : now < x
        · have := a3 x hx hx2; omega
        · omega
    | false =>
      have a3 := n2 rfl
      rw [cond_f]
      refine main _ fun x hx => ?_
      have := a3 x hx
      constructor <;> omega
end Go.Proofs.YtmoedhehjonnhaaGreatDoor.Dn
