/- Caches: what stays. -/
import Derived.Test.YtmficjbenbhneaaDoorPuLw29d
set_option linter.all false
namespace Go.Proofs.YtmficjbenbhneaaDoor.Dn
open Go Go.Pev
set_option linter.unusedVariables false
set_option linter.unusedSimpArgs false
set_option maxRecDepth 8000
theorem qbem {a b : Int} : cmpI a b < 0 ↔ a < b := by
  unfold cmpI
  split
  · simp; assumption
  · split <;> simp <;> omega
theorem qbda (a b : Int) : cmpI b a = - cmpI a b := by
  unfold cmpI
  split <;> split <;> (try split) <;> (try rfl) <;> omega
theorem qbdb {a b : Int} : cmpI a b = 0 ↔ a = b := by
  unfold cmpI
  split
  · simp; omega
  · split
    · simp; omega
    · simp; omega
theorem q5f {a b : En} : ordE a b = 0 ↔ a.n = b.n ∧ a.t = b.t := by
  unfold ordE
  by_cases h : cmpN a.n b.n = 0
  · have h' := qkk.1 h
    simp [h, h', qbdb, qkk]
  · have h' : a.n ≠ b.n := fun hc => h (qkk.2 hc)
    simp [h, h']
theorem qbdc (a b : En) : ordE b a = - ordE a b := by
  unfold ordE
  rw [qbcx a.n b.n, qbda a.t b.t]
  by_cases h : cmpN a.n b.n = 0
  · simp [h]
  · rw [if_pos (by omega), if_pos h]
theorem q8j {a b : En} : ordE a b < 0 ↔ cmpN a.n b.n < 0 ∨ (a.n = b.n ∧ a.t < b.t) := by
  unfold ordE
  by_cases h : cmpN a.n b.n = 0
  · have h' := qkk.1 h
    have h0 : cmpN b.n b.n = 0 := qkk.2 rfl
    simp [h', h0, qbem]
  · have h' : a.n ≠ b.n := fun hc => h (qkk.2 hc)
    simp [h, h']
theorem qbbf {a b c : En} (h1 : ordE a b < 0) (h2 : ordE b c < 0) : ordE a c < 0 := by
  rw [q8j] at *
  rcases h1 with h1 | ⟨e1, h1⟩
  · rcases h2 with h2 | ⟨e2, h2⟩
    · exact .inl (qba7 h1 h2)
    · exact .inl (by rw [← e2]; exact h1)
  · rcases h2 with h2 | ⟨e2, h2⟩
    · exact .inl (by rw [e1]; exact h2)
    · exact .inr ⟨e1.trans e2, by omega⟩
def Srt (L : List En) : Prop := L.Pairwise fun a b => ordE a b < 0
theorem Srt.uniq {L : List En} (h : Srt L) : Uniq L := h.imp fun hab hc => by
  rw [q5f.2 hc] at hab
  simp at hab
theorem q5g (P : En → Bool) : ∀ (L : List En) (i : Nat), (if fidx P i L < 0 then L.length else (fidx P i L).toNat - i) = (L.takeWhile fun e => !P e).length
  | [], i => by simp [fidx]
  | e :: L, i => by
    unfold fidx
    rw [List.takeWhile_cons]
    cases hp : P e with
    | true => simp
    | false =>
      simp only [cond_f, Bool.not_false, if_true, List.length_cons]
      have ih := q5g P L (i + 1)
      rcases qxw P L (i + 1) with h | ⟨k, h1, h2⟩
      · rw [h] at ih ⊢
        simp at ih ⊢
        omega
      · rw [h2] at ih ⊢
        rw [if_neg (by omega)] at ih ⊢
        omega
theorem qud {α : Type} (p : α → Bool) : ∀ L : List α, L.take (L.takeWhile p).length = L.takeWhile p ∧ L.drop (L.takeWhile p).length = L.dropWhile p
  | [] => by simp
  | a :: L => by
    rw [List.takeWhile_cons, List.dropWhile_cons]
    cases p a
    · simp
    · simp [qud p L]
theorem qbgs (L : List En) (x : En) : insF L x = (L.takeWhile fun e => !decide (ordE e x > 0)) ++ [x] ++ (L.dropWhile fun e => !decide (ordE e x > 0)) := by
  have h := q5g (fun e => decide (ordE e x > 0)) L 0
  have hp : posF L x = (L.takeWhile fun e => !decide (ordE e x > 0)).length := by
    rw [← h]; unfold posF
    simp
  unfold insF
  rw [hp, (qud _ L).1, (qud _ L).2]
theorem quy {α : Type} (p : α → Bool) : ∀ (L : List α) (a : α), a ∈ L.takeWhile p → p a = true
  | [], a, h => by simp at h
  | b :: L, a, h => by
    rw [List.takeWhile_cons] at h
    split at h
    · rcases List.mem_cons.1 h with rfl | h
      · assumption
      · exact quy p L a h
    · simp at h
theorem qrb {α : Type} (p : α → Bool) : ∀ (L : List α), L.dropWhile p = [] ∨ ∃ a r, L.dropWhile p = a :: r ∧ p a = false
  | [] => .inl rfl
  | b :: L => by
    rw [List.dropWhile_cons]
    cases hp : p b with
    | true => exact qrb p L
    | false => exact .inr ⟨b, L, rfl, hp⟩
theorem qbgt {L : List En} {x : En} (h : Srt L) (hx : ∀ e, e ∈ L → qv x e = false) : Srt (insF L x) := by
  have hne : ∀ e, e ∈ L → ordE e x ≠ 0 := fun e he hc => by
    have := hx e he
    rw [show qv x e = true from qra.2 (q5f.1 hc)] at this
    cases this
  rw [qbgs]
  have hsp : (L.takeWhile fun e => !decide (ordE e x > 0)) ++ (L.dropWhile fun e => !decide (ordE e x > 0)) = L := List.takeWhile_append_dropWhile
  have h' : Srt ((L.takeWhile fun e => !decide (ordE e x > 0)) ++ (L.dropWhile fun e => !decide (ordE e x > 0))) := by rw [hsp]; exact h
  obtain ⟨h1, h2, h3⟩ := List.pairwise_append.1 h'
  have hA : ∀ e, e ∈ (L.takeWhile fun e => !decide (ordE e x > 0)) → ordE e x < 0 := fun e he => by
    have h4 := quy _ _ _ he
    have h5 := hne e ((List.takeWhile_sublist _).subset he)
    simp at h4
    omega
  have hB : ∀ e, e ∈ (L.dropWhile fun e => !decide (ordE e x > 0)) → ordE x e < 0 := fun e he => by
    rcases qrb (fun e => !decide (ordE e x > 0)) L with hn | ⟨a, r, hd, hp⟩
    · rw [hn] at he; simp at he
    · have hax : ordE x a < 0 := by
        rw [qbdc a x]
        simp at hp
        omega
      rw [hd] at he h2
      rcases List.mem_cons.1 he with rfl | he
      · exact hax
      · exact qbbf hax ((List.pairwise_cons.1 h2).1 e he)
  rw [List.append_assoc]
  refine List.pairwise_append.2 ⟨h1, ?_, ?_⟩
  · rw [List.singleton_append]
    exact List.pairwise_cons.2 ⟨hB, h2⟩
  · intro a ha b hb
    rw [List.singleton_append] at hb
    rcases List.mem_cons.1 hb with rfl | hb
    · exact hA a ha
    · exact h3 a ha b hb
theorem q93 (most : Int) (x : En) : ∀ (k : Nat) (L : List En), L.length ≤ k → Uniq L → ((evF most (qv x) k L).length : Int) ≤ max most 1
  | 0, L, hk, _ => by
    unfold evF
    omega
  | k + 1, L, hk, hu => by
    unfold evF
    split
    · rename_i hc
      simp only [Bool.and_eq_true, decide_eq_true_eq] at hc
      obtain ⟨p, hp⟩ := Option.isSome_iff_exists.1 (qxh (qv x) L none 0 (.inr (q2r hu (by omega) x)))
      obtain ⟨e, he, _, _⟩ := q0j (qv x) L L none 0 rfl (fun p h => by cases h) p hp
      have hpl : p.1 < L.length := (List.getElem?_eq_some_iff.1 he).1
      rw [hp]
      refine q93 most x k _ ?_ (hu.sublist (List.eraseIdx_sublist ..))
      rw [List.length_eraseIdx_of_lt hpl]
      omega
    · rename_i hc
      simp only [Bool.and_eq_true, decide_eq_true_eq] at hc
      omega
def q2t (e : En) : Prop := qu e.n = true ∧ 0 ≤ e.k ∧ e.k ≤ 2 ∧ (e.k = 0 ↔ e.d ≠ []) ∧ (e.k = 2 ↔ e.t = 0) ∧ e.d.length ≤ 64 ∧ qlk e.d
structure Inv (most : Int) (L : List En) : Prop where
  len : (L.length : Int) ≤ most
  srt : Srt L
  nx : ∀ a b, a ∈ L → b ∈ L → a.n = b.n → a.k = 2 → a = b
  ent : ∀ e, e ∈ L → q2t e
theorem q2t.en {e : En} (h : q2t e) : enOk e := by
  obtain ⟨h1, _, _, _, _, h6, _⟩ := h
  have := qt8 h1
  exact ⟨by unfold qua; omega, by unfold qss; omega⟩
theorem Inv.good {most : Int} {L : List En} (h : Inv most L) (hm : most ≤ 256) : Good L :=
  ⟨by have := h.len; omega, h.srt.uniq, fun e he => (h.ent e he).en⟩
theorem qx0 {most : Int} (h : 1 ≤ most) : Inv most [] := ⟨by simp; omega, List.Pairwise.nil, by simp, by simp⟩
theorem Inv.sub {most : Int} {L M : List En} (h : Inv most L) (hs : M.Sublist L) : Inv most M :=
  ⟨by have := h.len; have := hs.length_le; omega, h.srt.sublist hs, fun a b ha hb => h.nx a b (hs.subset ha) (hs.subset hb), fun e he => h.ent e (hs.subset he)⟩
theorem q5h {most : Int} {L : List En} {x : En} {now : Int} (hm : 1 ≤ most) (h : Inv most L) (hx : q2t x) (h1 : ∀ e, e ∈ L → e.n = x.n → e.k ≠ 2) (h2 : x.k = 2 → ∀ e, e ∈ L → e.n ≠ x.n) : Inv most (qgt most L x now) := by
  have hmem := fun {e : En} (he : e ∈ qgt most L x now) => qbbc x most now he
  have h0 : Inv most (L.filter fun e => !qv x e) := h.sub (List.filter_sublist ..)
  have hns : ∀ e, e ∈ L.filter (fun e => !qv x e) → qv x e = false := fun e he => by
    have := (List.mem_filter.1 he).2
    simpa using this
  have hs1 : Srt (insF (L.filter fun e => !qv x e) x) := qbgt h0.srt hns
  have hs2 : Srt (if ((insF (L.filter fun e => !qv x e) x).length : Int) > most then (insF (L.filter fun e => !qv x e) x).filter (fun e => qv x e || e.alive now) else insF (L.filter fun e => !qv x e) x) := by
    split
    · exact hs1.sublist (List.filter_sublist ..)
    · exact hs1
  refine ⟨?_, ?_, ?_, ?_⟩
  · unfold qgt
    have := q93 most x _ _ (Nat.le_refl _) hs2.uniq
    simp only at this ⊢
    omega
  · unfold qgt
    exact hs2.sublist (qxx most (qv x) _ _)
  · intro a b ha hb hn hk
    rcases hmem ha with e1 | ha2
    · rcases hmem hb with e2 | hb2
      · rw [e1, e2]
      · exact absurd (by rw [← e1]; exact hn.symm) (h2 (by rw [← e1]; exact hk) b hb2)
    · rcases hmem hb with e2 | hb2
      · exact absurd hk (h1 a ha2 (by rw [hn, e2]))
      · exact h.nx a b ha2 hb2 hn hk
  · intro e he
    rcases hmem he with rfl | he
    · exact hx
    · exact h.ent e he
theorem qben {n : List UInt8} {t l : Int} {d : List AV} (h : quc n t l d = true) : qu n = true ∧ t ≠ 0 ∧ d ≠ [] ∧ d.length ≤ 64 ∧ 0 < l ∧ l ≤ 2147483647 := by
  unfold quc at h
  simp only [Bool.and_eq_true, Bool.not_eq_true', Bool.or_eq_false_iff, decide_eq_false_iff_not, beq_eq_false_iff_ne] at h
  obtain ⟨⟨⟨h1, h2⟩, h3⟩, h4⟩ := h
  obtain ⟨y, r, rfl⟩ : ∃ y r, d = y :: r := by
    cases d with
    | nil => simp at h1
    | cons y r => exact ⟨y, r, rfl⟩
  rw [List.all_cons, Bool.and_eq_true] at h4
  have h5 := h4.1
  unfold qbe8 q2p at h5
  simp only [Bool.and_eq_true, decide_eq_true_eq] at h5
  obtain ⟨h6, ⟨⟨h7, h8⟩, h9⟩, _⟩ := h5
  refine ⟨h6, fun ht => ?_, by simp, by omega, by omega, h9⟩
  subst ht
  exact absurd h7 (by decide)
theorem q4a {most : Int} {L : List En} (hm : 1 ≤ most) (h : Inv most L) (n : List UInt8) (t l : Int) (d : List AV) (rank state now : Int) (hd : qlk d) : Inv most (PutF most L n t l d rank state now) := by
  unfold PutF
  split
  · exact h
  · rename_i hr
    have hst : quc n t l d = true := by
      unfold qsu at hr
      simp only [Bool.or_eq_true, not_or, Bool.not_eq_true', Bool.not_eq_false'] at hr
      simpa using hr.1.1.1
    obtain ⟨g1, g2, g3, g4, _⟩ := qben hst
    refine q5h hm (h.sub (List.filter_sublist ..)) ⟨g1, by simp [putE], by simp [putE], by simp [putE, g3], by simp [putE, g2], g4, hd⟩ (fun e he hn hk => ?_) (fun hk => by simp [putE] at hk)
    have := (List.mem_filter.1 he).2
    simp [En.denies, hk, show e.n = n from hn] at this
theorem q8k {most : Int} {L : List En} (hm : 1 ≤ most) (h : Inv most L) (n : List UInt8) (t : Int) (nx : Bool) (ttl rank state now : Int) : Inv most (qxy most L n t nx ttl rank state now) := by
  unfold qxy
  split
  · exact h
  · rename_i hr
    unfold qsv at hr
    simp only [Bool.or_eq_true, not_or, Bool.not_eq_true', Bool.not_eq_false', decide_eq_true_eq] at hr
    have g1 : qu n = true := by simpa using hr.1.1.1.1.1.1
    have g2 : nx = true ∨ 1 ≤ t := by
      have := hr.1.2
      cases nx
      · simp at this; right; omega
      · exact .inl rfl
    refine q5h hm (h.sub (List.filter_sublist ..)) ⟨g1, ?_, ?_, ?_, ?_, by simp [qjt], by simp [qjt, qlk]⟩ (fun e he hn hk => ?_) (fun hk e he hn => ?_)
    · simp only [qjt]; cases nx <;> simp
    · simp only [qjt]; cases nx <;> simp
    · simp only [qjt]; cases nx <;> simp
    · simp only [qjt]
      rcases g2 with rfl | g2
      · simp
      · cases nx <;> simp; omega
    · have h3 := (List.mem_filter.1 he).2
      have hn' : e.n = n := hn
      cases nx <;> simp [qop, En.denies, hk, hn'] at h3
    · have h3 := (List.mem_filter.1 he).2
      have hn' : e.n = n := hn
      have : nx = true := by
        cases nx
        · simp [qjt] at hk
        · rfl
      subst this
      simp [qop, hn'] at h3
theorem qbeo {most : Int} {L : List En} (h : Inv most L) (now : Int) {k : Nat} {e : En} (he : L[k]? = some e) : Inv most (L.set k (qcz e now)) := by
  have hkl := (List.getElem?_eq_some_iff.1 he).1
  have heL := List.mem_of_getElem? he
  have hmem : ∀ a, a ∈ L.set k (qcz e now) → ∃ b, b ∈ L ∧ a.n = b.n ∧ a.t = b.t ∧ a.k = b.k ∧ a.d = b.d := fun a ha => by
    rcases List.mem_or_eq_of_mem_set ha with ha | rfl
    · exact ⟨a, ha, rfl, rfl, rfl, rfl⟩
    · exact ⟨e, heL, rfl, rfl, rfl, rfl⟩
  have hsrt : Srt (L.set k (qcz e now)) := by
    unfold Srt
    rw [List.pairwise_iff_getElem]
    intro i j hi hj hij
    rw [List.length_set] at hi hj
    have hs := List.pairwise_iff_getElem.1 h.srt i j hi hj hij
    have hek : L[k] = e := by
      rw [List.getElem?_eq_getElem hkl] at he
      exact Option.some.inj he
    have same : ∀ (i : Nat) (hi : i < L.length), ((L.set k (qcz e now))[i]'(by rw [List.length_set]; exact hi)).n = L[i].n ∧ ((L.set k (qcz e now))[i]'(by rw [List.length_set]; exact hi)).t = L[i].t := fun i hi => by
      rw [List.getElem_set]
      split
      · rename_i hki
        subst hki
        rw [hek]; exact ⟨rfl, rfl⟩
      · exact ⟨rfl, rfl⟩
    rw [q8j] at hs ⊢
    rw [(same i hi).1, (same j hj).1, (same i hi).2, (same j hj).2]
    exact hs
  refine ⟨by rw [List.length_set]; exact h.len, hsrt, ?_, ?_⟩
  · intro a b ha hb hn hk
    obtain ⟨a', ha', e1, e2, e3, _⟩ := hmem a ha
    obtain ⟨b', hb', f1, f2, f3, _⟩ := hmem b hb
    have hab := h.nx a' b' ha' hb' (by rw [← e1, ← f1, hn]) (by rw [← e3]; exact hk)
    obtain ⟨i, hi⟩ := List.getElem?_of_mem ha
    obtain ⟨j, hj⟩ := List.getElem?_of_mem hb
    by_cases hij : i = j
    · subst hij; rw [hi] at hj; exact Option.some.inj hj
    · exfalso
      have hu := hsrt.uniq
      have hil := (List.getElem?_eq_some_iff.1 hi)
      have hjl := (List.getElem?_eq_some_iff.1 hj)
      have ht : a.t = b.t := by rw [e2, f2, hab]
      rcases Nat.lt_or_gt_of_ne hij with hlt | hlt
      · have := List.pairwise_iff_getElem.1 hu i j hil.1 hjl.1 hlt
        rw [hil.2, hjl.2] at this
        exact this ⟨hn, ht⟩
      · have := List.pairwise_iff_getElem.1 hu j i hjl.1 hil.1 hlt
        rw [hil.2, hjl.2] at this
        exact this ⟨hn.symm, ht.symm⟩
  · intro a ha
    obtain ⟨b, hb, e1, e2, e3, e4⟩ := hmem a ha
    have := h.ent b hb
    unfold q2t at this ⊢
    rw [e1, e2, e3, e4]
    exact this
theorem q5i {L : List En} {n : List UInt8} {t now : Int} {p : Nat × En} (h : qce L n t now = some p) : L[p.1]? = some p.2 := by
  unfold qce at h
  split at h
  · cases h
  · split at h
    · rename_i e he
      cases h
      exact he
    · cases h
theorem qbgu {most : Int} {L : List En} (h : Inv most L) (n : List UInt8) (t now : Int) : Inv most (getL L now (qce L n t now)) := by
  cases hg : qce L n t now with
  | none => exact h
  | some p => exact qbeo h now (q5i hg)
end Go.Proofs.YtmficjbenbhneaaDoor.Dn
