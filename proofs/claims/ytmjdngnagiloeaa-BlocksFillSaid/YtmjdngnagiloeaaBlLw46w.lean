/- What is free in a container: in order, disjoint, everything, and as_ large as_ can be. -/
import Derived.Test.YtmjdngnagiloeaaBlLw46v
set_option linter.all false
namespace Go.Proofs.Ytmjdngnagiloeaa.Dn
open Go Go.Pev
set_option linter.unusedVariables false
set_option linter.unusedSimpArgs false
set_option maxRecDepth 4000
theorem qbir {p q : Pq} (hp : p.good) (hq : q.good) : ovP p q = true ↔ p.np.sub q.np ∨ q.np.sub p.np := by
  unfold ovP; rw [Bool.or_eq_true, qfe hp hq, qfe hq hp]
theorem qry {C : List AV} (hC : qiu C) : ∀ (n : Nat) (p : Pq), p.good → ∀ q, q ∈ qef C n p → q.good ∧ q.np.sub p.np ∧ ∀ c, c ∈ C → ovP (pqY c) q = false
  | 0, p, hp, q, hq => by simp [qef] at hq
  | n + 1, p, hp, q, hq => by
    unfold qef at hq
    cases hW : C.any fun b => winP p (pqY b) with
    | true => simp [hW] at hq
    | false =>
      cases hO : C.any fun b => ovP (pqY b) p with
      | false =>
        simp [hW, hO] at hq
        subst hq
        exact ⟨hp, Np.sub_refl hp.np_ok, fun c hc => by have := List.any_eq_false.1 hO c hc; simpa using this⟩
      | true =>
        cases hh : p.half with
        | false => simp [hW, hO, hh] at hq
        | true =>
          rw [hW, hO, hh] at hq
          simp only [cond_f, Bool.not_true, cond_t, List.mem_append] at hq
          obtain ⟨s1, s2, _, _⟩ := qbfy hp hh
          rcases hq with hq | hq
          · obtain ⟨a, b, c⟩ := qry hC n p.low (Pq.low_good hp hh) q hq
            exact ⟨a, Np.sub_trans b s1, c⟩
          · obtain ⟨a, b, c⟩ := qry hC n p.high (Pq.high_good hp hh) q hq
            exact ⟨a, Np.sub_trans b s2, c⟩
theorem q1u {C : List AV} (hC : qiu C) : ∀ (n : Nat) (p : Pq), p.good → (qef C n p).Pairwise fun x y => x.v = y.v ∧ x.np.n < y.np.n ∧ ovP y x = false
  | 0, p, hp => by simp [qef]
  | n + 1, p, hp => by
    unfold qef
    cases hW : C.any fun b => winP p (pqY b) with
    | true => simp
    | false =>
      cases hO : C.any fun b => ovP (pqY b) p with
      | false => simp
      | true =>
        cases hh : p.half with
        | false => simp
        | true =>
          simp only [cond_f, Bool.not_true, cond_t]
          have hlg := Pq.low_good hp hh
          have hhg := Pq.high_good hp hh
          have hk := (Pq.half_iff hp).1 hh
          refine List.pairwise_append.2 ⟨q1u hC n p.low hlg, q1u hC n p.high hhg, fun x hx y hy => ?_⟩
          obtain ⟨x1, x2, _⟩ := qry hC n p.low hlg x hx
          obtain ⟨y1, y2, _⟩ := qry hC n p.high hhg y hy
          rw [Pq.low_np hp hh] at x2
          rw [Pq.high_np hp hh] at y2
          obtain ⟨a1, a2, a3, a4⟩ := (Np.sub_range x1.np_ok (Np.low_ok hp.np_ok hk)).1 x2
          obtain ⟨b1, b2, b3, b4⟩ := (Np.sub_range y1.np_ok (Np.high_ok hp.np_ok hk)).1 y2
          refine ⟨a1.trans b1.symm, ?_, ?_⟩
          · simp only [Np.low, Np.high] at *; omega
          · cases ho : ovP y x with
            | false => rfl
            | true =>
              exfalso
              rcases (qbir y1 x1).1 ho with h | h
              · exact Np.not_both hp.np_ok y1.np_ok hk (Np.sub_trans h x2) y2
              · exact Np.not_both hp.np_ok x1.np_ok hk x2 (Np.sub_trans h y2)
theorem qbbk {C : List AV} (hC : qiu C) : ∀ (n : Nat) (p : Pq), p.good → p.np.k + 1 ≤ n → ∀ a : Np, a.ok → a.k = 0 → a.sub p.np → (∃ c, c ∈ C ∧ a.sub (pqY c).np) ∨ ∃ q, q ∈ qef C n p ∧ a.sub q.np
  | 0, p, hp, hn, _, _, _, _ => by omega
  | n + 1, p, hp, hn, a, ha, ha0, hs => by
    unfold qef
    cases hW : C.any fun b => winP p (pqY b) with
    | true =>
      obtain ⟨c, hc, h⟩ := List.any_eq_true.1 hW
      exact .inl ⟨c, hc, Np.sub_trans hs ((qfe hp (hC c hc)).1 h)⟩
    | false =>
      cases hO : C.any fun b => ovP (pqY b) p with
      | false => exact .inr ⟨p, by simp, hs⟩
      | true =>
        cases hh : p.half with
        | false =>
          exfalso
          have hk : ¬ 0 < p.np.k := fun h => by rw [(Pq.half_iff hp).2 h] at hh; cases hh
          obtain ⟨c, hc, h⟩ := List.any_eq_true.1 hO
          have hn' : winP p (pqY c) = false := by have := List.any_eq_false.1 hW c hc; simpa using this
          rcases (qbir (hC c hc) hp).1 h with h | h
          · have : p.np.sub (pqY c).np := Np.nest h (Np.sub_refl (hC c hc).np_ok) (by omega)
            rw [(qfe hp (hC c hc)).2 this] at hn'; cases hn'
          · rw [(qfe hp (hC c hc)).2 h] at hn'; cases hn'
        | true =>
          simp only [cond_f, Bool.not_true, cond_t]
          have hlg := Pq.low_good hp hh
          have hhg := Pq.high_good hp hh
          have hk := (Pq.half_iff hp).1 hh
          obtain ⟨_, _, k1, k2⟩ := qbfy hp hh
          rcases Np.half hp.np_ok ha hs (by omega) with h | h
          · rw [← Pq.low_np hp hh] at h
            rcases qbbk hC n p.low hlg (by omega) a ha ha0 h with h' | ⟨q, h1, h2⟩
            · exact .inl h'
            · exact .inr ⟨q, List.mem_append_left _ h1, h2⟩
          · rw [← Pq.high_np hp hh] at h
            rcases qbbk hC n p.high hhg (by omega) a ha ha0 h with h' | ⟨q, h1, h2⟩
            · exact .inl h'
            · exact .inr ⟨q, List.mem_append_right _ h1, h2⟩
theorem qbbl {C : List AV} (hC : qiu C) : ∀ (n : Nat) (p : Pq), p.good → ∀ q, q ∈ qef C n p → q = p ∨ ∃ u : Pq, u.good ∧ q.bits = u.bits + 1 ∧ q.np.sub u.np ∧ ∃ c, c ∈ C ∧ ovP (pqY c) u = true
  | 0, p, hp, q, hq => by simp [qef] at hq
  | n + 1, p, hp, q, hq => by
    unfold qef at hq
    cases hW : C.any fun b => winP p (pqY b) with
    | true => simp [hW] at hq
    | false =>
      cases hO : C.any fun b => ovP (pqY b) p with
      | false => simp [hW, hO] at hq; exact .inl hq
      | true =>
        cases hh : p.half with
        | false => simp [hW, hO, hh] at hq
        | true =>
          rw [hW, hO, hh] at hq
          simp only [cond_f, Bool.not_true, cond_t, List.mem_append] at hq
          obtain ⟨s1, s2, _, _⟩ := qbfy hp hh
          obtain ⟨c, hc, hco⟩ := List.any_eq_true.1 hO
          rcases hq with hq | hq
          · rcases qbbl hC n p.low (Pq.low_good hp hh) q hq with h | h
            · exact .inr ⟨p, hp, by rw [h]; rfl, by rw [h]; exact s1, c, hc, hco⟩
            · exact .inr h
          · rcases qbbl hC n p.high (Pq.high_good hp hh) q hq with h | h
            · exact .inr ⟨p, hp, by rw [h]; rfl, by rw [h]; exact s2, c, hc, hco⟩
            · exact .inr h
theorem qbfz {l : List AV} (hg : qiu l) {p : Pq} (hp : p.good) {c : AV} (hc : c ∈ qg7 l p.v p.hi p.lo p.bits) : c ∈ l ∧ (pqY c).np.sub p.np ∧ (pqY c).np.k < p.np.k ∧ ∀ o, o ∈ l → (pqY o).np.sub p.np → (pqY o).np.k < p.np.k → ¬ ((pqY c).np.sub (pqY o).np ∧ (pqY c).np.k < (pqY o).np.k) := by
  unfold qg7 at hc
  obtain ⟨h1, h2⟩ := List.mem_filter.1 hc
  unfold q1s at h2
  rw [Bool.and_eq_true] at h2
  obtain ⟨a, b⟩ := (qrx (p := pqY c) (hg c h1) hp).1 h2.1
  refine ⟨h1, a, b, fun o ho h3 h4 ⟨h5, h6⟩ => ?_⟩
  have h7 := h2.2
  rw [Bool.not_eq_true', List.any_eq_false] at h7
  have h8 := h7 o ho
  exact h8 (by rw [Bool.and_eq_true]; exact ⟨(qrx (p := pqY o) (hg o ho) hp).2 ⟨h3, h4⟩, (qrx (hg c h1) (hg o ho)).2 ⟨h5, h6⟩⟩)
theorem qbst {l : List AV} (hl : qbz l) (ht : qfq l) {p : Pq} (hp : p.good) : (qg7 l p.v p.hi p.lo p.bits).Pairwise fun x y => ovP (pqY y) (pqY x) = false := by
  have hg := qsb hl ht
  have h0 : (qg7 l p.v p.hi p.lo p.bits).Pairwise ltY := (qbvh ht).filter _
  refine h0.imp_of_mem fun {x y} hx hy hlt => ?_
  obtain ⟨x0, x1, x2, x3⟩ := qbfz hg hp hx
  obtain ⟨y0, y1, y2, y3⟩ := qbfz hg hp hy
  have hne : pqY x ≠ pqY y := fun e => by
    have := qbiq ht y0 x0 e
    subst this
    exact absurd hlt qky
  cases ho : ovP (pqY y) (pqY x) with
  | false => rfl
  | true =>
    exfalso
    rcases (qbir (hg y y0) (hg x x0)).1 ho with h | h
    · rcases Nat.lt_or_ge (pqY y).np.k (pqY x).np.k with hk | hk
      · exact y3 x x0 x1 x2 ⟨h, hk⟩
      · exact hne (qbsj (hg x x0) (hg y y0) (Np.sub_antisymm (hg x x0).np_ok (Np.nest h (Np.sub_refl (hg y y0).np_ok) hk) h))
    · rcases Nat.lt_or_ge (pqY x).np.k (pqY y).np.k with hk | hk
      · exact x3 y y0 y1 y2 ⟨h, hk⟩
      · exact hne (qbsj (hg x x0) (hg y y0) (Np.sub_antisymm (hg x x0).np_ok h (Np.nest h (Np.sub_refl (hg x x0).np_ok) hk)))
def qq1 (w : Bool) (ahi alo : Int) (q : Pq) : Bool := qph q.v q.hi q.lo q.bits w ahi alo
theorem qux {q : Pq} (hq : q.good) {w : Bool} {ahi alo : Int} (u3 : uok ahi) (u4 : uok alo) : qq1 w ahi alo q = true ↔ ql5 w ahi alo = true ∧ (⟨w, numP ahi alo, 0⟩ : Np).sub q.np := by
  unfold qq1
  rw [qblk hq.2.1 hq.2.2 u3 u4]
  unfold Np.sub
  constructor
  · rintro ⟨_, h2, h3, h4⟩; exact ⟨h2, h3.symm, Nat.zero_le _, h4.symm⟩
  · rintro ⟨h1, h2, _, h4⟩; exact ⟨hq.1, h1, h2.symm, h4.symm⟩
def allQ (l : List AV) (p : Pq) : List Pq := qef (qg7 l p.v p.hi p.lo p.bits) (p.np.k + 1) p ++ (qg7 l p.v p.hi p.lo p.bits).map pqY
theorem qmj {l : List AV} (hg : qiu l) {p : Pq} : qiu (qg7 l p.v p.hi p.lo p.bits) := fun y hy => hg y (List.mem_filter.1 hy).1
theorem qbo4 {l : List AV} (hg : qiu l) {p : Pq} (hp : p.good) {q : Pq} (hq : q ∈ allQ l p) : q.good ∧ q.np.sub p.np := by
  rcases List.mem_append.1 hq with h | h
  · obtain ⟨a, b, _⟩ := qry (qmj hg) _ p hp q h
    exact ⟨a, b⟩
  · obtain ⟨c, hc, rfl⟩ := List.mem_map.1 h
    obtain ⟨c0, c1, _, _⟩ := qbfz hg hp hc
    exact ⟨hg c c0, c1⟩
theorem qbo5 {l : List AV} (hl : qbz l) (ht : qfq l) {p : Pq} (hp : p.good) : (allQ l p).Pairwise fun x y => ovP y x = false := by
  have hg := qsb hl ht
  refine List.pairwise_append.2 ⟨(q1u (qmj hg) _ p hp).imp fun h => h.2.2, ?_, fun x hx y hy => ?_⟩
  · rw [List.pairwise_map]; exact qbst hl ht hp
  · obtain ⟨c, hc, rfl⟩ := List.mem_map.1 hy
    exact (qry (qmj hg) _ p hp x hx).2.2 c hc
theorem qbv6 {α : Type} {R : α → α → Prop} {T : α → Bool} {l : List α} (hp : l.Pairwise R) (h1 : ∀ x y, x ∈ l → y ∈ l → T x = true → T y = true → ¬ R x y) (h2 : ∃ x, x ∈ l ∧ T x = true) : (l.filter T).length = 1 := by
  have hf := hp.filter T
  obtain ⟨x, hx, hT⟩ := h2
  have hm : x ∈ l.filter T := List.mem_filter.2 ⟨hx, hT⟩
  cases he : l.filter T with
  | nil => rw [he] at hm; cases hm
  | cons a r =>
    cases r with
    | nil => rfl
    | cons b r =>
      exfalso
      rw [he] at hf
      have ha : a ∈ l.filter T := by rw [he]; simp
      have hb : b ∈ l.filter T := by rw [he]; simp
      obtain ⟨a1, a2⟩ := List.mem_filter.1 ha
      obtain ⟨b1, b2⟩ := List.mem_filter.1 hb
      exact h1 a b a1 b1 a2 b2 ((List.pairwise_cons.1 hf).1 b (by simp))
theorem qbvi {l : List AV} (hl : qbz l) (ht : qfq l) {p : Pq} (hp : p.good) {w : Bool} {ahi alo : Int} (u3 : uok ahi) (u4 : uok alo) (hc : qq1 w ahi alo p = true) : ((allQ l p).filter (qq1 w ahi alo)).length = 1 := by
  have hg := qsb hl ht
  obtain ⟨hao, has⟩ := (qux hp u3 u4).1 hc
  refine qbv6 (qbo5 hl ht hp) (fun x y hx hy h1 h2 h3 => ?_) ?_
  · obtain ⟨gx, _⟩ := qbo4 hg hp hx
    obtain ⟨gy, _⟩ := qbo4 hg hp hy
    obtain ⟨_, sx⟩ := (qux gx u3 u4).1 h1
    obtain ⟨_, sy⟩ := (qux gy u3 u4).1 h2
    have : ovP y x = true := (qbir gy gx).2 (by
      rcases Nat.le_total x.np.k y.np.k with h | h
      · exact .inr (Np.nest sx sy h)
      · exact .inl (Np.nest sy sx h))
    rw [this] at h3; cases h3
  · rcases qbbk (qmj hg) (p.np.k + 1) p hp (Nat.le_refl _) ⟨w, numP ahi alo, 0⟩ (Nat.mod_one _) rfl has with ⟨c, hc, h⟩ | ⟨q, hq, h⟩
    · exact ⟨pqY c, List.mem_append_right _ (List.mem_map.2 ⟨c, hc, rfl⟩), (qux (qmj hg c hc) u3 u4).2 ⟨hao, h⟩⟩
    · exact ⟨q, List.mem_append_left _ hq, (qux (qry (qmj hg) _ p hp q hq).1 u3 u4).2 ⟨hao, h⟩⟩
theorem qbvj {p q : Pq} (hp : p.good) (hq : q.good) (hv : p.v = q.v) (h : p.np.n < q.np.n) : ¬ cmpP p.v p.hi p.lo p.bits q.v q.hi q.lo q.bits ≥ 0 := by
  obtain ⟨⟨a1, a2⟩, ⟨a3, a4⟩⟩ := hp.2
  obtain ⟨⟨b1, b2⟩, ⟨b3, b4⟩⟩ := hq.2
  have hn : numP p.hi p.lo < numP q.hi q.lo := h
  unfold numP at hn
  have hlt : ¬ (p.hi > q.hi) ∧ ¬ (p.hi = q.hi ∧ p.lo ≥ q.lo) := by
    constructor
    · intro hc; omega
    · rintro ⟨hc, hc'⟩; rw [hc] at hn; omega
  rcases q1q p.v p.hi p.lo p.bits q.v q.hi q.lo q.bits with ⟨h1, _⟩ | ⟨h1, h2, h3, h4, h5⟩ | ⟨h1, h2⟩
  · omega
  · exact absurd ⟨h3, by omega⟩ hlt.2
  · exfalso
    unfold ltP at h2
    rcases h2 with ⟨h2, h3⟩ | ⟨_, h2 | ⟨h2, h3 | ⟨h3, _⟩⟩⟩
    · rw [hv, h2] at h3; cases h3
    · omega
    · exact hlt.2 ⟨h2.symm, by omega⟩
    · exact hlt.2 ⟨h2.symm, by omega⟩
theorem qbwo {q u : Pq} (hq : q.good) (hu : u.good) (h : q.np.sub u.np) : qrh q.v q.hi q.lo u.bits = some (u.av, true) := by
  obtain ⟨a1, a2, a3, a4⟩ := hu.range
  have hv : q.v = u.v := h.1
  rw [qbuh a1 (by rw [hv]; exact a2), (qe8 hq.1).2.2]
  obtain ⟨c1, c2, c3⟩ := qbki hq.2.1 hq.2.2 (kOf u.v u.bits) a4
  have e : numP (qcg .andNot .u64 q.hi (qlk (kOf u.v u.bits)).1) (qcg .andNot .u64 q.lo (qlk (kOf u.v u.bits)).2) = numP u.hi u.lo := c3.trans h.2.2
  obtain ⟨e1, e2⟩ := qbfr c1 c2 hu.2.1 hu.2.2 e
  have hk : (qbi q.v - u.bits).toNat = kOf u.v u.bits := by rw [hv]; rfl
  rw [hk, e1, e2, hv]
  rfl
end Go.Proofs.Ytmjdngnagiloeaa.Dn
