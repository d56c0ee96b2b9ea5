/- Tables of blocks: BlocksFill. -/
import Derived.Test.YtmjdngnagiloeaaBlLw46w
set_option linter.all false
namespace Go.Proofs.Ytmjdngnagiloeaa.Dn
open Go Go.Pev
set_option linter.unusedVariables false
set_option linter.unusedSimpArgs false
set_option maxRecDepth 4000
theorem qbvk {v : Bool} {hi lo by_ : Int} (hv : ql5 v hi lo = true) (u1 : uok hi) (u2 : uok lo) (u3 : uok by_) : ∃ w ahi alo f, q2t v hi lo by_ = some (mkA w ahi alo, f) ∧ uok ahi ∧ uok alo := by
  obtain ⟨a1, a2⟩ := u1
  obtain ⟨b1, b2⟩ := u2
  obtain ⟨c1, c2⟩ := u3
  have e1 : qzd lo by_ 0 = some ((lo + by_ + 0) % 18446744073709551616, (lo + by_ + 0) / 18446744073709551616) := by
    unfold qzd
    have c : (0 ≤ lo ∧ 0 ≤ by_ ∧ (0 : Int) ≤ 0 ∧ (0 : Int) ≤ 1) := ⟨b1, c1, by omega, by omega⟩
    simp only [decide_eq_true c, cond_t]
  have e2 : qzd hi 0 ((lo + by_ + 0) / 18446744073709551616) = some ((hi + 0 + (lo + by_ + 0) / 18446744073709551616) % 18446744073709551616, (hi + 0 + (lo + by_ + 0) / 18446744073709551616) / 18446744073709551616) := by
    unfold qzd
    have c : (0 ≤ hi ∧ (0 : Int) ≤ 0 ∧ 0 ≤ (lo + by_ + 0) / 18446744073709551616 ∧ (lo + by_ + 0) / 18446744073709551616 ≤ 1) := ⟨a1, by omega, by omega, by omega⟩
    simp only [decide_eq_true c, cond_t]
  have o0 : uok 0 := ⟨by omega, by omega⟩
  have o1 : uok ((lo + by_ + 0) % 18446744073709551616) := ⟨by omega, by omega⟩
  have o2 : uok ((hi + 0 + (lo + by_ + 0) / 18446744073709551616) % 18446744073709551616) := ⟨by omega, by omega⟩
  rw [qbdn]; unfold q60
  simp only [qbfq, hv, oB_s, Bool.not_true, cond_f, e1, e2]
  cases ((hi + 0 + (lo + by_ + 0) / 18446744073709551616) / 18446744073709551616 != 0) with
  | true => exact ⟨false, 0, 0, false, rfl, o0, o0⟩
  | false =>
    simp only [cond_f]
    cases ql5 v ((hi + 0 + (lo + by_ + 0) / 18446744073709551616) % 18446744073709551616) ((lo + by_ + 0) % 18446744073709551616) with
    | false => exact ⟨false, 0, 0, false, rfl, o0, o0⟩
    | true => exact ⟨v, _, _, true, rfl, o2, o1⟩
theorem qbsu (q : Pq) : fitC qe q.av.cells = true := rfl
theorem av_w (q : Pq) : gB q.av.cells 0 = q.v ∧ gI q.av.cells 1 = q.hi ∧ gI q.av.cells 2 = q.lo ∧ gI q.av.cells 3 = q.bits := ⟨rfl, rfl, rfl, rfl⟩
theorem qbt4 {q : Pq} (h : q.good) : ∃ a b c, qlp q.v q.hi q.lo q.bits = some (.agg [(.bool q.v), (.int .u64 q.hi), (.int .u64 q.lo), (.bool a), (.int .u64 b), (.int .u64 c)], true) := by
  obtain ⟨h1, h2, _⟩ := qe8 h.1
  rw [q2r]; unfold qvw
  simp only [qxs, h.1, oB_s, qbkf h1 h2]
  exact ⟨_, _, _, rfl⟩
theorem qbt5 (l : List AV) (by_ : Int) (fr ch : List AV) (hf : ∀ y, y ∈ ch → qj8 y) (hn : ch.length ≤ 1000) (hr : fr.length ≤ 300000) (b0 : Bool) (b1 b2 b3 b4 : Int) (b5 b6 : List UInt8) (b7 : Int) (kx : List AV → Option Bool) :
    qge l by_ fr ch (ch.length : Int) b0 b1 b2 b3 b4 b5 b6 b7 kx FU 0 fr = kx (fr ++ ch.map fun c => (pqY c).av) := by
  rw [qpu]
  have key := qgl (σ := List AV) ch (by omega) (fun n i s => qho l by_ fr ch (ch.length : Int) b0 b1 b2 b3 b4 b5 b6 b7 kx n i s) (fun i s nx => qep l by_ fr ch (ch.length : Int) i b0 b1 b2 b3 b4 b5 b6 b7 s nx kx) (fun _ _ _ => rfl)
    (fun i s => s.length ≤ 300000 + i) (fun r s => kx (s ++ r.map fun c => (pqY c).av)) ?_ ?_ fr FU (by omega) (ql4 (by omega))
  · exact key
  · intro s nx _; simp [qep]
  · intro i y r s nx g1 g2 g3 g4 h2 h5
    have hy := hf y (List.mem_of_getElem? g2)
    have h6 : (i : Int) < (ch.length : Int) := by omega
    have n1 := h5 (s ++ [(pqY y).av]) (by simp; omega)
    have e1 : (AV.agg [(.bool (gB y.cells 0)), (.int .u64 (gI y.cells 1)), (.int .u64 (gI y.cells 2)), (.int .i64 (gI y.cells 3))]) = (pqY y).av := rfl
    unfold qep
    simp only [h6, decide_true, cond_t, ixB_nat, g2, oB_s, hy.1, hd_self, g4, e1]
    rw [qbqb _ (by omega), n1]
    simp
theorem qbsv (l : List AV) (by_ : Int) (ub : uok by_) (fr a1 : List AV) (p : Pq) (hp : p.good) (b4 : Int) (b5 b6 : List UInt8) (b7 : Int) (kn : Bool → Int → Int → Option Bool) :
    ∃ w ahi alo, uok ahi ∧ uok alo ∧ qq1 w ahi alo p = true ∧ qgf l by_ fr true p.v p.hi p.lo p.bits b4 b5 b6 b7 a1 p.v p.hi p.lo kn = kn w ahi alo := by
  have hao := (qe8 hp.1).2.2
  obtain ⟨w, ahi, alo, f, e, u1, u2⟩ := qbvk hao hp.2.1 hp.2.2 ub
  have hself : qq1 p.v p.hi p.lo p = true := (qux hp hp.2.1 hp.2.2).2 ⟨hao, rfl, Nat.zero_le _, by
    have := hp.np_ok
    unfold Np.ok at this
    show p.np.n - p.np.n % 2 ^ p.np.k = p.np.n
    rw [this]; rfl⟩
  rw [qpy]; unfold qmc
  simp only [e, oB_s, hd_self, Bool.and_self, cond_t]
  rw [qpw]; unfold qmb
  cases f with
  | false => exact ⟨p.v, p.hi, p.lo, hp.2.1, hp.2.2, hself, rfl⟩
  | true =>
    simp only [cond_t, qx4, oB_s]
    rw [show qph p.v p.hi p.lo p.bits (gB (mkA w ahi alo).cells 0) (gI (mkA w ahi alo).cells 1) (gI (mkA w ahi alo).cells 2) = qq1 w ahi alo p from rfl]
    cases hc : qq1 w ahi alo p with
    | false => exact ⟨p.v, p.hi, p.lo, hp.2.1, hp.2.2, hself, rfl⟩
    | true => exact ⟨w, ahi, alo, u1, u2, hc, rfl⟩
theorem qbsw (l fr a1 : List AV) (o : Bool) (held n i : Int) (P : List Pq) (hn : P.length ≤ 1000000) (x : Pq) (hP : ∀ y, y ∈ P → ovP x y = false) (b0 : Bool) (b1 b2 b3 b4 : Int) (b5 b6 : List UInt8) (b7 : Int) (c0 : Bool) (c1 c2 : Int) (kx : Unit → Option Bool) :
    qgh l fr o held n i (P.map Pq.av) ((P.map Pq.av).length : Int) b0 b1 b2 b3 b4 b5 b6 b7 a1 c0 c1 c2 x.v x.hi x.lo x.bits kx FU 0 = kx () := by
  rw [qp1, q4a (P.map Pq.av) (by simp; omega) (qhs l fr o held n i (P.map Pq.av) ((P.map Pq.av).length : Int) b0 b1 b2 b3 b4 b5 b6 b7 a1 c0 c1 c2 x.v x.hi x.lo x.bits kx)
    (fun j nx => qer l fr o held n i (P.map Pq.av) ((P.map Pq.av).length : Int) j b0 b1 b2 b3 b4 b5 b6 b7 a1 c0 c1 c2 x.v x.hi x.lo x.bits nx kx) (fun _ _ => rfl) (fun _ => kx ())]
  · intro nx; simp [qer]
  · intro j y r nx g1 g2 g3 g4 h5
    obtain ⟨q, hq, rfl⟩ := List.mem_map.1 (List.mem_of_getElem? g2)
    have h6 : (j : Int) < ((P.map Pq.av).length : Int) := by omega
    obtain ⟨w0, w1, w2, w3⟩ := av_w q
    unfold qer
    simp only [h6, decide_true, cond_t, ixB_nat, g2, oB_s, qbsu, q71, w0, w1, w2, w3, g4, h5]
    rw [show ovP ⟨x.v, x.hi, x.lo, x.bits⟩ ⟨q.v, q.hi, q.lo, q.bits⟩ = false from hP q hq]
    rfl
theorem qbui (q : Pq) : rdE q.av 0 true 4 = some q.av := rfl
theorem qbsx (q : Pq) : fitV (.st qe) q.av = true := rfl
theorem qbsy (l : List AV) (p : Pq) (hp : p.good) (b4 : Int) (b5 b6 : List UInt8) (b7 : Int) (F P : List Pq) (hn : (F ++ P).length ≤ 1000000) (w : Bool) (ahi alo : Int)
    (h1 : ∀ q, q ∈ F ++ P → q.good ∧ q.np.sub p.np) (h2 : (F ++ P).Pairwise fun x y => ovP y x = false) (h3 : F.Pairwise fun x y => x.v = y.v ∧ x.np.n < y.np.n) (kx : Int → Option Bool) :
    qdz l (F.map Pq.av) true (((F ++ P).map Pq.av).length : Int) p.v p.hi p.lo p.bits b4 b5 b6 b7 ((F ++ P).map Pq.av) w ahi alo kx FU 0 0 = kx (((F ++ P).filter (qq1 w ahi alo)).length : Int) := by
  rw [qp2]
  have hlen : ((F ++ P).map Pq.av).length = (F ++ P).length := List.length_map _
  have key := qgl (σ := Int) (F ++ P) (by omega) (fun n i s => qht l (F.map Pq.av) true (((F ++ P).map Pq.av).length : Int) p.v p.hi p.lo p.bits b4 b5 b6 b7 ((F ++ P).map Pq.av) w ahi alo kx n s i)
    (fun i s nx => qet l (F.map Pq.av) true s (((F ++ P).map Pq.av).length : Int) i p.v p.hi p.lo p.bits b4 b5 b6 b7 ((F ++ P).map Pq.av) w ahi alo (fun a b => nx b a) kx) (fun _ _ _ => rfl)
    (fun i s => 0 ≤ s ∧ s ≤ i) (fun r s => kx (s + ((r.filter (qq1 w ahi alo)).length : Int))) ?_ ?_ 0 FU (by omega) (ql4 (by omega))
  · rw [key]; simp
  · intro s nx _; rw [← hlen]; simp [qet]
  · intro i x r s nx g1 g2 g3 g4 hs h5
    have hx := List.mem_of_getElem? g2
    obtain ⟨xg, xs⟩ := h1 x hx
    have ga : ((F ++ P).map Pq.av)[i]? = some x.av := by rw [List.getElem?_map, g2]; rfl
    have h6 : (i : Int) < (((F ++ P).map Pq.av).length : Int) := by omega
    have h7 : (0 ≤ (i : Int) ∧ (i : Int) < (((F ++ P).map Pq.av).length : Int)) := ⟨by omega, h6⟩
    obtain ⟨w0, w1, w2, w3⟩ := av_w x
    unfold qet
    simp only [h6, decide_true, cond_t, hd_self, h7, and_self, Int.toNat_natCast, ga, oB_s, qbui, qbsx, Bool.and_self, w0, w1, w2, w3]
    have j76 : ∀ kn, qgg l (F.map Pq.av) true s (i : Int) (((F ++ P).map Pq.av).length : Int) (i : Int) p.v p.hi p.lo p.bits b4 b5 b6 b7 ((F ++ P).map Pq.av) w ahi alo x.v x.hi x.lo x.bits kn = kn false := by
      intro kn
      rw [qp0]; unfold qmd
      simp only [q4c, oB_s]
      rw [show qqa x.v x.hi x.lo x.bits p.v p.hi p.lo p.bits = true from (qfe xg hp).2 xs]
      simp only [Bool.not_true, cond_f]
      by_cases hi : (i : Int) > 0
      · simp only [hi, decide_true, cond_t]
        by_cases hif : (i : Int) < ((F.map Pq.av).length : Int)
        · simp only [hif, decide_true, cond_t, hd_self]
          obtain ⟨j, rfl⟩ : ∃ j, i = j + 1 := ⟨i - 1, by omega⟩
          have hw : IntKind.i64.wrap (((j + 1 : Nat) : Int) - 1) = ((j : Nat) : Int) := by rw [w64 (by omega) (by omega)]; omega
          have hj : j + 1 < F.length := by rw [List.length_map] at hif; omega
          have h7' : (0 ≤ (j : Int) ∧ (j : Int) < (((F ++ P).map Pq.av).length : Int)) := ⟨by omega, by omega⟩
          have gj : ((F ++ P).map Pq.av)[j]? = some (F[j]'(by omega)).av := by
            rw [List.getElem?_map, List.getElem?_append_left (by omega)]; simp [show j < F.length by omega]
          have hxF : x = F[j + 1]'hj := by
            rw [List.getElem?_append_left hj] at g2
            simp [hj] at g2; exact g2.symm
          have hpr := (List.pairwise_iff_getElem.1 h3) j (j + 1) (by omega) hj (by omega)
          have hyg := (h1 (F[j]'(by omega)) (List.mem_append_left _ (List.getElem_mem _))).1
          obtain ⟨y0, y1, y2, y3⟩ := av_w (F[j]'(by omega))
          simp only [hw, h7', and_self, decide_true, cond_t, Int.toNat_natCast, gj, oB_s, qbui, qbsx, y0, y1, y2, y3, qbov]
          rw [← hxF] at hpr
          have := qbvj hyg xg hpr.1 hpr.2
          simp only [this, decide_false]
        · simp only [hif, decide_false, cond_f]
      · simp only [hi, decide_false, cond_f]
    rw [j76]
    simp only [cond_f]
    rw [qze _ i (by omega)]
    simp only [oB_s]
    have ht : ((F ++ P).map Pq.av).take i = ((F ++ P).take i).map Pq.av := List.map_take.symm
    rw [ht, qbsw l (F.map Pq.av) ((F ++ P).map Pq.av) true s _ _ ((F ++ P).take i) (by simp at hn ⊢; omega) x (fun y hy => by
      obtain ⟨j, hj⟩ := List.getElem?_of_mem hy
      have hji : j < i := by
        have := (List.getElem?_eq_some_iff.1 hj).1
        simp at this; omega
      rw [List.getElem?_take] at hj
      simp only [hji, if_true] at hj
      obtain ⟨q1, q2⟩ := List.getElem?_eq_some_iff.1 hj
      obtain ⟨q3, q4⟩ := List.getElem?_eq_some_iff.1 g2
      have := (List.pairwise_iff_getElem.1 h2) j i q1 q3 hji
      rw [q2, q4] at this; exact this)]
    simp only [qx4, oB_s, g4, w64 (i := s + 1) (by omega) (by omega)]
    rw [List.filter_cons, show qph x.v x.hi x.lo x.bits w ahi alo = qq1 w ahi alo x from rfl]
    cases qq1 w ahi alo x with
    | true =>
      simp only [cond_t, if_true]
      rw [h5 (s + 1) (by omega)]
      congr 1; simp; omega
    | false =>
      simp only [cond_f, Bool.false_eq_true, if_false]
      exact h5 s (by omega)
theorem qbrc (l : List AV) (o1 o2 : Bool) (held : Int) (fr : List AV) (n i : Int) (ch : List AV) (hf : ∀ y, y ∈ ch → qj8 y) (hn : ch.length ≤ 1000) (u : Pq) (b0 : Bool) (b1 b2 b3 b4 : Int) (b5 b6 : List UInt8) (b7 : Int) (kx : Bool → Option Bool) :
    qfy l o1 held o2 fr n i ch (ch.length : Int) b0 b1 b2 b3 b4 b5 b6 b7 u.v u.hi u.lo u.bits kx FU false 0 = kx (ch.any fun c => ovP u (pqY c)) := by
  rw [qoq]
  have key := qgl (σ := Bool) ch (by omega) (fun m j s => qg5 l o1 held o2 fr n i ch (ch.length : Int) b0 b1 b2 b3 b4 b5 b6 b7 u.v u.hi u.lo u.bits kx m s j)
    (fun j s nx => qd5 l o1 held o2 s fr n i ch (ch.length : Int) j b0 b1 b2 b3 b4 b5 b6 b7 u.v u.hi u.lo u.bits (fun a b => nx b a) kx) (fun _ _ _ => rfl)
    (fun _ _ => True) (fun r s => kx (s || r.any fun c => ovP u (pqY c))) ?_ ?_ false FU trivial (ql4 (by omega))
  · rw [key]; simp
  · intro s nx _; simp [qd5]
  · intro j y r s nx g1 g2 g3 g4 _ h5
    have hy := hf y (List.mem_of_getElem? g2)
    have h6 : (j : Int) < (ch.length : Int) := by omega
    unfold qd5
    simp only [h6, decide_true, cond_t, ixB_nat, g2, oB_s, hy.1, q71, g4]
    rw [show ovP ⟨u.v, u.hi, u.lo, u.bits⟩ ⟨gB y.cells 0, gI y.cells 1, gI y.cells 2, gI y.cells 3⟩ = ovP u (pqY y) from rfl]
    rw [List.any_cons]
    cases s with
    | true => simp only [cond_t]; rw [h5 true trivial]; simp
    | false => simp only [cond_f]; rw [h5 _ trivial]; simp
theorem qbrd {l : List AV} (hl : qbz l) (hn : l.length ≤ 1000) (ht : qfq l) (p : Pq) (hp : p.good) (o1 : Bool) (held : Int) (F : List Pq) (hF : F.length ≤ 1000000) (b4 : Int) (b5 b6 : List UInt8) (b7 : Int)
    (h1 : ∀ q, q ∈ F → q.good ∧ (q = p ∨ ∃ u : Pq, u.good ∧ q.bits = u.bits + 1 ∧ q.np.sub u.np ∧ ∃ c, c ∈ qg7 l p.v p.hi p.lo p.bits ∧ ovP (pqY c) u = true)) (kx : Unit → Option Bool) :
    qdn l o1 held (F.map Pq.av) ((F.map Pq.av).length : Int) p.v p.hi p.lo p.bits b4 b5 b6 b7 kx FU 0 = kx () := by
  rw [qor, q4a (F.map Pq.av) (by simp; omega) (qg6 l o1 held (F.map Pq.av) ((F.map Pq.av).length : Int) p.v p.hi p.lo p.bits b4 b5 b6 b7 kx)
    (fun j nx => qd7 l o1 held (F.map Pq.av) ((F.map Pq.av).length : Int) j p.v p.hi p.lo p.bits b4 b5 b6 b7 nx kx) (fun _ _ => rfl) (fun _ => kx ())]
  · intro nx; simp [qd7]
  · intro j y r nx g1 g2 g3 g4 h5
    obtain ⟨q, hq, rfl⟩ := List.mem_map.1 (List.mem_of_getElem? g2)
    have h6 : (j : Int) < ((F.map Pq.av).length : Int) := by omega
    obtain ⟨w0, w1, w2, w3⟩ := av_w q
    obtain ⟨qg, hor⟩ := h1 q hq
    unfold qd7
    simp only [h6, decide_true, cond_t, ixB_nat, g2, oB_s, qbsu, w0, w1, w2, w3, g4, h5]
    cases he : ((q.v == p.v) && ((q.hi == p.hi) && ((q.lo == p.lo) && ((q.bits == p.bits) && true)))) with
    | true => simp only [cond_t]
    | false =>
      simp only [cond_f]
      rcases hor with rfl | ⟨u, hu, hb, hs, c, hc, ho⟩
      · simp at he
      · obtain ⟨r1, r2, _, _⟩ := hu.range
        have hl128 := qkj u.v
        have hw : IntKind.i64.wrap (q.bits - 1) = u.bits := by rw [w64 (by omega) (by omega)]; omega
        rw [hw, qbwo qg hu hs]
        simp only [oB_s, q7z l hl (by omega)]
        have hch : ∀ y, y ∈ qg7 l p.v p.hi p.lo p.bits → qj8 y := fun y hy => hl.2 y (List.mem_filter.1 hy).1
        have hcl : (qg7 l p.v p.hi p.lo p.bits).length ≤ l.length := List.length_filter_le _ _
        obtain ⟨z0, z1, z2, z3⟩ := av_w u
        rw [z0, z1, z2, z3, qbrc l o1 true held _ _ _ _ hch (by omega) u]
        have hm : ((qg7 l p.v p.hi p.lo p.bits).any fun c => ovP u (pqY c)) = true := List.any_eq_true.2 ⟨c, hc, by rw [qbty]; exact ho⟩
        rw [hm]
        simp only [Bool.not_true, Bool.or_self, cond_f]
theorem law46L (l : List AV) (hl : qbz l) (n : Int) (hn : 0 ≤ n ∧ n ≤ 255) (by_ : Int) (ub : uok by_) : qgx l n by_ = some true := by
  rw [qtb]; unfold qom
  have hf := qbvc hl
  have hlen := qbvd l
  simp only [qbwm l hl, oB_s, qbow _ hf]
  generalize fewF l = L at *
  by_cases hc : qwe L = 0
  · have ht := (q4e (by omega)).1 hc
    have hg := qsb hf ht
    rw [hc]
    by_cases h0 : L.length = 0
    · rw [h0]; simp [qbby]
    · have h0' : ((L.length : Int) == 0) = false := by simp; simpa using h0
      have h0'' : decide ((L.length : Int) ≠ 0) = true := by simp; simpa using h0
      rw [h0']
      simp only [bne_self_eq_false, Bool.false_or, cond_f, h0'', cond_t]
      obtain ⟨y, hy, hm⟩ := pick hn (l := L) (by omega) (by omega)
      have hyf := hf.2 y hm
      have hp := hg y hm
      have e1 := qbsm L hf hg (by omega) (pqY y)
      have e2 := q7z L hf (by omega) (pqY y).v (pqY y).hi (pqY y).lo (pqY y).bits
      have hfd : L.find? (atP (pqY y).v (pqY y).hi (pqY y).lo (pqY y).bits) = some y := qbss hm (quv.2 ⟨rfl, rfl, rfl, rfl⟩) fun z hz hq => qbiq ht hm hz (qbqc.1 hq)
      rw [show qkx L (pqY y).v (pqY y).hi (pqY y).lo (pqY y).bits = qkx L (gB y.cells 0) (gI y.cells 1) (gI y.cells 2) (gI y.cells 3) from rfl] at e1
      rw [show qfc L (pqY y).v (pqY y).hi (pqY y).lo (pqY y).bits = qfc L (gB y.cells 0) (gI y.cells 1) (gI y.cells 2) (gI y.cells 3) from rfl] at e2
      unfold qbm4 at e1
      rw [hfd] at e1
      simp only at e1
      by_cases hk : gI y.cells 4 = 1
      · have k1 : (gI y.cells 4 == 1) = true := by simpa using hk
        have k2 : (gI y.cells 4 != 1) = false := by simpa using hk
        rw [k1] at e1
        simp only [cond_t] at e1
        rw [qbms hg hp] at e1
        have hfl := qbo1 (qmj hg (p := pqY y)) (Nat.le_trans (List.length_filter_le _ _) (by omega)) (n := (pqY y).np.k + 1) (by have := hp.range.2.2.2; omega) hp
        have hcl : (qg7 L (pqY y).v (pqY y).hi (pqY y).lo (pqY y).bits).length ≤ L.length := List.length_filter_le _ _
        generalize hFr : qef (qg7 L (pqY y).v (pqY y).hi (pqY y).lo (pqY y).bits) ((pqY y).np.k + 1) (pqY y) = F at *
        have hFm : (F.map Pq.av).length = F.length := List.length_map _
        simp only [hy, oB_s, hyf.1, cond_t, e1]
        rw [k2]
        simp only [cond_f]
        have sz : decide ((([] : List AV).length + (F.map Pq.av).length) * 32 ≤ 140737488355328) = true := by rw [hFm]; simp; omega
        rw [sz]
        simp only [cond_t, e2, oB_s, hd_self, Bool.and_self]
        have hch : ∀ z, z ∈ qg7 L (pqY y).v (pqY y).hi (pqY y).lo (pqY y).bits → qj8 z := fun z hz => hf.2 z (List.mem_filter.1 hz).1
        rw [qbt5 L by_ _ _ hch (by omega) (by omega)]
        obtain ⟨ba, bb, bc, e3⟩ := qbt4 hp
        rw [show qlp (pqY y).v (pqY y).hi (pqY y).lo (pqY y).bits = qlp (gB y.cells 0) (gI y.cells 1) (gI y.cells 2) (gI y.cells 3) from rfl] at e3
        simp only [e3, oB_s, hd_self, Bool.and_self, cond_t]
        have hmap : (F.map Pq.av ++ (qg7 L (pqY y).v (pqY y).hi (pqY y).lo (pqY y).bits).map fun c => (pqY c).av) = (F ++ (qg7 L (pqY y).v (pqY y).hi (pqY y).lo (pqY y).bits).map pqY).map Pq.av := by
          rw [List.map_append, List.map_map]; rfl
        rw [hmap]
        have hall : allQ L (pqY y) = F ++ (qg7 L (pqY y).v (pqY y).hi (pqY y).lo (pqY y).bits).map pqY := by unfold allQ; rw [hFr]
        generalize hA : (F ++ (qg7 L (pqY y).v (pqY y).hi (pqY y).lo (pqY y).bits).map pqY) = A at *
        obtain ⟨w, ahi, alo, u1, u2, hcn, e4⟩ := qbsv L by_ ub (F.map Pq.av) (A.map Pq.av) (pqY y) hp (gI y.cells 4) (gS y.cells 5) (gS y.cells 6) (gI y.cells 7) (fun b2_0 b2_1 b2_2 => (qdz L (F.map Pq.av) true ((A.map Pq.av).length : Int) (gB y.cells 0) (gI y.cells 1) (gI y.cells 2) (gI y.cells 3) (gI y.cells 4) (gS y.cells 5) (gS y.cells 6) (gI y.cells 7) (A.map Pq.av) b2_0 b2_1 b2_2 (fun v17 => (qdn L true v17 (F.map Pq.av) ((F.map Pq.av).length : Int) (gB y.cells 0) (gI y.cells 1) (gI y.cells 2) (gI y.cells 3) (gI y.cells 4) (gS y.cells 5) (gS y.cells 6) (gI y.cells 7) (fun (_ : Unit) => (bif (true && (v17 == 1)) then (oB (qhk) fun r14 => (some r14)) else (some false))) FU 0)) FU 0 0))
        have e5 : ∀ kx, qdz L (F.map Pq.av) true ((A.map Pq.av).length : Int) (gB y.cells 0) (gI y.cells 1) (gI y.cells 2) (gI y.cells 3) (gI y.cells 4) (gS y.cells 5) (gS y.cells 6) (gI y.cells 7) (A.map Pq.av) w ahi alo kx FU 0 0 = kx ((A.filter (qq1 w ahi alo)).length : Int) := by
          intro kx
          rw [← hA]
          have hin : ∀ q, q ∈ allQ L (pqY y) → q.good ∧ q.np.sub (pqY y).np := fun q hq => qbo4 hg hp hq
          have hpr := qbo5 hf ht hp
          rw [hall, ← hA] at hin hpr
          refine qbsy L (pqY y) hp (gI y.cells 4) (gS y.cells 5) (gS y.cells 6) (gI y.cells 7) F _ (by simp; omega) w ahi alo hin hpr ?_ kx
          rw [← hFr]
          exact (q1u (qmj hg) _ _ hp).imp fun h => ⟨h.1, h.2.1⟩
        have e6 : (A.filter (qq1 w ahi alo)).length = 1 := by
          have := qbvi hf ht hp u1 u2 hcn
          rw [hall] at this; exact this
        have e7 : ∀ held kx, qdn L true held (F.map Pq.av) ((F.map Pq.av).length : Int) (gB y.cells 0) (gI y.cells 1) (gI y.cells 2) (gI y.cells 3) (gI y.cells 4) (gS y.cells 5) (gS y.cells 6) (gI y.cells 7) kx FU 0 = kx () := fun held kx => by
          refine qbrd hf (by omega) ht (pqY y) hp true held F (by omega) (gI y.cells 4) (gS y.cells 5) (gS y.cells 6) (gI y.cells 7) (fun q hq => ?_) kx
          rw [← hFr] at hq
          exact ⟨(qry (qmj hg) _ _ hp q hq).1, qbbl (qmj hg) _ _ hp q hq⟩
        refine Eq.trans e4 ?_
        simp only [hd_self, Bool.and_self, cond_t, e5, e6, e7, qbby, oB_s]
        rfl
      · have k1 : (gI y.cells 4 == 1) = false := by simpa using hk
        have k2 : (gI y.cells 4 != 1) = true := by simpa using hk
        rw [k1] at e1
        simp only [cond_f] at e1
        simp only [hy, oB_s, hyf.1, cond_t, e1]
        rw [k2]
        simp only [cond_t]
        rw [qpt]; unfold qma
        simp [qbby]
  · have : (qwe L != 0) = true := by simpa using hc
    rw [this]; simp only [Bool.true_or, cond_t, qbby, oB_s]
end Go.Proofs.Ytmjdngnagiloeaa.Dn
