/- Split and Join, the program's answer and the reference's. -/
import Derived.Test.YtmjdngnagiloeaaBlLw46g
set_option linter.all false
namespace Go.Proofs.Ytmjdngnagiloeaa.Dn
open Go Go.Pev
set_option linter.unusedVariables false
set_option linter.unusedSimpArgs false
set_option maxRecDepth 4000
theorem qbio {l : List AV} : qfq l ↔ (∀ y, y ∈ l → qtm y = true ∧ mayB y = true) ∧ l.Pairwise fun x y => ltY x y ∧ qkk y x = false := by
  constructor
  · intro h
    refine ⟨fun y hy => ?_, List.pairwise_iff_getElem.2 fun i j hi hj hij => ?_⟩
    · obtain ⟨j, hj⟩ := List.getElem?_of_mem hy
      exact ⟨(h j y hj).p, (h j y hj).may⟩
    · have h1 : l[i]? = some l[i] := by simp
      have h2 : l[j]? = some l[j] := by simp
      exact ⟨h.sorted i _ h1 j _ hij h2, (h j _ h2).bar i _ hij h1⟩
  · rintro ⟨h1, h2⟩ j y hy
    rw [List.pairwise_iff_getElem] at h2
    obtain ⟨hj, rfl⟩ := List.getElem?_eq_some_iff.1 hy
    refine ⟨(h1 _ (List.getElem_mem hj)).1, (h1 _ (List.getElem_mem hj)).2, fun i z hji hz => ?_, fun k z hk hz => ?_⟩
    · obtain ⟨hi, rfl⟩ := List.getElem?_eq_some_iff.1 hz
      exact (h2 i j hi hj (by omega)).1
    · obtain ⟨hi, rfl⟩ := List.getElem?_eq_some_iff.1 hz
      exact (h2 k j hi hj hk).2
theorem qfq.rem {l : List AV} (ht : qfq l) (v : Bool) (hi lo bits : Int) : qfq (remF l v hi lo bits) := by
  rw [qbio] at ht ⊢
  exact ⟨fun y hy => ht.1 y (List.mem_filter.1 hy).1, ht.2.filter _⟩
theorem qbfw {l : List AV} (hl : qbz l) (v : Bool) (hi lo bits : Int) : qbz (remF l v hi lo bits) := ⟨Nat.le_trans (List.length_filter_le _ _) hl.1, fun y hy => hl.2 y (List.mem_filter.1 hy).1⟩
theorem qbt0 {l : List AV} (hl : qbz l) (hn : l.length ≤ 100000) {b : AV} (hb : qj8 b) : qbz (insF b l) := ⟨by rw [qbft]; omega, fun y hy => by
  rcases qbox.1 hy with rfl | h
  · exact hb
  · exact hl.2 y h⟩
theorem qbfx (l : List AV) (v : Bool) (hi lo bits : Int) : (remF l v hi lo bits).length ≤ l.length := List.length_filter_le _ _
theorem q1t {l : List AV} (hl : qbz l) {v : Bool} {hi lo bits : Int} {y : AV} (h : l.find? (atP v hi lo bits) = some y) : q1o l v hi lo bits = (y, true) := by
  unfold q1o; rw [h]; simp only
  rw [qbsg (hl.2 y (List.mem_of_find?_eq_some h)).1]
theorem qbip {l : List AV} {v : Bool} {hi lo bits : Int} (h : l.find? (atP v hi lo bits) = none) : q1o l v hi lo bits = (blk0, false) := by
  unfold q1o; rw [h]
def qbbx (y : AV) (q : Pq) (nm : List UInt8) : AV := mkB q.v q.hi q.lo q.bits (gI y.cells 4) nm (gS y.cells 6) (gI y.cells 7)
def qbo3 (l : List AV) (p : Pq) : List AV × Int :=
  match l.find? (atP p.v p.hi p.lo p.bits) with
  | none => ([], 11)
  | some y => bif !p.half then ([], 21) else bif occF l p.v p.hi p.lo p.bits then ([], 25) else bif decide (((gS y.cells 5).length : Int) > 61) then ([], 1) else bif decide ((l.length : Int) ≥ 512) then ([], 9) else
      (insF (qbbx y p.high (gS y.cells 5 ++ [45, 49])) (insF (qbbx y p.low (gS y.cells 5 ++ [45, 48])) (remF l p.v p.hi p.lo p.bits)), 0)
theorem qbt1 {y : AV} (hy : qj8 y) {q : Pq} (h1 : uok q.hi) (h2 : uok q.lo) {nm : List UInt8} (hn : nm.length ≤ 9223372036854775807) : qj8 (qbbx y q nm) := ⟨rfl, h1, h2, hn, hy.2.2.2.2⟩
theorem qbu9 (l : List AV) (hl : qbz l) (hn : l.length ≤ 1000) (ht : qfq l) (p : Pq) : qog l p.v p.hi p.lo p.bits = some (qbo3 l p) := by
  rw [q3u]; unfold qxc qbo3
  simp only [qxt l hl, oB_s, qbqa]
  cases hf : l.find? (atP p.v p.hi p.lo p.bits) with
  | none =>
    have : l.any (atP p.v p.hi p.lo p.bits) = false := by
      rw [List.any_eq_false]; intro y hy; simpa using List.find?_eq_none.1 hf y hy
    rw [this]; rfl
  | some y =>
    obtain ⟨hp, hpy⟩ := qblr (qsb hl ht) hf
    have ha : l.any (atP p.v p.hi p.lo p.bits) = true := List.any_eq_true.2 ⟨y, List.mem_of_find?_eq_some hf, List.find?_some hf⟩
    obtain ⟨k, hk, hki⟩ := qbbv ha
    obtain ⟨y', hy', hf'⟩ := quw l k hk
    rw [hf] at hf'
    cases hf'
    have hyf := hl.2 y (List.mem_of_getElem? hy')
    rw [qbbg p.v p.hi p.lo p.bits hp.2.1 hp.2.2]
    simp only [ha, Bool.not_true, cond_f, oB_s, q7x l hl, hki, ixB_nat, hy', hyf.1, cond_t]
    unfold q6a
    rw [show qnq p.v p.hi p.lo p.bits = p.half from rfl]
    cases hh : p.half with
    | false => rfl
    | true =>
      simp only [cond_t, Bool.not_true, cond_f]
      cases occF l p.v p.hi p.lo p.bits with
      | true => rfl
      | false =>
        by_cases hlen : ((gS y.cells 5).length : Int) > 61
        · simp [hlen]
        · by_cases h512 : (l.length : Int) ≥ 512
          · simp [hlen, h512]
          · have c1 : (gS y.cells 5).length + ([45, 48] : List UInt8).length ≤ 9223372036854775807 := by simp; omega
            have c2 : (gS y.cells 5).length + ([45, 49] : List UInt8).length ≤ 9223372036854775807 := by simp; omega
            simp only [hlen, h512, decide_false, cond_f, c1, c2, decide_true, cond_t]
            rw [q1r l (by omega) ht hk]
            simp only [oB_s]
            have f0 := qbfw hl p.v p.hi p.lo p.bits
            have l0 := qbfx l p.v p.hi p.lo p.bits
            have lf : qj8 (qbbx y p.low (gS y.cells 5 ++ [45, 48])) := qbt1 hyf hp.2.1 hp.2.2 (by simp; omega)
            have hlg := Pq.low_good hp hh
            rw [q7y _ f0 (by omega)]
            simp only [oB_s]
            show (oB (qg4 (insF (qbbx y p.low (gS y.cells 5 ++ [45, 48])) (remF l p.v p.hi p.lo p.bits)) p.high.v p.high.hi p.high.lo p.high.bits (gI y.cells 4) (gS y.cells 5 ++ [45, 49]) (gS y.cells 6) (gI y.cells 7)) fun r7 => some (r7, (0 : Int))) = _
            rw [q7y _ (qbt0 f0 (by omega) lf) (by rw [qbft]; omega)]
            rfl
def qbq9 (s : List UInt8) : List UInt8 := bif (decide (s.length > 2) && (s.drop (s.length - 2) == [45, 48])) then s.take (s.length - 2) else s
theorem qbv2 (s : List UInt8) (hs : s.length ≤ 9223372036854775807) : qk7 s [45, 48] = some (bif (decide (s.length ≥ 2) && (s.drop (s.length - 2) == [45, 48])) then s.take (s.length - 2) else s) := by
  rw [qug]; unfold qo5
  rw [qqq]; unfold qms
  rw [qrr]; unfold qm2
  by_cases h : s.length ≥ 2
  · have h2 : (s.length : Int) ≥ (([45, 48] : List UInt8).length : Int) := by simp; omega
    have hw : IntKind.i64.wrap ((s.length : Int) - (([45, 48] : List UInt8).length : Int)) = ((s.length - 2 : Nat) : Int) := by
      rw [w64 (by simp; omega) (by simp; omega)]; simp; omega
    have hc1 : cutI s (some ((s.length - 2 : Nat) : Int)) none = some (s.drop (s.length - 2)) := by
      unfold cutI
      simp only [Option.getD_none, Option.getD_some, Int.toNat_natCast]
      rw [if_pos ⟨by omega, by omega, by omega⟩]
      simp
    have hc2 : cutI s none (some ((s.length - 2 : Nat) : Int)) = some (s.take (s.length - 2)) := qze s _ (by omega)
    simp only [h2, decide_true, cond_t, hw, hc1, hc2, oB_s, h, Bool.true_and]
    cases (s.drop (s.length - 2) == [45, 48]) <;> rfl
  · have h2 : ¬ (s.length : Int) ≥ (([45, 48] : List UInt8).length : Int) := by simp; omega
    simp only [h2, decide_false, cond_f, oB_s, h, Bool.false_and]
def qbra (a b : AV) : Bool := (((gI a.cells 4 != gI b.cells 4) || (!(gS a.cells 6 == gS b.cells 6))) || (gI a.cells 7 != gI b.cells 7)) || (gI a.cells 4 == 3)
def qbrb (l : List AV) (p : Pq) : List AV × Int :=
  bif !p.half then ([], 11) else
  match l.find? (atP p.low.v p.low.hi p.low.lo p.low.bits), l.find? (atP p.high.v p.high.hi p.high.lo p.high.bits) with
  | some a, some b => bif l.any (atP p.v p.hi p.lo p.bits) then ([], 12) else bif qbra a b then ([], 21) else
      (insF (qbbx a p (qbq9 (gS a.cells 5))) (remF (remF l p.low.v p.low.hi p.low.lo p.low.bits) p.high.v p.high.hi p.high.lo p.high.bits), 0)
  | _, _ => ([], 11)
theorem qbpt {l : List AV} {q : AV → Bool} {y : AV} (h : l.find? q = some y) : ∃ k, idxO q l = some k ∧ idxI q l = (k : Int) ∧ l[k]? = some y := by
  have ha : l.any q = true := List.any_eq_true.2 ⟨y, List.mem_of_find?_eq_some h, List.find?_some h⟩
  obtain ⟨k, hk, hki⟩ := qbbv ha
  obtain ⟨y', hy', hf'⟩ := quw l k hk
  rw [h] at hf'; cases hf'
  exact ⟨k, hk, hki, hy'⟩
theorem qbva (l : List AV) (a0 : Bool) (a1 a2 a3 : Int) (b0 : Bool) (b1 b2 b3 : Int) (c0 : Bool) (c1 c2 c3 : Int) (d0 : Bool) (d1 d2 d3 d4 : Int) (d5 d6 : List UInt8) (d7 : Int) (hs : d5.length ≤ 9223372036854775807) (kn : List UInt8 → Option (List AV × Int)) :
    qni l a0 a1 a2 a3 b0 b1 b2 b3 c0 c1 c2 c3 d0 d1 d2 d3 d4 d5 d6 d7 kn = kn (qbq9 d5) := by
  rw [qyp]; unfold qsk
  rw [qbv2 _ hs]
  simp only [oB_s]
  unfold qbq9
  by_cases h : d5.length > 2
  · have h2 : d5.length ≥ 2 := by omega
    simp only [h, h2, decide_true, Bool.true_and]
    cases hq : (d5.drop (d5.length - 2) == [45, 48]) with
    | true =>
      simp only [cond_t]
      have : (d5.take (d5.length - 2) == []) = false := by
        rw [Bool.eq_false_iff]
        intro h3
        have h4 := eq_of_beq h3
        have h5 := congrArg List.length h4
        simp at h5
        omega
      rw [this]; rfl
    | false =>
      simp only [cond_f]
      cases d5 with
      | nil => simp at h
      | cons x r => rfl
  · simp only [h, decide_false, Bool.false_and, cond_f]
    by_cases h2 : d5.length ≥ 2
    · simp only [h2, decide_true, Bool.true_and]
      have h3 : d5.length - 2 = 0 := by omega
      rw [h3]
      cases hq : (d5.drop 0 == [45, 48]) with
      | true => rfl
      | false =>
        simp only [cond_f]
        cases d5 with
        | nil => simp at h2
        | cons x r => rfl
    · simp only [h2, decide_false, Bool.false_and, cond_f]
      cases d5 <;> rfl
theorem qbv3 (l : List AV) (hl : qbz l) (hn : l.length ≤ 1000) (ht : qfq l) (p : Pq) (u1 : uok p.hi) (u2 : uok p.lo) : qp6 l p.v p.hi p.lo p.bits = some (qbrb l p) := by
  rw [q49]; unfold qzv qbrb
  rw [qbbg p.v p.hi p.lo p.bits u1 u2]
  simp only [oB_s]
  unfold q6a
  rw [show qnq p.v p.hi p.lo p.bits = p.half from rfl]
  cases hh : p.half with
  | false => rfl
  | true =>
    have hp : p.good := ⟨(qzh hh).1, u1, u2⟩
    simp only [cond_t, Bool.not_true, cond_f]
    rw [show (gB (lowP p.v p.hi p.lo p.bits).cells 0) = p.low.v from rfl, show (gI (lowP p.v p.hi p.lo p.bits).cells 1) = p.low.hi from rfl, show (gI (lowP p.v p.hi p.lo p.bits).cells 2) = p.low.lo from rfl, show (gI (lowP p.v p.hi p.lo p.bits).cells 3) = p.low.bits from rfl]
    rw [show (gB (qwf p.v p.hi p.lo p.bits).cells 0) = p.high.v from rfl, show (gI (qwf p.v p.hi p.lo p.bits).cells 1) = p.high.hi from rfl, show (gI (qwf p.v p.hi p.lo p.bits).cells 2) = p.high.lo from rfl, show (gI (qwf p.v p.hi p.lo p.bits).cells 3) = p.high.bits from rfl]
    simp only [qbp6 l hl, oB_s, qzf, qxt l hl, quc]
    cases h1 : l.find? (atP p.low.v p.low.hi p.low.lo p.low.bits) with
    | none =>
      have e1 : l.any (atP p.low.v p.low.hi p.low.lo p.low.bits) = false := by rw [← qzf, qbip h1]
      simp [e1]
    | some a =>
      have e1 : l.any (atP p.low.v p.low.hi p.low.lo p.low.bits) = true := by rw [← qzf, q1t hl h1]
      cases h2 : l.find? (atP p.high.v p.high.hi p.high.lo p.high.bits) with
      | none =>
        have e2 : l.any (atP p.high.v p.high.hi p.high.lo p.high.bits) = false := by rw [← qzf, qbip h2]
        simp [e1, e2]
      | some b =>
        have e2 : l.any (atP p.high.v p.high.hi p.high.lo p.high.bits) = true := by rw [← qzf, q1t hl h2]
        have haf := hl.2 a (List.mem_of_find?_eq_some h1)
        simp only [e1, e2, Bool.not_true, Bool.or_self, cond_f, q1t hl h1, q1t hl h2]
        cases l.any (atP p.v p.hi p.lo p.bits) with
        | true => rfl
        | false =>
          rw [show ((((gI a.cells 4 != gI b.cells 4) || (!(gS a.cells 6 == gS b.cells 6))) || (gI a.cells 7 != gI b.cells 7)) || (gI a.cells 4 == 3)) = qbra a b from rfl]
          cases qbra a b with
          | true => rfl
          | false =>
            simp only [cond_f]
            rw [qbva _ _ _ _ _ _ _ _ _ _ _ _ _ _ _ _ _ _ _ _ _ haf.2.2.2.1]
            have f0 := qbfw hl p.low.v p.low.hi p.low.lo p.low.bits
            have l0 := qbfx l p.low.v p.low.hi p.low.lo p.low.bits
            have f1 := qbfw f0 p.high.v p.high.hi p.high.lo p.high.bits
            have l1 := qbfx (remF l p.low.v p.low.hi p.low.lo p.low.bits) p.high.v p.high.hi p.high.lo p.high.bits
            obtain ⟨k, hk, hki, _⟩ := qbpt h1
            rw [hki, q1r l (by omega) ht hk]
            simp only [oB_s, qxt _ f0]
            have hb2 : b ∈ remF l p.low.v p.low.hi p.low.lo p.low.bits := by
              refine List.mem_filter.2 ⟨List.mem_of_find?_eq_some h2, ?_⟩
              have hbh := quv.1 (List.find?_some h2)
              cases hq : atP p.low.v p.low.hi p.low.lo p.low.bits b with
              | false => rfl
              | true =>
                exfalso
                obtain ⟨_, q2, q3, _⟩ := quv.1 hq
                have hk := (Pq.half_iff hp).1 hh
                have hn1 := congrArg Np.n (Pq.low_np hp hh)
                have hn2 := congrArg Np.n (Pq.high_np hp hh)
                have h0 := Nat.two_pow_pos (p.np.k - 1)
                have e : numP p.low.hi p.low.lo = numP p.high.hi p.high.lo := by rw [← q2, ← q3, ← hbh.2.1, ← hbh.2.2.1]
                have e2 : p.low.np.n = p.high.np.n := e
                rw [hn1, hn2] at e2
                simp only [Np.low, Np.high] at e2
                omega
            have ha2 : (remF l p.low.v p.low.hi p.low.lo p.low.bits).any (atP p.high.v p.high.hi p.high.lo p.high.bits) = true := List.any_eq_true.2 ⟨b, hb2, List.find?_some h2⟩
            obtain ⟨k2, hk2, hki2⟩ := qbbv ha2
            rw [hki2, q1r _ (by omega) (ht.rem _ _ _ _) hk2]
            simp only [oB_s]
            rw [q7y _ f1 (by omega)]
            rfl
end Go.Proofs.Ytmjdngnagiloeaa.Dn
