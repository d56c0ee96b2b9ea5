/- Tables of blocks: BlocksNest. -/
import Derived.Test.YtmjdngnagiloeaaBnLw46i
set_option linter.all false
namespace Go.Proofs.Ytmjdngnagiloeaa.Dn
open Go Go.Pev
set_option linter.unusedVariables false
set_option linter.unusedSimpArgs false
set_option maxRecDepth 4000
theorem qbn2 {y z : AV} (hz : qk3 z) (h : ltY z y) : winP (pqY z) (pqY y) = false ∧ atP (gB z.cells 0) (gI z.cells 1) (gI z.cells 2) (gI z.cells 3) y = false := by
  have hne : ∀ a b : AV, ltY a b → atP (gB b.cells 0) (gI b.cells 1) (gI b.cells 2) (gI b.cells 3) a = false := by
    intro a b hab
    cases hq : atP (gB b.cells 0) (gI b.cells 1) (gI b.cells 2) (gI b.cells 3) a with
    | false => rfl
    | true =>
      obtain ⟨h1, h2, h3, h4⟩ := qqq.1 hq
      unfold ltY at hab; rw [h1, h2, h3, h4] at hab
      exact absurd hab qgh
  refine ⟨?_, ?_⟩
  · cases hw : winP (pqY z) (pqY y) with
    | false => rfl
    | true =>
      have := (qbjo (y := z) (z := y) hz hw (hne z y h)).1
      exact absurd (q8u h this) qgh
  · cases hq : atP (gB z.cells 0) (gI z.cells 1) (gI z.cells 2) (gI z.cells 3) y with
    | false => rfl
    | true =>
      obtain ⟨h1, h2, h3, h4⟩ := qqq.1 hq
      unfold ltY at h; rw [h1, h2, h3, h4] at h
      exact absurd h qgh
theorem qbn3 (l : List AV) (hl : qca l) (ht : qg1 l) (n1 : Int) (i : Nat) (y : AV) (hy : l[i]? = some y) (kx : Unit → Option Bool) :
    qft l n1 l (l.length : Int) (i : Int) (l.take i) ((l.take i).length : Int) (gB y.cells 0) (gI y.cells 1) (gI y.cells 2) (gI y.cells 3) (gI y.cells 4) (gS y.cells 5) (gS y.cells 6) (gI y.cells 7) kx FU 0 = kx () := by
  have hlen : (l.take i).length ≤ 9223372036854775807 := by have := hl.1; simp; omega
  rw [qog, q1n (l.take i) hlen (qgw l n1 l (l.length : Int) (i : Int) (l.take i) ((l.take i).length : Int) (gB y.cells 0) (gI y.cells 1) (gI y.cells 2) (gI y.cells 3) (gI y.cells 4) (gS y.cells 5) (gS y.cells 6) (gI y.cells 7) kx)
    (fun j nx => qef l n1 l (l.length : Int) (i : Int) (l.take i) ((l.take i).length : Int) j (gB y.cells 0) (gI y.cells 1) (gI y.cells 2) (gI y.cells 3) (gI y.cells 4) (gS y.cells 5) (gS y.cells 6) (gI y.cells 7) nx kx) (fun _ _ => rfl) (fun _ => kx ())]
  · intro nx; simp [qef]
  · intro j z r nx g1 g2 g3 g4 h5
    have hji : j < i := by simp at g3; omega
    have hz : l[j]? = some z := by rw [List.getElem?_take] at g2; simpa [hji] using g2
    have hzf := hl.2 z (List.mem_of_getElem? hz)
    obtain ⟨w1, w2⟩ := qbn2 hzf (ht.sorted j z hz i y hji hy)
    have h6 : (j : Int) < ((l.take i).length : Int) := by omega
    have w3 : ((gB y.cells 0 == gB z.cells 0) && ((gI y.cells 1 == gI z.cells 1) && ((gI y.cells 2 == gI z.cells 2) && ((gI y.cells 3 == gI z.cells 3) && true)))) = false := w2
    have w4 : ovP (pqY y) (pqY z) = winP (pqY y) (pqY z) := by unfold ovP; rw [w1, Bool.or_false]
    unfold qef
    simp only [h6, decide_true, cond_t, ixB_nat, g2, oB_s, hzf.1, w3, cond_f, qbfp, q1p, g4, h5]
    rw [show ovP ⟨gB y.cells 0, gI y.cells 1, gI y.cells 2, gI y.cells 3⟩ ⟨gB z.cells 0, gI z.cells 1, gI z.cells 2, gI z.cells 3⟩ = winP (pqY y) (pqY z) from w4,
      show qng (gB y.cells 0) (gI y.cells 1) (gI y.cells 2) (gI y.cells 3) (gB z.cells 0) (gI z.cells 1) (gI z.cells 2) (gI z.cells 3) = winP (pqY y) (pqY z) from rfl]
    simp only [beq_self_eq_true, Bool.and_self, Bool.not_true, cond_f]
theorem qbn4 (l : List AV) (hl : qca l) (ht : qg1 l) (n1 : Int) (kx : Unit → Option Bool) :
    qfu l n1 l (l.length : Int) kx FU 0 = kx () := by
  rw [qoh, q1n l hl.1 (qgx l n1 l (l.length : Int) kx)
    (fun j nx => qeh l n1 l (l.length : Int) j nx kx) (fun _ _ => rfl) (fun _ => kx ())]
  · intro nx; simp [qeh]
  · intro i y r nx g1 g2 g3 g4 h5
    have hyf := hl.2 y (List.mem_of_getElem? g2)
    have h6 : (i : Int) < (l.length : Int) := by omega
    unfold qeh
    simp only [h6, decide_true, cond_t, ixB_nat, g2, oB_s, hyf.1, qw8 l i (by omega), qbn3 l hl ht n1 i y g2, g4, h5]
theorem qbqo {l : List AV} (hg : qpf l) {p : Pq} (hp : p.good) : ((q1t l p.v p.hi p.lo p.bits).length : Int) > 0 ↔ occF l p.v p.hi p.lo p.bits = true := by
  unfold occF
  rw [List.any_eq_true]
  constructor
  · intro h
    cases hc : q1t l p.v p.hi p.lo p.bits with
    | nil => rw [hc] at h; simp at h
    | cons c r =>
      have : c ∈ q1t l p.v p.hi p.lo p.bits := by rw [hc]; simp
      unfold q1t at this
      obtain ⟨h1, h2⟩ := List.mem_filter.1 this
      unfold q1s at h2
      rw [Bool.and_eq_true] at h2
      exact ⟨c, h1, h2.1⟩
  · rintro ⟨y, hy, h⟩
    obtain ⟨h1, h2⟩ := (q0n (p := pqY y) (hg y hy) hp).1 h
    obtain ⟨c, hc, _⟩ := qblw hg hp (p.np.k - (pqY y).np.k) y hy h1 h2 (Nat.le_refl _)
    have := List.length_pos_of_mem hc
    omega
theorem qbqp {l : List AV} (hg : qpf l) {p : Pq} (hp : p.good) (h : occF l p.v p.hi p.lo p.bits = true) : p.half = true := by
  unfold occF at h
  obtain ⟨y, hy, h⟩ := List.any_eq_true.1 h
  obtain ⟨h1, h2⟩ := (q0n (p := pqY y) (hg y hy) hp).1 h
  exact (Pq.half_iff hp).2 (by omega)
theorem pick {l : List AV} {n : Int} (hn : 0 ≤ n ∧ n ≤ 255) (h0 : 0 < l.length) (hl : l.length ≤ 1000) :
    ∃ y, ixB l ((IntKind.i64.wrap n).tmod (l.length : Int)) = some y ∧ y ∈ l := by
  obtain ⟨m, rfl⟩ := Int.eq_ofNat_of_zero_le hn.1
  rw [w64 (by omega) (by omega), ← Int.ofNat_tmod, ixB_nat]
  have hlt := Nat.mod_lt m h0
  refine ⟨l[m % l.length], ?_, List.getElem_mem _⟩
  simp [hlt]
theorem qbqq {l : List AV} {y : AV} (hy : y ∈ l) : l.any (atP (gB y.cells 0) (gI y.cells 1) (gI y.cells 2) (gI y.cells 3)) = true :=
  List.any_eq_true.2 ⟨y, hy, qqq.2 ⟨rfl, rfl, rfl, rfl⟩⟩
theorem law46N (l : List AV) (hl : qca l) (n : Int) (hn : 0 ≤ n ∧ n ≤ 255) : qf6 l n = some true := by
  rw [qrp]; unfold qm9
  have hf := qbru hl
  have hlen := qbrv l
  simp only [qbs1 l hl, oB_s, qblp _ hf]
  generalize fewF l = L at *
  by_cases hc : quk L = 0
  · have ht := (q1r (by omega)).1 hc
    have hg := q5h hf ht
    rw [hc]
    by_cases h0 : L.length = 0
    · rw [h0]; simp [q9c]
    · have h0' : ((L.length : Int) == 0) = false := by simp; simpa using h0
      have h0'' : decide ((L.length : Int) ≠ 0) = true := by simp; simpa using h0
      rw [h0']
      simp only [bne_self_eq_false, Bool.false_or, cond_f, qbn4 L hf ht, h0'', cond_t]
      obtain ⟨y, hy, hm⟩ := pick hn (l := L) (by omega) (by omega)
      have hyf := hf.2 y hm
      have hp := hg y hm
      simp only [hy, oB_s, hyf.1, cond_t, qbfm L hf (by omega), qbls L hf (by omega) ht, qbm5 L hf (by omega) ht ⟨gB y.cells 0, gI y.cells 1, gI y.cells 2, gI y.cells 3⟩]
      have e := qbqo hg (p := pqY y) hp
      simp only [pqY] at e
      unfold q88 qbfr
      rw [qbqq hm]
      cases hfd : L.find? (atP (gB y.cells 0) (gI y.cells 1) (gI y.cells 2) (gI y.cells 3)) with
      | none => have := List.find?_eq_none.1 hfd y hm; simp [atP] at this
      | some z =>
        simp only [Bool.not_true, cond_f]
        cases ho : occF L (gB y.cells 0) (gI y.cells 1) (gI y.cells 2) (gI y.cells 3) with
        | true =>
          have := qbqp hg (p := pqY y) hp (by simp only [pqY]; exact ho)
          simp only [pqY] at this
          simp only [e.2 ho, decide_true, cond_t, this, Bool.not_true, cond_f]
          rw [qoj]; unfold qk8
          rw [q9c]; rfl
        | false =>
          have hno : ¬ ((q1t L (gB y.cells 0) (gI y.cells 1) (gI y.cells 2) (gI y.cells 3)).length : Int) > 0 := fun h => by
            rw [e.1 h] at ho; cases ho
          simp only [hno, decide_false, cond_f, beq_self_eq_true]
          cases Pq.half ⟨gB y.cells 0, gI y.cells 1, gI y.cells 2, gI y.cells 3⟩ <;> simp only [Bool.not_true, Bool.not_false, cond_t, cond_f, q9c, oB_s]
          · simp
          cases decide (((gS z.cells 5).length : Int) > 61) <;> simp only [cond_t, cond_f]
          · cases decide ((L.length : Int) ≥ 512) <;> simp
          · simp
  · have : (quk L != 0) = true := by simpa using hc
    rw [this]; simp only [Bool.true_or, cond_t, q9c, oB_s]
end Go.Proofs.Ytmjdngnagiloeaa.Dn
