/- Caches: the law of CacheShape. -/
import Derived.Test.YtmficjbenbhneaaDoorShLw29e
set_option linter.all false
namespace Go.Proofs.YtmficjbenbhneaaDoor.Dn
open Go Go.Pev
set_option linter.unusedVariables false
set_option linter.unusedSimpArgs false
set_option maxRecDepth 8000
theorem qbal {e : En} (h : qw8 e) : ((((!(((e.k == 0) == (decide ((e.d.length : Int) > 0))) && true)) || (!(((e.k == (2 : Int)) == (e.t == 0)) && true))) || (decide (e.k < 0))) || (decide (e.k > (2 : Int)))) = false := by
  obtain ⟨_, h2, h3, h4, h5, _⟩ := h
  have e1 : (e.k == 0) = decide ((e.d.length : Int) > 0) := by
    rw [Bool.eq_iff_iff]
    simp only [beq_iff_eq, decide_eq_true_eq, h4]
    cases e.d <;> simp <;> omega
  have e2 : (e.k == 2) = (e.t == 0) := by
    rw [Bool.eq_iff_iff]
    simp only [beq_iff_eq, h5]
  simp [e1, e2]
  omega
theorem law_CacheShape (most : Int) (acts : List AV) (ha : ∀ a, a ∈ acts → qpe a) : qeh most acts = some true := by
  rw [qqy]; unfold qdv
  by_cases hr : most < 1 ∨ most > 256
  · refine qek (q7n most hr) ?_
    rw [qnl]; unfold qc5
    rw [show (decide (most < 1) || decide (most > 256)) = true from by simpa using hr, cond_t, q89]; rfl
  · have h1 : 1 ≤ most := by omega
    have h2 : most ≤ 256 := by omega
    refine qek (qbai most h1 h2) ?_
    rw [show ((AV.agg [AV.int .i64 most, .nils], (0 : Int)).2 != 0) = false from rfl, cond_f, qbgw most h1 h2 acts ha, oB_s]
    have hI := qbds h1 ha
    generalize qbak most acts = L at hI
    have hlen := qer L
    have hll := hI.len
    show (bif ((most != most) || (decide (((avL L).length : Int) > most))) then (some false) else (qep (avL L) ((avL L).length : Int) most (avL L) (fun (_ : Unit) => (oB (qf3) fun r4 => (some r4))) FU 0)) = _
    rw [show ((most != most) || (decide (((avL L).length : Int) > most))) = false from by simp; omega, cond_f, q89]
    rw [qnc, qqj (avL L) (by omega) (qb4 (avL L) ((avL L).length : Int) most (avL L) fun _ => (oB (some true) fun r4 => (some r4))) (fun i nx => qb3 (avL L) ((avL L).length : Int) i most (avL L) nx fun _ => (oB (some true) fun r4 => (some r4))) (fun _ _ => rfl) (fun _ => some true)]
    · intro nx; simp [qb3]
    · intro i y r nx g1 g2 g3 g4 g5
      obtain ⟨e, he, rfl⟩ := qn8 (List.mem_of_getElem? g2)
      have hle : L[i]? = some e := by
        rw [ql2] at g2
        obtain ⟨e', h8, h9⟩ := Option.map_eq_some_iff.1 g2
        rw [h8, show e' = e from by rw [← qea e', h9, qea]]
      have hil : i < L.length := (List.getElem?_eq_some_iff.1 hle).1
      have hent := hI.ent e he
      unfold qb3
      rw [show decide ((i : Int) < ((avL L).length : Int)) = true from by simp; omega, cond_t, ixB_nat, g2, oB_s, qpb, cond_t]
      have hJ : ∀ kn : Bool → Option Bool, qen (i : Int) (avL L) ((avL L).length : Int) (i : Int) most (avL L) (gI e.av.cells 0) (gS e.av.cells 1) (gI e.av.cells 2) (gI e.av.cells 3) (gL e.av.cells 4) (gI e.av.cells 5) (gI e.av.cells 6) (gI e.av.cells 7) (gI e.av.cells 8) kn = kn false := fun kn => by
        rw [qm9]
        show (bif ((((!(((e.k == 0) == (decide ((e.d.length : Int) > 0))) && true)) || (!(((e.k == (2 : Int)) == (e.t == 0)) && true))) || (decide (e.k < 0))) || (decide (e.k > (2 : Int)))) then (kn true) else (oB (qbs e.n) fun r1 => (kn (!r1)))) = _
        rw [qbal hent, cond_f, qd7 _ hent.en.1, hent.1]; rfl
      rw [hJ, cond_f]
      cases i with
      | zero =>
        rw [show decide (((0 : Nat) : Int) > 0) = false from rfl, cond_f]
        simp only [Int.ofNat_zero] at g4 g5 ⊢
        rw [g4]; exact g5
      | succ i =>
        have hw : IntKind.i64.wrap (((i + 1 : Nat) : Int) - 1) = (i : Int) := by rw [w64 (by omega) (by omega)]; omega
        obtain ⟨x, hx⟩ : ∃ x, L[i]? = some x := ⟨L[i], by simp⟩
        have hxe := hI.ent x (List.mem_of_getElem? hx)
        have hxv : (avL L)[i]? = some x.av := by rw [ql2, hx]; rfl
        rw [show decide (((i + 1 : Nat) : Int) > 0) = true from decide_eq_true (by omega), cond_t, hw, ixB_nat, hxv, oB_s, qpb, cond_t]
        rw [show qgs (gS x.av.cells 1) (gS e.av.cells 1) = some (cmpN x.n e.n) from q1u _ _ hxe.en.1 hent.en.1, oB_s]
        have hord : ordE x e < 0 := by
          have := List.pairwise_iff_getElem.1 hI.srt i (i + 1) (by omega) hil (by omega)
          rw [(List.getElem?_eq_some_iff.1 hx).2, (List.getElem?_eq_some_iff.1 hle).2] at this
          exact this
        have hJ2 : ∀ kn : Bool → Option Bool, qeo (cmpN x.n e.n) (avL L) ((avL L).length : Int) ((i + 1 : Nat) : Int) most (avL L) (gI e.av.cells 0) (gS e.av.cells 1) (gI e.av.cells 2) (gI e.av.cells 3) (gL e.av.cells 4) (gI e.av.cells 5) (gI e.av.cells 6) (gI e.av.cells 7) (gI e.av.cells 8) (gS x.av.cells 1) (gI x.av.cells 2) (gI x.av.cells 3) (gL x.av.cells 4) kn = kn false := fun kn => by
          rw [qnb]
          show (bif (decide (cmpN x.n e.n > 0)) then (kn true) else (bif (cmpN x.n e.n == 0) then (bif (decide (x.t ≥ e.t)) then (kn true) else (kn (x.t == 0))) else (kn false))) = _
          rcases qzp.1 hord with hc | ⟨hn, ht⟩
          · rw [show decide (cmpN x.n e.n > 0) = false from by simp; omega, cond_f, show (cmpN x.n e.n == 0) = false from by simp; omega]; rfl
          · have hc0 := qh3.2 hn
            have hxt : x.t ≠ 0 := fun h0 => by
              have hxk := hxe.2.2.2.2.1.2 h0
              have := hI.nx x e (List.mem_of_getElem? hx) he hn hxk
              rw [this] at ht
              omega
            rw [hc0]
            rw [show decide ((0 : Int) > 0) = false from rfl, cond_f, show ((0 : Int) == 0) = true from rfl, cond_t, show decide (x.t ≥ e.t) = false from by simp; omega, cond_f, show (x.t == 0) = false from by simpa using hxt]
        rw [hJ2, cond_f, g4]
        exact g5
end Go.Proofs.YtmficjbenbhneaaDoor.Dn
