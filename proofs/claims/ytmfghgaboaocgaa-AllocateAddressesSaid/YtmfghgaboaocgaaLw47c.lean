/- Addresses of subnets: the document's loop, and the law AllocateAddresses. -/
import Derived.Test.YtmfghgaboaocgaaLw47b
set_option linter.all false
namespace Go.Proofs.Ytmfghgaboaocgaa.Dn
open Go Go.Pev
set_option linter.unusedVariables false
set_option linter.unusedSimpArgs false
set_option maxRecDepth 4000

theorem p_rsearch (l hosts : List AV) (hl : blksFit l) (hh : hostsFit hosts) (hl2 : l.length ≤ 1000000) (hh2 : hosts.length ≤ 1000000) (ht : Table l) (s : Sub) (hs : s.ok) {z : AV} (hz : l.find? (atP s.v6 s.hi s.lo s.bits) = some z) (hk : gI z.cells 4 = 2) (b10 : Bool) (b11 b12 : Int) :
    ddiref47_Address_L28 l hosts s.v6 s.hi s.lo s.bits b10 b11 b12 s.v6 s.hi s.lo s.v6 s.last.1 s.last.2 (fun _ => some (a0, 22)) FU 0 s.v6 s.hi s.lo = some (goS s (usedK s l hosts) s.fst) := by
  obtain ⟨k1, k2, k3⟩ := last_ok hs.p hs.u1 hs.u2
  have hlen := usedK_len s l hosts
  rw [ddiref47_Address_L28_eq]
  have hw2 : IntKind.i64.wrap (IntKind.i64.wrap ((l.length : Int) + (hosts.length : Int)) + 2) = ((l.length + hosts.length + 2 : Nat) : Int) := by
    rw [w64 (i := (l.length : Int) + (hosts.length : Int)) (by omega) (by omega), w64 (by omega) (by omega)]; omega
  have key := loop_is (fun n (q : Int × Bool × Ad) => ddiref47_Address_L28_i l hosts s.v6 s.hi s.lo s.bits b10 b11 b12 s.v6 s.hi s.lo s.v6 s.last.1 s.last.2 (fun _ => some (a0, 22)) n q.1 q.2.1 q.2.2.1 q.2.2.2)
    (fun q nx => ddiref47_Address_L28_b l hosts q.1 s.v6 s.hi s.lo s.bits b10 b11 b12 s.v6 s.hi s.lo s.v6 s.last.1 s.last.2 q.2.1 q.2.2.1 q.2.2.2 (fun i a b c => nx (i, (a, (b, c)))) (fun _ => some (a0, 22))) (fun _ _ => rfl)
    (fun q => q.2.1 = s.v6 ∧ aok s.v6 q.2.2 ∧ numA s.fst ≤ numA q.2.2 ∧ numA q.2.2 ≤ numA s.last ∧ ∃ i : Nat, q.1 = i ∧ i ≤ l.length + hosts.length + 2 ∧ (unusedF s l hosts q.2.2 = true ∨ i + muA s (usedK s l hosts) q.2.2 ≤ l.length + hosts.length + 2))
    (fun q => l.length + hosts.length + 2 - q.1.toNat) (fun q => some (bif unusedF s l hosts q.2.2 then (addrV s.v6 q.2.2, 0) else goS s (usedK s l hosts) q.2.2)) ?_ FU (0, (s.v6, s.fst))
    ⟨rfl, k1, Int.le_refl _, k3, 0, rfl, by omega, .inr (by
      have := laterK_len (usedK s l hosts) s.fst
      show 0 + muA s (usedK s l hosts) s.fst ≤ _
      unfold muA
      split <;> omega)⟩ (FU_big (by simp; omega))
  · refine key.trans ?_
    have : unusedF s l hosts s.fst = false := by simp [unusedF, edgeB, adB]
    simp only [this, cond_f]
  · rintro ⟨i', v, a⟩ ⟨rfl, h1, h0, h2, i, rfl, h3, h4⟩ nx hn
    simp only at h1 h0 h2 h4
    show ddiref47_Address_L28_b l hosts (i : Int) s.v6 s.hi s.lo s.bits b10 b11 b12 s.v6 s.hi s.lo s.v6 s.last.1 s.last.2 s.v6 a.1 a.2 (fun i a b c => nx (i, (a, (b, c)))) (fun _ => some (a0, 22)) = some (bif unusedF s l hosts a then (addrV s.v6 a, 0) else goS s (usedK s l hosts) a)
    unfold ddiref47_Address_L28_b
    have hw : IntKind.i64.wrap ((i : Int) + 1) = ((i + 1 : Nat) : Int) := w64 (by omega) (by omega)
    have hc : (i : Int) ≤ ((l.length + hosts.length + 2 : Nat) : Int) := by omega
    rw [hw2]
    simp only [decide_eq_true hc, cond_t, p_unused l hosts hl hh s a h1.1 h1.2.1, oB_s]
    cases hu : unusedF s l hosts a with
    | true => rfl
    | false =>
      simp only [cond_f]
      have he : ((s.v6 == s.v6) && ((a.1 == s.last.1) && ((a.2 == s.last.2) && true))) = adB a s.last := by simp [adB]
      rw [he, goS_eq]
      cases h5 : adB a s.last with
      | true => rfl
      | false =>
        have hne : a ≠ s.last := fun e => by rw [adB_iff.2 e] at h5; cases h5
        have hlt : numA a < numA s.last := by
          have : numA a ≠ numA s.last := fun e => hne (num_inj h1 k2 e)
          omega
        have hok := next_ok h1 k2 hlt
        have hnum := next_num (a := a)
        have hnf : nextA a ≠ s.fst := fun e => by rw [e] at hnum; omega
        have hfree := unused_free hl ht hz hk (hosts := hosts) hok.1 hok.2.1 hnf
        have h4' : i + muA s (usedK s l hosts) a ≤ l.length + hosts.length + 2 := by
          rcases h4 with h4 | h4
          · rw [hu] at h4; cases h4
          · exact h4
        have hmu : muA s (usedK s l hosts) a ≥ 1 := by unfold muA; rw [if_neg hne]; omega
        simp only [cond_f, p_rAdd h1 k2 hlt, oB_s, hw]
        show nx (((i + 1 : Nat) : Int), (s.v6, nextA a)) = _
        rw [hn (((i + 1 : Nat) : Int), (s.v6, nextA a)) ⟨rfl, hok, by simp only [hnum]; omega, by simp only [hnum]; omega, i + 1, rfl, by omega, ?_⟩ (by simp; omega)]
        · simp only [hfree]
        · simp only
          rw [hfree]
          cases hf : freeB s (usedK s l hosts) (nextA a) with
          | true => exact .inl rfl
          | false =>
            have := muA_next hne hf
            exact .inr (by omega)

theorem p_rAddress (l hosts : List AV) (hl : blksFit l) (hh : hostsFit hosts) (hl2 : l.length ≤ 1000000) (hh2 : hosts.length ≤ 1000000) (ht : Table l) (s : Sub) (hs : ∀ y, l.find? (atP s.v6 s.hi s.lo s.bits) = some y → s.ok) :
    ddiref47_Address l hosts s.v6 s.hi s.lo s.bits = some (addressF l hosts s) := by
  rw [ddiref47_Address_eq]; unfold ddiref47_Address_i addressF
  simp only [p_rFind l hl, oB_s]
  unfold findF
  cases hf : l.find? (atP s.v6 s.hi s.lo s.bits) with
  | none => rfl
  | some y =>
    have hok := hs y hf
    simp only [Bool.not_true, cond_f]
    rw [show gI (blkV y).cells 4 = gI y.cells 4 from rfl]
    by_cases hk : gI y.cells 4 = 2
    · have hk' : (gI y.cells 4 != 2) = false := by simp [hk]
      rw [hk']
      simp only [cond_f, p_rBounds hok.p hok.u1 hok.u2, oB_s]
      exact p_rsearch l hosts hl hh hl2 hh2 ht s hok hf hk false 0 0
    · have hk' : (gI y.cells 4 != 2) = true := by simpa using hk
      rw [hk']
      rfl

/-! ### The law -/
def smallB47 (l : List AV) : Bool := l.all fun y => decide ((gS y.cells 5).length ≤ 100) && decide ((gS y.cells 6).length ≤ 100)
theorem p_small47 (l : List AV) (hl : blksFit l) : ddilaw47_small l = some (decide (l.length ≤ 40) && smallB47 l) := by
  rw [ddilaw47_small_eq]; unfold ddilaw47_small_i
  rw [ddilaw47_small_L14_eq, for_list0 l hl.1 (ddilaw47_small_L14_i l fun _ => some true) (fun i nx => ddilaw47_small_L14_b l i nx fun _ => some true) (fun _ _ => rfl) (fun r => some (smallB47 r))]
  · by_cases h : l.length ≤ 40
    · have : ¬ (l.length : Int) > 40 := by omega
      simp [h, this]
    · have : (l.length : Int) > 40 := by omega
      simp [h, this]
  · intro nx; simp [ddilaw47_small_L14_b, smallB47]
  · intro i y r nx h1 h2 h3 h4 h5
    have hy := hl.2 y (List.mem_of_getElem? h2)
    have h6 : (i : Int) < (l.length : Int) := by omega
    unfold ddilaw47_small_L14_b
    simp only [h6, decide_true, cond_t, ixB_nat, h2, oB_s, hy.1, h4, h5, smallB47, List.all_cons]
    by_cases g1 : (gS y.cells 5).length ≤ 100
    · have e1 : ¬ ((gS y.cells 5).length : Int) > 100 := by omega
      by_cases g2 : (gS y.cells 6).length ≤ 100
      · have e2 : ¬ ((gS y.cells 6).length : Int) > 100 := by omega
        simp [g1, e1, g2, e2]
      · have e2 : ((gS y.cells 6).length : Int) > 100 := by omega
        simp [g1, e1, g2, e2]
    · have e1 : ((gS y.cells 5).length : Int) > 100 := by omega
      simp [g1, e1]
def sampleL : List AV := [(.agg [(.bool false), (.int .u64 0), (.int .u64 256), (.int .i64 24), (.int .i64 1), (.str [99]), (.str []), (.int .i64 0)]), (.agg [(.bool false), (.int .u64 0), (.int .u64 288), (.int .i64 27), (.int .i64 2), (.str [115]), (.str []), (.int .i64 0)])]
theorem p_sample : ddilaw47_sample = some sampleL := by
  rw [ddilaw47_sample_eq]; unfold ddilaw47_sample_i
  rw [ddilaw47_sampled_eq]; unfold ddilaw47_sampled_i
  rfl
theorem sampleFit : blksFit sampleL := by
  refine ⟨by simp [sampleL], fun y hy => ?_⟩
  simp only [sampleL, List.mem_cons, List.not_mem_nil, or_false] at hy
  rcases hy with rfl | rfl
  · refine ⟨rfl, ⟨?_, ?_⟩, ⟨?_, ?_⟩, ?_, ?_⟩ <;> decide +kernel
  · refine ⟨rfl, ⟨?_, ?_⟩, ⟨?_, ?_⟩, ?_, ?_⟩ <;> decide +kernel
def sampleS : Sub := ⟨false, 0, 288, 27⟩
theorem sampleOk : sampleS.ok := ⟨by decide +kernel, ⟨by decide +kernel, by decide +kernel⟩, ⟨by decide +kernel, by decide +kernel⟩⟩
theorem sampleIs : addressF sampleL [] sampleS = (addrV false (0, 289), 0) := by rfl
theorem p_sampleAddr : allocate_Address sampleL [] false 0 288 27 = some (addrV false (0, 289), 0) := by
  have := p_pAddress sampleL [] sampleFit ⟨by simp, fun y hy => by simp at hy⟩ sampleS (fun _ _ => sampleOk)
  rw [sampleIs] at this
  exact this

theorem law47A (l hosts : List AV) (hl : blksFit l) (hh : hostsFit hosts) (v6 : Bool) (hi lo bits : Int) (u1 : uok hi) (u2 : uok lo) : ddilaw47_AllocateAddresses l hosts v6 hi lo bits = some true := by
  rw [ddilaw47_AllocateAddresses_eq]; unfold ddilaw47_AllocateAddresses_i
  simp only [p_sample, oB_s]
  rw [show ixB sampleL 1 = some (.agg [(.bool false), (.int .u64 0), (.int .u64 288), (.int .i64 27), (.int .i64 2), (.str [115]), (.str []), (.int .i64 0)]) from rfl]
  simp only [oB_s]
  rw [show fitC T_api_Block (AV.cells (.agg [(.bool false), (.int .u64 0), (.int .u64 288), (.int .i64 27), (.int .i64 2), (.str [115]), (.str []), (.int .i64 0)])) = true from rfl]
  simp only [cond_t]
  show (oB (allocate_Address sampleL [] false 0 288 27) _) = _
  rw [p_sampleAddr]
  simp only [oB_s]
  rw [show ((gI (addrV false (0, 289)).cells 2 != 289) || ((0 : Int) != 0)) = false from rfl]
  simp only [cond_f, ddilaw47_AllocateAddresses_J14_eq, ddilaw47_AllocateAddresses_J14_i, p_small47 l hl, oB_s]
  by_cases h1 : l.length ≤ 40
  · cases h2 : smallB47 l with
    | false => simp
    | true =>
      by_cases h3 : hosts.length ≤ 60
      · have e3 : ¬ (hosts.length : Int) > 60 := by omega
        obtain ⟨e, he1, he2⟩ := p_rCheck l hl
        simp only [decide_eq_true h1, e3, decide_false, Bool.and_self, Bool.not_true, Bool.or_self, cond_f, he1, oB_s]
        by_cases h4 : e = 0
        · subst h4
          have ht := he2 rfl
          have hs : ∀ y, l.find? (atP v6 hi lo bits) = some y → (toSub v6 hi lo bits).ok := fun y hy => by
            have hm := List.mem_of_find?_eq_some hy
            obtain ⟨j, hj⟩ := List.getElem?_of_mem hm
            have hp := (ht j y hj).p
            obtain ⟨z1, z2, z3, z4⟩ := atP_iff.1 (List.find?_some hy)
            unfold prefY at hp
            rw [z1, z2, z3, z4] at hp
            exact ⟨hp, u1, u2⟩
          have g1 := p_pAddress l hosts hl hh (toSub v6 hi lo bits) hs
          have g2 := p_rAddress l hosts hl hh (by omega) (by omega) ht (toSub v6 hi lo bits) hs
          simp only [toSub] at g1 g2
          simp only [bne_self_eq_false, cond_f, g1, g2, oB_s]
          simp
        · have : (e != 0) = true := by simpa using h4
          simp [this]
      · have e3 : (hosts.length : Int) > 60 := by omega
        simp [e3]
  · simp [h1]

end Go.Proofs.Ytmfghgaboaocgaa.Dn
