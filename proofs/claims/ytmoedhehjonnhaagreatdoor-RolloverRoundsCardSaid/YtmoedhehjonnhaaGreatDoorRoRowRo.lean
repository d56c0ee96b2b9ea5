/- PROVES the statement RolloverRounds: for every input the law returns true, and the arguments read behind the call as_ before. No conditions. -/
import Derived.Test.YtmoedhehjonnhaaGreatDoorRows
import Derived.Test.YtmoedhehjonnhaaGreatDoorRoLw22s
import Derived.Test.YtmoedhehjonnhaaGreatDoorRoLibD
import Derived.Test.YtmoedhehjonnhaaGreatDoorTie
import Derived.Test.YtmoedhehjonnhaaGreatDoorCards
import Derived.ProofKit
import Derived.SizedLaws
import Derived.OpenShut
import Derived.LaidMore
import Derived.Stop.Joined
import Derived.SevenTiedAt
set_option linter.all false
namespace Go.Proofs.YtmoedhehjonnhaaGreatDoor.RolloverRoundsRow
open Go Go.Pev Go.ChangeShapes Go.WideShapes Go.ChangeAt Go.RowKit
set_option linter.unusedVariables false
set_option linter.unusedSimpArgs false
theorem own : ownKnob Tryz.prog.godebug = none := by kernel_rfl
theorem laidOut : laidOutB Tryz.prog = true := by kernel_rfl
def ty5 : Ty := (.int .u8)
theorem has5 : tyOf Tryz.prog 12 5 = some ty5 := by kernel_rfl
def ty46 : Ty := (.sl 1 (.int .u8))
theorem qbfc : tyOf Tryz.prog 12 46 = some ty46 := by kernel_rfl
theorem asks : ∀ (y0 : AV) (y1 : AV), (ty5).fitv y0 → (ty46).fitv y1 → qq8 Tryz.prog 6 [y0, y1] (· = .bool true) := by
  intro y0 y1 f0 f1
  obtain ⟨h0, g0⟩ := q6y rfl f0
  have k0 : fitT Mem.none (.one (.l (.i .u8))) y0 = true := by
    have := (q1c Mem.none [(.i .u8)] [y0]).trans h0
    simp only [List.map_cons, List.map_nil, qhl] at this
    split at this
    · rename_i hk; exact hk
    · cases this
  obtain ⟨h1, g1⟩ := q6y rfl f1
  have k1 : fitT Mem.none (.one (.l (.sl 1))) y1 = true := by
    have := (q1c Mem.none [(.sl 1)] [y1]).trans h1
    simp only [List.map_cons, List.map_nil, qhl] at this
    split at this
    · rename_i hk; exact hk
    · cases this
  have hfit : fitS Dn.S117_ (qdm [y0, y1]) Mem.none = true := by
    show (match qld (qdm [y0, y1]) Mem.none Dn.S117_.ts with | true => true | false => false) = true
    have : qld (qdm [y0, y1]) Mem.none Dn.S117_.ts = true := by
      exact q2j (show fitT Mem.none _ ((qdm [y0, y1]) 0) = true from k0) (q2j (show fitT Mem.none _ ((qdm [y0, y1]) 1) = true from k1) (rfl))
    rw [this]
  have law : Dn.qd8 (gI [y0] 0) (gL [y1] 0) = some true := by
    exact Dn.law_RolloverRounds _ _ g0 g1.1 (fun y hy => g1.2 y hy)
  refine q6c Dn.qnq.h (fun K => ?_)
  show chk (fitS Dn.S117_ (qdm [y0, y1]) Mem.none) (oB (Dn.qd8 (gI [y0] 0) (gL [y1] 0)) fun r => K (.bool r)) = K (.bool true)
  rw [hfit, law]; rfl
noncomputable def q2n (os : Os) : World :=
  let w0 := World.holding Tryz.prog os ⟨#[], #[], []⟩
  let put (h : Array Obj) (g : Nat) (cs : Array Value) : Array Obj := h.modify g fun
    | .cells _ t frozen => .cells cs t frozen
    | o => o
  let h1 := put w0.heap 4 ([0, 1, 28, 2, 29, 14, 24, 3, 30, 22, 20, 15, 25, 17, 4, 8, 31, 27, 13, 23, 21, 19, 16, 7, 26, 12, 18, 6, 11, 5, 10, 9].map fun (z : Nat) => Value.int .u8 z).toArray
  let h2 := put h1 5 ([0, 1, 56, 2, 57, 49, 28, 3, 61, 58, 42, 50, 38, 29, 17, 4, 62, 47, 59, 36, 45, 43, 51, 22, 53, 39, 33, 30, 24, 18, 12, 5, 63, 55, 48, 27, 60, 41, 37, 16, 46, 35, 44, 21, 52, 32, 23, 11, 54, 26, 40, 15, 34, 20, 31, 10, 25, 14, 19, 9, 13, 8, 7, 6].map fun (z : Nat) => Value.int .u8 z).toArray
  let h3 := put h2 0 (qy7 Lib.pow10Tab)
  let h4 := put h3 3 ((List.range 16).flatMap fun i => [Value.int .u8 (if i = 0 then 128 else if i = 1 then 160 else if i = 2 then 128 else if i = 3 then 144 else if i = 4 then 128 else 0), Value.int .u8 (if i = 0 then 191 else if i = 1 then 191 else if i = 2 then 159 else if i = 3 then 191 else if i = 4 then 143 else 0)]).toArray
  let h5 := put h4 2 (Pinned.utf8FirstZ.map fun (z : Nat) => Value.int .u8 z).toArray
  { w0 with heap := h5 }
theorem qbbq (os : Os) (args : Array Value) : laidMetH Tryz.prog Rows.rolloverRoundsRow.laid ((q2n os).forCall (fun _ _ => 0) ⟨#[], args, []⟩).memory :=
  laidMetH_of_parts3 (fuel := 8) (laidMet_of_run' 8 (by kernel_rfl) (by kernel_rfl)) (by kernel_rfl) (by kernel_rfl)
set_option maxRecDepth 100000 in
theorem lifted (os : Os) (started : os.Started) (H : Type) (enc : TypeId × Value → H) :
    ReturnsInHanded {} Tryz.checked os 6 .any (fun w args => (Rows.rolloverRoundsSpec.pre enc Tryz.prog Tryz.f6 [] false w args ∧ laidMetH Tryz.prog Rows.rolloverRoundsRow.laid w) ∧ sizedMet enc Tryz.prog Tryz.f6 (OpenSpec.ofChange Rows.rolloverRoundsSpec) false w args) (Rows.rolloverRoundsSpec.post enc Tryz.prog Tryz.f6 false true false false) := by
  refine returnsInHanded_of_change_and (C := Tryz.checked) (X := fun w _ => laidMetH Tryz.prog Rows.rolloverRoundsRow.laid w) (fun _ _ _ hh h => h.of_heap hh) own started (by kernel_rfl) Tryz.func6
    (ChangeSpec.witness_at (enc := enc) (C := Tryz.checked) (os := os) (X := fun w _ => laidMetH Tryz.prog Rows.rolloverRoundsRow.laid w) false (q2n os) #[.int .u8 0, .slice none 0 0] 8 rfl (by kernel_rfl) (by kernel_rfl) (by kernel_rfl) (by kernel_rfl) (by kernel_rfl) (qbbq os _)) ?_
  intro W base args ds gs before hval0 hW _ hsz0 hX1 hX2
  have hval : ∀ (j : Nat) t v, Tryz.f6.params[j]? = some t → args[j]? = some v → Value.okWide Tryz.prog W .any base t v := hval0
  have hW' := hW
  obtain ⟨p, q, hA0, hV, rfl, hfz, hnd⟩ := hW
  have hA : DataW.TrodAll enc Tryz.prog W 0 (fun _ => true) true Tryz.f6.params.toList args.toList ds p := hA0
  rw [Tryz.params6] at hA hval
  obtain ⟨v0, vs0, d0, ds0, p0, q0, hargs, rfl, rfl, h0, r0⟩ := trodAll_cons hA
  obtain ⟨v1, vs1, d1, ds1, p1, q1, rfl, rfl, rfl, h1, r1⟩ := trodAll_cons r0
  obtain ⟨rfl, rfl, rfl⟩ := trodAll_nil r1
  obtain rfl : args = #[v0, v1] := by cases args; simp_all
  obtain ⟨rfl, rfl⟩ := trodVars_none hV
  have lt0 : ∀ x ∈ p0, x.block < W.heap.size := by obtain ⟨m, hm⟩ := h0; exact DataW.trod_lt m _ _ _ hm
  obtain ⟨y0, f0, c0⟩ := q4u has5 (hval 0 5 v0 rfl rfl) h0
  have lt1 : ∀ x ∈ p1, x.block < W.heap.size := by obtain ⟨m, hm⟩ := h1; exact DataW.trod_lt m _ _ _ hm
  obtain ⟨y1, f1, c1⟩ := q4u qbfc (hval 1 46 v1 rfl rfl) h1
  have htw : q69 W := by
    have h1 : laidMetH Tryz.prog Rows.rolloverRoundsRow.laid W := by first | exact hX1 | exact hX2
    have h2 := laidMetH.filter (fun x => x.1 == "internal/strconv.uint64pow10") h1
    have e1 : (Rows.rolloverRoundsRow.laid.filter fun x => x.1 == "internal/strconv.uint64pow10") = [("internal/strconv.uint64pow10", Lib.tabData .u64 Lib.pow10Tab)] := by kernel_rfl
    rw [e1] at h2
    have h3 : laidMet Tryz.prog [("internal/strconv.uint64pow10", Lib.tabData .u64 Lib.pow10Tab)] W := (laidMetH_iff.1 h2).1
    exact qbax (by kernel_rfl) (Lib.tabIs_of_head (g := 0) (t := 153) (e := 57) (n := 20) (by kernel_rfl) (by kernel_rfl) (by kernel_rfl) (by kernel_rfl) (by kernel_rfl) (by kernel_rfl) h3)
  clear hA0 hval0 hsz0
  refine (q8v (asks y0 y1 f0 f1) rfl (q13 c0 (q13 c1 q8w)) htw).mono fun e W' ⟨he, bel⟩ => ?_
  subst he
  exact ⟨_, rfl, _, _, _, [], _, [], hW', trodAll_mk1 (shut_bool Tryz.underlying4 _), (trodAll_cons_mk (Below.trod laidOut (by kernel_rfl) (of_decide_eq_true (by kernel_rfl)) h0 bel lt0) (trodAll_cons_mk (Below.trod laidOut (by kernel_rfl) (of_decide_eq_true (by kernel_rfl)) h1 bel lt1) trodAll_mk0)), rfl, bel.frame _, fun h => by cases h⟩
theorem q99 : Rows.RolloverRoundsSaid :=
  OpenClaim.holds_of_wide 6 Tryz.f6 rfl rfl rfl rfl rfl rfl rfl ⟨rfl, rfl, rfl, rfl, rfl⟩ rfl rfl rfl rfl rfl (by kernel_rfl) Tryz.func6 (by kernel_rfl)
    (of_decide_eq_true (by kernel_rfl)) (by unfold Func.isWrapper; first | (rw [if_pos (by decide +kernel)]; kernel_rfl) | (rw [if_neg (by decide +kernel)]; exact ⟨rfl, rfl⟩))
    (fun os started H enc _ => lifted os started H enc)
theorem over : Rows.RolloverRoundsCardSaid :=
  Claim7.holds_tied_plain_at .later [] [.data, .data, .data, .data, .pinned] true (true, "2491601c12b85b6bdb41ab1badfd15ac348b79fafd239d6fb52f3a9c86f8ade3") false
    q99 (fun _ h => by cases h) (by kernel_rfl) (fun _ h => by cases h) rolloverRounds_row_tie rfl ⟨rfl, rfl⟩ (by kernel_rfl) rfl
    (fun f fn hf hfn => by
      obtain rfl : f = 6 := Option.some.inj ((show Tryz.prog.funcNamed "ddi/ddilaw22.RolloverRounds" = some 6 by kernel_rfl).symm.trans hf) |>.symm
      obtain rfl : fn = Tryz.f6 := (Option.some.inj (Tryz.func6.symm.trans hfn)).symm
      exact ⟨by kernel_rfl, fun j t ht => by
        rw [Tryz.params6] at ht
        have w5 : Tryz.prog.wantsStandIn 5 = false := by kernel_rfl
        have w46 : Tryz.prog.wantsStandIn 46 = false := by kernel_rfl
        rcases j with _ | j
        · have : t = 5 := by simpa using ht.symm
          subst this; exact w5
        rcases j with _ | j
        · have : t = 46 := by simpa using ht.symm
          subst this; exact w46
        · simp at ht⟩)
    (by kernel_rfl)
end Go.Proofs.YtmoedhehjonnhaaGreatDoor.RolloverRoundsRow
