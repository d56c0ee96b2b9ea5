/- PROVES the statement PolicyApplies: for every input the law returns true, and the arguments read behind the call as before. No conditions. -/
import Derived.Test.YthhnnlipnpfkcaaDoorRows
import Derived.Test.YthhnnlipnpfkcaaDoorXaLw26Q
import Derived.Test.YthhnnlipnpfkcaaDoorXaLibC
import Derived.Test.YthhnnlipnpfkcaaDoorTie
import Derived.Test.YthhnnlipnpfkcaaDoorCards
import Derived.ProofKit
import Derived.SizedLaws
import Derived.OpenShut
import Derived.LaidMore
import Derived.Stop.Joined
import Derived.SevenTiedAt
set_option linter.all false
namespace Go.Proofs.YthhnnlipnpfkcaaDoor.PolicyAppliesRow
open Go Go.Pev Go.ChangeShapes Go.WideShapes Go.ChangeAt Go.RowKit
set_option linter.unusedVariables false
set_option linter.unusedSimpArgs false
theorem own : ownKnob Tryd.prog.godebug = none := by kernel_rfl
theorem laidOut : laidOutB Tryd.prog = true := by kernel_rfl
def ty22 : Ty := (.sl 8 (.st [(.int .i64), .str, (.st [(.st [.bool, (.int .u64), (.int .u64)]), (.int .i64)]), (.int .i64), (.sl 16 (.st [.str, (.int .i64), (.int .i64), (.st [(.st [.bool, (.int .u64), (.int .u64)]), .str, .str, .str, (.int .i64), (.int .i64), (.int .i64), (.int .i64), (.int .i64), (.int .i64), (.int .u64)])]))]))
theorem has22 : tyOf Tryd.prog 12 22 = some ty22 := by kernel_rfl
def ty27 : Ty := (.st [(.int .i64), (.int .i64), (.int .i64), .bool, .bool, .bool, .bool, .bool, .bool, .bool, .bool, (.int .i64), (.st [.str, (.int .i64)]), (.sl 16 (.st [.str, (.int .i64), (.int .i64), (.st [(.st [.bool, (.int .u64), (.int .u64)]), .str, .str, .str, (.int .i64), (.int .i64), (.int .i64), (.int .i64), (.int .i64), (.int .i64), (.int .u64)])])), (.sl 16 (.st [.str, (.int .i64), (.int .i64), (.st [(.st [.bool, (.int .u64), (.int .u64)]), .str, .str, .str, (.int .i64), (.int .i64), (.int .i64), (.int .i64), (.int .i64), (.int .i64), (.int .u64)])])), (.sl 16 (.st [.str, (.int .i64), (.int .i64), (.st [(.st [.bool, (.int .u64), (.int .u64)]), .str, .str, .str, (.int .i64), (.int .i64), (.int .i64), (.int .i64), (.int .i64), (.int .i64), (.int .u64)])]))])
theorem has27 : tyOf Tryd.prog 12 27 = some ty27 := by kernel_rfl
theorem asks : ∀ (y0 : AV) (y1 : AV) (y2 : AV), (ty22).fitv y0 → (ty27).fitv y1 → (ty27).fitv y2 → CallOkB Tryd.prog 5 [y0, y1, y2] (· = .bool true) := by
  intro y0 y1 y2 f0 f1 f2
  obtain ⟨h0, g0⟩ := arg_one rfl f0
  have k0 : fitT Mem.none (.one (.l (.sl 8))) y0 = true := by
    have := (fitKs_l Mem.none [(.sl 8)] [y0]).trans h0
    simp only [List.map_cons, List.map_nil, fitKs] at this
    split at this
    · rename_i hk; exact hk
    · cases this
  obtain ⟨a1, h1, g1⟩ := arg_st f1
  have k1 : fitT Mem.none (.st [.l (.i .i64), .l (.i .i64), .l (.i .i64), .l .b, .l .b, .l .b, .l .b, .l .b, .l .b, .l .b, .l .b, .l (.i .i64), .l .s, .l (.i .i64), .l (.sl 16), .l (.sl 16), .l (.sl 16)]) y1 = true := fitT_st a1 ((fitKs_l Mem.none [(.i .i64), (.i .i64), (.i .i64), .b, .b, .b, .b, .b, .b, .b, .b, (.i .i64), .s, (.i .i64), (.sl 16), (.sl 16), (.sl 16)] y1.cells).trans h1)
  obtain ⟨a2, h2, g2⟩ := arg_st f2
  have k2 : fitT Mem.none (.st [.l (.i .i64), .l (.i .i64), .l (.i .i64), .l .b, .l .b, .l .b, .l .b, .l .b, .l .b, .l .b, .l .b, .l (.i .i64), .l .s, .l (.i .i64), .l (.sl 16), .l (.sl 16), .l (.sl 16)]) y2 = true := fitT_st a2 ((fitKs_l Mem.none [(.i .i64), (.i .i64), (.i .i64), .b, .b, .b, .b, .b, .b, .b, .b, (.i .i64), .s, (.i .i64), (.sl 16), (.sl 16), (.sl 16)] y2.cells).trans h2)
  have hfit : fitS Dn.shp_ddilaw26_PolicyApplies (entry [y0, y1, y2]) Mem.none = true := by
    show (match fitTs (entry [y0, y1, y2]) Mem.none Dn.shp_ddilaw26_PolicyApplies.ts with | true => true | false => false) = true
    have : fitTs (entry [y0, y1, y2]) Mem.none Dn.shp_ddilaw26_PolicyApplies.ts = true := by
      unfold Dn.shp_ddilaw26_PolicyApplies
      simp only [fitTs]
      rw [show (entry [y0, y1, y2]) 0 = y0 from rfl, k0]
      rw [show (entry [y0, y1, y2]) 1 = y1 from rfl, k1]
      rw [show (entry [y0, y1, y2]) 2 = y2 from rfl, k2]
    rw [this]
  have law : Dn.ddilaw26_PolicyApplies (gL [y0] 0) (gI y1.cells 0) (gI y1.cells 1) (gI y1.cells 2) (gB y1.cells 3) (gB y1.cells 4) (gB y1.cells 5) (gB y1.cells 6) (gB y1.cells 7) (gB y1.cells 8) (gB y1.cells 9) (gB y1.cells 10) (gI y1.cells 11) (gS y1.cells 12) (gI y1.cells 13) (gL y1.cells 14) (gL y1.cells 15) (gL y1.cells 16) (gI y2.cells 0) (gI y2.cells 1) (gI y2.cells 2) (gB y2.cells 3) (gB y2.cells 4) (gB y2.cells 5) (gB y2.cells 6) (gB y2.cells 7) (gB y2.cells 8) (gB y2.cells 9) (gB y2.cells 10) (gI y2.cells 11) (gS y2.cells 12) (gI y2.cells 13) (gL y2.cells 14) (gL y2.cells 15) (gL y2.cells 16) = some true := by
    exact Dn.law_PolicyApplies _ _ _ _ _ _ _ _ _ _ _ _ _ _ _ _ _ _ _ _ _ _ _ _ _ _ _ _ _ _ _ _ _ _ _ (Dn.rulesFit_of g0) g1.2.2.2.2.2.2.2.2.2.2.2.2.1.1 (Dn.recsFit2_of g2.2.2.2.2.2.2.2.2.2.2.2.2.2.1) (Dn.recsFit_of g2.2.2.2.2.2.2.2.2.2.2.2.2.2.2.1) (Dn.recsFit_of g2.2.2.2.2.2.2.2.2.2.2.2.2.2.2.2.1)
  refine callOk_true Dn.k_ddilaw26_PolicyApplies (fun K => ?_)
  show chk (fitS Dn.shp_ddilaw26_PolicyApplies (entry [y0, y1, y2]) Mem.none) (oB (Dn.ddilaw26_PolicyApplies (gL [y0] 0) (gI y1.cells 0) (gI y1.cells 1) (gI y1.cells 2) (gB y1.cells 3) (gB y1.cells 4) (gB y1.cells 5) (gB y1.cells 6) (gB y1.cells 7) (gB y1.cells 8) (gB y1.cells 9) (gB y1.cells 10) (gI y1.cells 11) (gS y1.cells 12) (gI y1.cells 13) (gL y1.cells 14) (gL y1.cells 15) (gL y1.cells 16) (gI y2.cells 0) (gI y2.cells 1) (gI y2.cells 2) (gB y2.cells 3) (gB y2.cells 4) (gB y2.cells 5) (gB y2.cells 6) (gB y2.cells 7) (gB y2.cells 8) (gB y2.cells 9) (gB y2.cells 10) (gI y2.cells 11) (gS y2.cells 12) (gI y2.cells 13) (gL y2.cells 14) (gL y2.cells 15) (gL y2.cells 16)) fun r => K (.bool r)) = K (.bool true)
  rw [hfit, law]; rfl
noncomputable def laidWorld (os : Os) : World :=
  let w0 := World.holding Tryd.prog os ⟨#[], #[], []⟩
  let put (h : Array Obj) (g : Nat) (cs : Array Value) : Array Obj := h.modify g fun
    | .cells _ t frozen => .cells cs t frozen
    | o => o
  let h1 := put w0.heap 2 ((List.range 16).flatMap fun i => [Value.int .u8 (if i = 0 then 128 else if i = 1 then 160 else if i = 2 then 128 else if i = 3 then 144 else if i = 4 then 128 else 0), Value.int .u8 (if i = 0 then 191 else if i = 1 then 191 else if i = 2 then 159 else if i = 3 then 191 else if i = 4 then 143 else 0)]).toArray
  let h2 := put h1 1 (Pinned.utf8FirstZ.map fun (z : Nat) => Value.int .u8 z).toArray
  { w0 with heap := h2 }
theorem laid_met (os : Os) (args : Array Value) : laidMetH Tryd.prog Rows.policyAppliesRow.laid ((laidWorld os).forCall (fun _ _ => 0) ⟨#[], args, []⟩).memory :=
  laidMetH_of_parts3 (fuel := 8) (laidMet_of_run' 8 (by kernel_rfl) (by kernel_rfl)) (by kernel_rfl) (by kernel_rfl)
set_option maxRecDepth 100000 in
theorem lifted (os : Os) (started : os.Started) (H : Type) (enc : TypeId × Value → H) :
    ReturnsInHanded {} Tryd.checked os 5 .any (fun w args => (Rows.policyAppliesSpec.pre enc Tryd.prog Tryd.f5 [] false w args ∧ laidMetH Tryd.prog Rows.policyAppliesRow.laid w) ∧ sizedMet enc Tryd.prog Tryd.f5 (OpenSpec.ofChange Rows.policyAppliesSpec) false w args) (Rows.policyAppliesSpec.post enc Tryd.prog Tryd.f5 false true false false) := by
  refine returnsInHanded_of_change_and (C := Tryd.checked) (X := fun w _ => laidMetH Tryd.prog Rows.policyAppliesRow.laid w) (fun _ _ _ hh h => h.of_heap hh) own started (by kernel_rfl) Tryd.func5
    (ChangeSpec.witness_at (enc := enc) (C := Tryd.checked) (os := os) (X := fun w _ => laidMetH Tryd.prog Rows.policyAppliesRow.laid w) false (laidWorld os) #[.slice none 0 0, .agg #[.int .i64 0, .int .i64 0, .int .i64 0, .bool false, .bool false, .bool false, .bool false, .bool false, .bool false, .bool false, .bool false, .int .i64 0, .string ⟨#[]⟩, .int .i64 0, .slice none 0 0, .slice none 0 0, .slice none 0 0], .agg #[.int .i64 0, .int .i64 0, .int .i64 0, .bool false, .bool false, .bool false, .bool false, .bool false, .bool false, .bool false, .bool false, .int .i64 0, .string ⟨#[]⟩, .int .i64 0, .slice none 0 0, .slice none 0 0, .slice none 0 0]] 8 rfl (by kernel_rfl) (by kernel_rfl) (by kernel_rfl) (by kernel_rfl) (by kernel_rfl) (laid_met os _)) ?_
  intro W base args ds gs before hval0 hW _ hsz0 _ _
  have hval : ∀ (j : Nat) t v, Tryd.f5.params[j]? = some t → args[j]? = some v → Value.okWide Tryd.prog W .any base t v := hval0
  have hW' := hW
  obtain ⟨p, q, hA0, hV, rfl, hfz, hnd⟩ := hW
  have hA : DataW.TrodAll enc Tryd.prog W 0 (fun _ => true) true Tryd.f5.params.toList args.toList ds p := hA0
  rw [Tryd.params5] at hA hval
  obtain ⟨v0, vs0, d0, ds0, p0, q0, hargs, rfl, rfl, h0, r0⟩ := trodAll_cons hA
  obtain ⟨v1, vs1, d1, ds1, p1, q1, rfl, rfl, rfl, h1, r1⟩ := trodAll_cons r0
  obtain ⟨v2, vs2, d2, ds2, p2, q2, rfl, rfl, rfl, h2, r2⟩ := trodAll_cons r1
  obtain ⟨rfl, rfl, rfl⟩ := trodAll_nil r2
  obtain rfl : args = #[v0, v1, v2] := by cases args; simp_all
  obtain ⟨rfl, rfl⟩ := trodVars_none hV
  have lt0 : ∀ x ∈ p0, x.block < W.heap.size := by obtain ⟨m, hm⟩ := h0; exact DataW.trod_lt m _ _ _ hm
  obtain ⟨y0, f0, c0⟩ := arg_told has22 (hval 0 22 v0 rfl rfl) h0
  have lt1 : ∀ x ∈ p1, x.block < W.heap.size := by obtain ⟨m, hm⟩ := h1; exact DataW.trod_lt m _ _ _ hm
  obtain ⟨y1, f1, c1⟩ := arg_told has27 (hval 1 27 v1 rfl rfl) h1
  have lt2 : ∀ x ∈ p2, x.block < W.heap.size := by obtain ⟨m, hm⟩ := h2; exact DataW.trod_lt m _ _ _ hm
  obtain ⟨y2, f2, c2⟩ := arg_told has27 (hval 2 27 v2 rfl rfl) h2
  clear hA0 hval0 hsz0
  refine (law_calls (asks y0 y1 y2 f0 f1 f2) rfl (args_relc c0 (args_relc c1 (args_relc c2 args_reln)))).mono fun e W' ⟨he, bel⟩ => ?_
  subst he
  exact ⟨_, rfl, _, _, _, [], _, [], hW', trodAll_mk1 (shut_bool Tryd.underlying4 _), (trodAll_cons_mk (Below.trod laidOut (by kernel_rfl) (of_decide_eq_true (by kernel_rfl)) h0 bel lt0) (trodAll_cons_mk (Below.trod laidOut (by kernel_rfl) (of_decide_eq_true (by kernel_rfl)) h1 bel lt1) (trodAll_cons_mk (Below.trod laidOut (by kernel_rfl) (of_decide_eq_true (by kernel_rfl)) h2 bel lt2) trodAll_mk0))), rfl, bel.frame _, fun h => by cases h⟩
theorem row_holds : Rows.PolicyAppliesSaid :=
  OpenClaim.holds_of_wide 5 Tryd.f5 rfl rfl rfl rfl rfl rfl rfl ⟨rfl, rfl, rfl, rfl, rfl⟩ rfl rfl rfl rfl rfl (by kernel_rfl) Tryd.func5 (by kernel_rfl)
    (of_decide_eq_true (by kernel_rfl)) (by unfold Func.isWrapper; first | (rw [if_pos (by decide +kernel)]; kernel_rfl) | (rw [if_neg (by decide +kernel)]; exact ⟨rfl, rfl⟩))
    (fun os started H enc _ => lifted os started H enc)
theorem over : Rows.PolicyAppliesCardSaid :=
  Claim7.holds_tied_plain_at .later [] [.data, .pinned] true (true, "027f8092f5197d82a28fc40ef7a9899722f6df8721db98e6aaa58f5918944129") false
    row_holds (fun _ h => by cases h) (by kernel_rfl) (fun _ h => by cases h) policyApplies_row_tie rfl ⟨rfl, rfl⟩ (by kernel_rfl) rfl
    (fun f fn hf hfn => by
      obtain rfl : f = 5 := Option.some.inj ((show Tryd.prog.funcNamed "ddi/ddilaw26.PolicyApplies" = some 5 by kernel_rfl).symm.trans hf) |>.symm
      obtain rfl : fn = Tryd.f5 := (Option.some.inj (Tryd.func5.symm.trans hfn)).symm
      exact ⟨by kernel_rfl, fun j t ht => by
        rw [Tryd.params5] at ht
        have w22 : Tryd.prog.wantsStandIn 22 = false := by kernel_rfl
        have w27 : Tryd.prog.wantsStandIn 27 = false := by kernel_rfl
        rcases j with _ | j
        · have : t = 22 := by simpa using ht.symm
          subst this; exact w22
        rcases j with _ | j
        · have : t = 27 := by simpa using ht.symm
          subst this; exact w27
        rcases j with _ | j
        · have : t = 27 := by simpa using ht.symm
          subst this; exact w27
        · simp at ht⟩)
    (by kernel_rfl)
end Go.Proofs.YthhnnlipnpfkcaaDoor.PolicyAppliesRow
