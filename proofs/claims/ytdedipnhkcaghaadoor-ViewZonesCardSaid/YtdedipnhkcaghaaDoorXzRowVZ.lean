/- PROVES the statement ViewZones: for every input the law returns true, and the arguments read behind the call as before. No conditions. -/
import Derived.Test.YtdedipnhkcaghaaDoorRows
import Derived.Test.YtdedipnhkcaghaaDoorXzLw25z
import Derived.Test.YtdedipnhkcaghaaDoorXzLibC
import Derived.Test.YtdedipnhkcaghaaDoorTie
import Derived.Test.YtdedipnhkcaghaaDoorCards
import Derived.ProofKit
import Derived.SizedLaws
import Derived.OpenShut
import Derived.LaidMore
import Derived.Stop.Joined
import Derived.SevenTiedAt
set_option linter.all false
namespace Go.Proofs.YtdedipnhkcaghaaDoor.ViewZonesRow
open Go Go.Pev Go.ChangeShapes Go.WideShapes Go.ChangeAt Go.RowKit
set_option linter.unusedVariables false
set_option linter.unusedSimpArgs false
theorem own : ownKnob Tryd.prog.godebug = none := by kernel_rfl
theorem laidOut : laidOutB Tryd.prog = true := by kernel_rfl
def ty9 : Ty := .str
theorem has9 : tyOf Tryd.prog 12 9 = some ty9 := by kernel_rfl
def ty40 : Ty := (.st [.str, (.sl 6 (.st [(.st [(.st [.bool, (.int .u64), (.int .u64)]), (.int .i64)]), .bool, .bool])), (.sl 6 (.st [(.st [(.st [.bool, (.int .u64), (.int .u64)]), (.int .i64)]), .bool, .bool])), (.sl 6 (.st [(.st [(.st [.bool, (.int .u64), (.int .u64)]), (.int .i64)]), .bool, .bool])), (.sl 1 .str), (.sl 8 (.st [(.int .i64), .str, (.st [(.st [.bool, (.int .u64), (.int .u64)]), (.int .i64)]), (.int .i64), (.sl 16 (.st [.str, (.int .i64), (.int .i64), (.st [(.st [.bool, (.int .u64), (.int .u64)]), .str, .str, .str, (.int .i64), (.int .i64), (.int .i64), (.int .i64), (.int .i64), (.int .i64), (.int .u64)])]))]))])
theorem has40 : tyOf Tryd.prog 12 40 = some ty40 := by kernel_rfl
theorem asks : ∀ (y0 : AV) (y1 : AV), (ty40).fitv y0 → (ty9).fitv y1 → CallOkB Tryd.prog 8 [y0, y1] (· = .bool true) := by
  intro y0 y1 f0 f1
  obtain ⟨a0, h0, g0⟩ := arg_st f0
  have k0 : fitT Mem.none (.st [.l .s, .l (.sl 6), .l (.sl 6), .l (.sl 6), .l (.sl 1), .l (.sl 8)]) y0 = true := fitT_st a0 ((fitKs_l Mem.none [.s, (.sl 6), (.sl 6), (.sl 6), (.sl 1), (.sl 8)] y0.cells).trans h0)
  obtain ⟨h1, g1⟩ := arg_one rfl f1
  have k1 : fitT Mem.none (.one (.l .s)) y1 = true := by
    have := (fitKs_l Mem.none [.s] [y1]).trans h1
    simp only [List.map_cons, List.map_nil, fitKs] at this
    split at this
    · rename_i hk; exact hk
    · cases this
  have hfit : fitS Dn.shp_ddilaw25_ViewZones (entry [y0, y1]) Mem.none = true := by
    show (match fitTs (entry [y0, y1]) Mem.none Dn.shp_ddilaw25_ViewZones.ts with | true => true | false => false) = true
    have : fitTs (entry [y0, y1]) Mem.none Dn.shp_ddilaw25_ViewZones.ts = true := by
      unfold Dn.shp_ddilaw25_ViewZones
      simp only [fitTs]
      rw [show (entry [y0, y1]) 0 = y0 from rfl, k0]
      rw [show (entry [y0, y1]) 1 = y1 from rfl, k1]
    rw [this]
  have law : Dn.ddilaw25_ViewZones (gS y0.cells 0) (gL y0.cells 1) (gL y0.cells 2) (gL y0.cells 3) (gL y0.cells 4) (gL y0.cells 5) (gS [y1] 0) = some true := by
    exact Dn.law_ViewZones _ _ _ _ _ _ g0.1 (Dn.matchesFit_of g0.2.1) (Dn.matchesFit_of g0.2.2.1) (Dn.matchesFit_of g0.2.2.2.1) (Dn.zonesFit_of g0.2.2.2.2.1) _
  refine callOk_true Dn.k_ddilaw25_ViewZones (fun K => ?_)
  show chk (fitS Dn.shp_ddilaw25_ViewZones (entry [y0, y1]) Mem.none) (oB (Dn.ddilaw25_ViewZones (gS y0.cells 0) (gL y0.cells 1) (gL y0.cells 2) (gL y0.cells 3) (gL y0.cells 4) (gL y0.cells 5) (gS [y1] 0)) fun r => K (.bool r)) = K (.bool true)
  rw [hfit, law]; rfl
noncomputable def laidWorld (os : Os) : World :=
  let w0 := World.holding Tryd.prog os ⟨#[], #[], []⟩
  let put (h : Array Obj) (g : Nat) (cs : Array Value) : Array Obj := h.modify g fun
    | .cells _ t frozen => .cells cs t frozen
    | o => o
  let h1 := put w0.heap 2 ((List.range 16).flatMap fun i => [Value.int .u8 (if i = 0 then 128 else if i = 1 then 160 else if i = 2 then 128 else if i = 3 then 144 else if i = 4 then 128 else 0), Value.int .u8 (if i = 0 then 191 else if i = 1 then 191 else if i = 2 then 159 else if i = 3 then 191 else if i = 4 then 143 else 0)]).toArray
  let h2 := put h1 1 (Pinned.utf8FirstZ.map fun (z : Nat) => Value.int .u8 z).toArray
  { w0 with heap := h2 }
theorem laid_met (os : Os) (args : Array Value) : laidMetH Tryd.prog Rows.viewZonesRow.laid ((laidWorld os).forCall (fun _ _ => 0) ⟨#[], args, []⟩).memory :=
  laidMetH_of_parts3 (fuel := 8) (laidMet_of_run' 8 (by kernel_rfl) (by kernel_rfl)) (by kernel_rfl) (by kernel_rfl)
set_option maxRecDepth 100000 in
theorem lifted (os : Os) (started : os.Started) (H : Type) (enc : TypeId × Value → H) :
    ReturnsInHanded {} Tryd.checked os 8 .any (fun w args => (Rows.viewZonesSpec.pre enc Tryd.prog Tryd.f8 [] false w args ∧ laidMetH Tryd.prog Rows.viewZonesRow.laid w) ∧ sizedMet enc Tryd.prog Tryd.f8 (OpenSpec.ofChange Rows.viewZonesSpec) false w args) (Rows.viewZonesSpec.post enc Tryd.prog Tryd.f8 false true false false) := by
  refine returnsInHanded_of_change_and (C := Tryd.checked) (X := fun w _ => laidMetH Tryd.prog Rows.viewZonesRow.laid w) (fun _ _ _ hh h => h.of_heap hh) own started (by kernel_rfl) Tryd.func8
    (ChangeSpec.witness_at (enc := enc) (C := Tryd.checked) (os := os) (X := fun w _ => laidMetH Tryd.prog Rows.viewZonesRow.laid w) false (laidWorld os) #[.agg #[.string ⟨#[]⟩, .slice none 0 0, .slice none 0 0, .slice none 0 0, .slice none 0 0, .slice none 0 0], .string ⟨#[]⟩] 8 rfl (by kernel_rfl) (by kernel_rfl) (by kernel_rfl) (by kernel_rfl) (by kernel_rfl) (laid_met os _)) ?_
  intro W base args ds gs before hval0 hW _ hsz0 _ _
  have hval : ∀ (j : Nat) t v, Tryd.f8.params[j]? = some t → args[j]? = some v → Value.okWide Tryd.prog W .any base t v := hval0
  have hW' := hW
  obtain ⟨p, q, hA0, hV, rfl, hfz, hnd⟩ := hW
  have hA : DataW.TrodAll enc Tryd.prog W 0 (fun _ => true) true Tryd.f8.params.toList args.toList ds p := hA0
  rw [Tryd.params8] at hA hval
  obtain ⟨v0, vs0, d0, ds0, p0, q0, hargs, rfl, rfl, h0, r0⟩ := trodAll_cons hA
  obtain ⟨v1, vs1, d1, ds1, p1, q1, rfl, rfl, rfl, h1, r1⟩ := trodAll_cons r0
  obtain ⟨rfl, rfl, rfl⟩ := trodAll_nil r1
  obtain rfl : args = #[v0, v1] := by cases args; simp_all
  obtain ⟨rfl, rfl⟩ := trodVars_none hV
  have lt0 : ∀ x ∈ p0, x.block < W.heap.size := by obtain ⟨m, hm⟩ := h0; exact DataW.trod_lt m _ _ _ hm
  obtain ⟨y0, f0, c0⟩ := arg_told has40 (hval 0 40 v0 rfl rfl) h0
  have lt1 : ∀ x ∈ p1, x.block < W.heap.size := by obtain ⟨m, hm⟩ := h1; exact DataW.trod_lt m _ _ _ hm
  obtain ⟨y1, f1, c1⟩ := arg_told has9 (hval 1 9 v1 rfl rfl) h1
  clear hA0 hval0 hsz0
  refine (law_calls (asks y0 y1 f0 f1) rfl (args_relc c0 (args_relc c1 args_reln))).mono fun e W' ⟨he, bel⟩ => ?_
  subst he
  exact ⟨_, rfl, _, _, _, [], _, [], hW', trodAll_mk1 (shut_bool Tryd.underlying4 _), (trodAll_cons_mk (Below.trod laidOut (by kernel_rfl) (of_decide_eq_true (by kernel_rfl)) h0 bel lt0) (trodAll_cons_mk (Below.trod laidOut (by kernel_rfl) (of_decide_eq_true (by kernel_rfl)) h1 bel lt1) trodAll_mk0)), rfl, bel.frame _, fun h => by cases h⟩
theorem row_holds : Rows.ViewZonesSaid :=
  OpenClaim.holds_of_wide 8 Tryd.f8 rfl rfl rfl rfl rfl rfl rfl ⟨rfl, rfl, rfl, rfl, rfl⟩ rfl rfl rfl rfl rfl (by kernel_rfl) Tryd.func8 (by kernel_rfl)
    (of_decide_eq_true (by kernel_rfl)) (by unfold Func.isWrapper; first | (rw [if_pos (by decide +kernel)]; kernel_rfl) | (rw [if_neg (by decide +kernel)]; exact ⟨rfl, rfl⟩))
    (fun os started H enc _ => lifted os started H enc)
theorem over : Rows.ViewZonesCardSaid :=
  Claim7.holds_tied_plain_at .later [] [.data, .pinned] true (true, "bf7f7aef6ec8a4ad889280a32fc27a85922836afbb31e2c58089aae790350d3d") false
    row_holds (fun _ h => by cases h) (by kernel_rfl) (fun _ h => by cases h) viewZones_row_tie rfl ⟨rfl, rfl⟩ (by kernel_rfl) rfl
    (fun f fn hf hfn => by
      obtain rfl : f = 8 := Option.some.inj ((show Tryd.prog.funcNamed "ddi/ddilaw25.ViewZones" = some 8 by kernel_rfl).symm.trans hf) |>.symm
      obtain rfl : fn = Tryd.f8 := (Option.some.inj (Tryd.func8.symm.trans hfn)).symm
      exact ⟨by kernel_rfl, fun j t ht => by
        rw [Tryd.params8] at ht
        have w9 : Tryd.prog.wantsStandIn 9 = false := by kernel_rfl
        have w40 : Tryd.prog.wantsStandIn 40 = false := by kernel_rfl
        rcases j with _ | j
        · have : t = 40 := by simpa using ht.symm
          subst this; exact w40
        rcases j with _ | j
        · have : t = 9 := by simpa using ht.symm
          subst this; exact w9
        · simp at ht⟩)
    (by kernel_rfl)
end Go.Proofs.YtdedipnhkcaghaaDoor.ViewZonesRow

