/- PROVES the statement BlocksChecks: for every input the law returns true, and the arguments read behind the call as before. No conditions. -/
import Derived.Test.YtmjdngnagiloeaaRows
import Derived.Test.YtmjdngnagiloeaaBcLw46i
import Derived.Test.YtmjdngnagiloeaaBcLibD
import Derived.ProofKit
import Derived.SizedLaws
import Derived.OpenShut
set_option linter.all false
namespace Go.Proofs.Ytmjdngnagiloeaa.BlocksChecksRow
open Go Go.Pev Go.ChangeShapes Go.WideShapes Go.ChangeAt Go.RowKit
set_option linter.unusedVariables false
set_option linter.unusedSimpArgs false
theorem own : ownKnob Try.prog.godebug = none := by kernel_rfl
theorem laidOut : laidOutB Try.prog = true := by kernel_rfl
def ty22 : Ty := (.sl 8 (.st [(.st [(.st [.bool, (.int .u64), (.int .u64)]), (.int .i64)]), (.int .i64), .str, .str, (.int .i64)]))
theorem has22 : tyOf Try.prog 12 22 = some ty22 := by kernel_rfl
theorem asks : ∀ (y0 : AV), (ty22).fitv y0 → CallOkB Try.prog 3 [y0] (· = .bool true) := by
  intro y0 f0
  obtain ⟨h0, g0⟩ := arg_one rfl f0
  have k0 : fitT Mem.none (.one (.l (.sl 8))) y0 = true := by
    have := (fitKs_l Mem.none [(.sl 8)] [y0]).trans h0
    simp only [List.map_cons, List.map_nil, fitKs] at this
    split at this
    · rename_i hk; exact hk
    · cases this
  have hfit : fitS Dn.qeb (entry [y0]) Mem.none = true := by
    show (match fitTs (entry [y0]) Mem.none Dn.qeb.ts with | true => true | false => false) = true
    have : fitTs (entry [y0]) Mem.none Dn.qeb.ts = true := by
      exact fitTs_row (show fitT Mem.none _ ((entry [y0]) 0) = true from k0) (rfl)
    rw [this]
  have law : Dn.qef (gL [y0] 0) = some true := by
    exact Dn.law46C _ (Dn.blksFit_of g0)
  refine callOk_true Dn.qxr (fun K => ?_)
  show chk (fitS Dn.qeb (entry [y0]) Mem.none) (oB (Dn.qef (gL [y0] 0)) fun r => K (.bool r)) = K (.bool true)
  rw [hfit, law]; rfl
set_option maxRecDepth 100000 in
theorem lifted (os : Os) (started : os.Started) (H : Type) (enc : TypeId × Value → H) :
    ReturnsInHanded {} Try.checked os 3 .any (Rows.blocksChecksSpec.pre6 enc Try.prog Try.f3 Rows.blocksChecksRow.domain false) (Rows.blocksChecksSpec.post enc Try.prog Try.f3 false true false false) := by
  refine returnsInHanded_of_change_sized (C := Try.checked) own started (by kernel_rfl) Try.func3
    (ChangeSpec.witness6 (enc := enc) (C := Try.checked) false ⟨#[], #[.slice none 0 0], []⟩ 8 (by kernel_rfl) (by kernel_rfl) (by kernel_rfl) (by kernel_rfl)) ?_
  intro W base args ds gs before hval0 hW hcnd hsz0 _
  have hval : ∀ (j : Nat) t v, Try.f3.params[j]? = some t → args[j]? = some v → Value.okWide Try.prog W .any base t v := hval0
  have hW' := hW
  obtain ⟨p, q, hA0, hV, rfl, hfz, hnd⟩ := hW
  have hA : DataW.TrodAll enc Try.prog W 0 (fun _ => true) true Try.f3.params.toList args.toList ds p := hA0
  rw [Try.params3] at hA hval
  obtain ⟨v0, vs0, d0, ds0, p0, q0, hargs, rfl, rfl, h0, r0⟩ := trodAll_cons hA
  obtain ⟨rfl, rfl, rfl⟩ := trodAll_nil r0
  obtain rfl : args = #[v0] := by cases args; simp_all
  obtain ⟨rfl, rfl⟩ := trodVars_none hV
  have lt0 : ∀ x ∈ p0, x.block < W.heap.size := by obtain ⟨m, hm⟩ := h0; exact DataW.trod_lt m _ _ _ hm
  obtain ⟨y0, f0, c0⟩ := arg_told has22 (hval 0 22 v0 rfl rfl) h0
  clear hA0 hval0 hsz0
  refine (law_calls (asks y0 f0) rfl (args_relc c0 args_reln)).mono fun e W' ⟨he, bel⟩ => ?_
  subst he
  exact ⟨_, rfl, _, _, _, [], _, [], hW', trodAll_mk1 (shut_bool Try.underlying4 _), (trodAll_cons_mk (Below.trod laidOut (by kernel_rfl) (of_decide_eq_true (by kernel_rfl)) h0 bel lt0) trodAll_mk0), rfl, bel.frame _, fun h => by cases h⟩
theorem over : Rows.BlocksChecksSaid :=
  OpenClaim.holds_of_wide 3 Try.f3 rfl rfl rfl rfl rfl rfl rfl ⟨rfl, rfl, rfl, rfl, rfl⟩ rfl rfl rfl rfl rfl (by kernel_rfl) Try.func3 (by kernel_rfl)
    (of_decide_eq_true (by kernel_rfl)) (by unfold Func.isWrapper; first | (rw [if_pos (by decide +kernel)]; kernel_rfl) | (rw [if_neg (by decide +kernel)]; exact ⟨rfl, rfl⟩))
    (fun os started H enc _ => lifted os started H enc)
end Go.Proofs.Ytmjdngnagiloeaa.BlocksChecksRow
