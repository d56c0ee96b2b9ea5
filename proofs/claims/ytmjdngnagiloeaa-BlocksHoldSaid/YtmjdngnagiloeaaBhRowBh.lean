/- PROVES the statement BlocksHold: for every input the law returns true, and the arguments read behind the call as before. No conditions. -/
import Derived.Test.YtmjdngnagiloeaaRows
import Derived.Test.YtmjdngnagiloeaaBhLw46v
import Derived.Test.YtmjdngnagiloeaaBhLibD
import Derived.ProofKit
import Derived.SizedLaws
import Derived.OpenShut
set_option linter.all false
namespace Go.Proofs.Ytmjdngnagiloeaa.BlocksHoldRow
open Go Go.Pev Go.ChangeShapes Go.WideShapes Go.ChangeAt Go.RowKit
set_option linter.unusedVariables false
set_option linter.unusedSimpArgs false
theorem own : ownKnob Try.prog.godebug = none := by kernel_rfl
theorem laidOut : laidOutB Try.prog = true := by kernel_rfl
def ty22 : Ty := (.sl 8 (.st [(.st [(.st [.bool, (.int .u64), (.int .u64)]), (.int .i64)]), (.int .i64), .str, .str, (.int .i64)]))
theorem qbtt : tyOf Try.prog 12 22 = some ty22 := by kernel_rfl
def ty30 : Ty := (.st [.bool, (.int .u64), (.int .u64)])
theorem qbtu : tyOf Try.prog 12 30 = some ty30 := by kernel_rfl
theorem asks : ∀ (y0 : AV) (y1 : AV), (ty22).fitv y0 → (ty30).fitv y1 → q3o Try.prog 7 [y0, y1] (· = .bool true) := by
  intro y0 y1 f0 f1
  obtain ⟨h0, g0⟩ := qbr7 rfl f0
  have k0 : fitT Mem.none (.one (.l (.sl 8))) y0 = true := by
    have := (qbhu Mem.none [(.sl 8)] [y0]).trans h0
    simp only [List.map_cons, List.map_nil, qob] at this
    split at this
    · rename_i hk; exact hk
    · cases this
  obtain ⟨a1, h1, g1⟩ := qbs2 f1
  have k1 : fitT Mem.none (.st [.l .b, .l (.i .u64), .l (.i .u64)]) y1 = true := qbr8 a1 ((qbhu Mem.none [.b, (.i .u64), (.i .u64)] y1.cells).trans h1)
  have hfit : fitS Dn.qf0 (ql [y0, y1]) Mem.none = true := by
    show (match qum (ql [y0, y1]) Mem.none Dn.qf0.ts with | true => true | false => false) = true
    have : qum (ql [y0, y1]) Mem.none Dn.qf0.ts = true := by
      exact qbiy (show fitT Mem.none _ ((ql [y0, y1]) 0) = true from k0) (qbiy (show fitT Mem.none _ ((ql [y0, y1]) 1) = true from k1) (rfl))
    rw [this]
  have law : Dn.qgc (gL [y0] 0) (gB y1.cells 0) (gI y1.cells 1) (gI y1.cells 2) = some true := by
    exact Dn.law46H _ (Dn.blksFit_of g0) _ _ _ g1.2.1 g1.2.2.1
  refine qbm7 Dn.q3l (fun K => ?_)
  show chk (fitS Dn.qf0 (ql [y0, y1]) Mem.none) (oB (Dn.qgc (gL [y0] 0) (gB y1.cells 0) (gI y1.cells 1) (gI y1.cells 2)) fun r => K (.bool r)) = K (.bool true)
  rw [hfit, law]; rfl
set_option maxRecDepth 100000 in
theorem lifted (os : Os) (started : os.Started) (H : Type) (enc : TypeId × Value → H) :
    ReturnsInHanded {} Try.checked os 7 .any (Rows.blocksHoldSpec.pre6 enc Try.prog Try.f7 Rows.blocksHoldRow.domain false) (Rows.blocksHoldSpec.post enc Try.prog Try.f7 false true false false) := by
  refine returnsInHanded_of_change_sized (C := Try.checked) own started (by kernel_rfl) Try.func7
    (ChangeSpec.witness6 (enc := enc) (C := Try.checked) false ⟨#[], #[.slice none 0 0, .agg #[.bool false, .int .u64 0, .int .u64 0]], []⟩ 8 (by kernel_rfl) (by kernel_rfl) (by kernel_rfl) (by kernel_rfl)) ?_
  intro W base args ds gs before hval0 hW hcnd hsz0 _
  have hval : ∀ (j : Nat) t v, Try.f7.params[j]? = some t → args[j]? = some v → Value.okWide Try.prog W .any base t v := hval0
  have hW' := hW
  obtain ⟨p, q, hA0, hV, rfl, hfz, hnd⟩ := hW
  have hA : DataW.TrodAll enc Try.prog W 0 (fun _ => true) true Try.f7.params.toList args.toList ds p := hA0
  rw [Try.params7] at hA hval
  obtain ⟨v0, vs0, d0, ds0, p0, q0, hargs, rfl, rfl, h0, r0⟩ := trodAll_cons hA
  obtain ⟨v1, vs1, d1, ds1, p1, q1, rfl, rfl, rfl, h1, r1⟩ := trodAll_cons r0
  obtain ⟨rfl, rfl, rfl⟩ := trodAll_nil r1
  obtain rfl : args = #[v0, v1] := by cases args; simp_all
  obtain ⟨rfl, rfl⟩ := trodVars_none hV
  have lt0 : ∀ x ∈ p0, x.block < W.heap.size := by obtain ⟨m, hm⟩ := h0; exact DataW.trod_lt m _ _ _ hm
  obtain ⟨y0, f0, c0⟩ := qblq qbtt (hval 0 22 v0 rfl rfl) h0
  have lt1 : ∀ x ∈ p1, x.block < W.heap.size := by obtain ⟨m, hm⟩ := h1; exact DataW.trod_lt m _ _ _ hm
  obtain ⟨y1, f1, c1⟩ := qblq qbtu (hval 1 30 v1 rfl rfl) h1
  clear hA0 hval0 hsz0
  refine (qbpd (asks y0 y1 f0 f1) rfl (qbif c0 (qbif c1 qbpe))).mono fun e W' ⟨he, bel⟩ => ?_
  subst he
  exact ⟨_, rfl, _, _, _, [], _, [], hW', trodAll_mk1 (shut_bool Try.underlying4 _), (trodAll_cons_mk (Below.trod laidOut (by kernel_rfl) (of_decide_eq_true (by kernel_rfl)) h0 bel lt0) (trodAll_cons_mk (Below.trod laidOut (by kernel_rfl) (of_decide_eq_true (by kernel_rfl)) h1 bel lt1) trodAll_mk0)), rfl, bel.frame _, fun h => by cases h⟩
theorem over : Rows.BlocksHoldSaid :=
  OpenClaim.holds_of_wide 7 Try.f7 rfl rfl rfl rfl rfl rfl rfl ⟨rfl, rfl, rfl, rfl, rfl⟩ rfl rfl rfl rfl rfl (by kernel_rfl) Try.func7 (by kernel_rfl)
    (of_decide_eq_true (by kernel_rfl)) (by unfold Func.isWrapper; first | (rw [if_pos (by decide +kernel)]; kernel_rfl) | (rw [if_neg (by decide +kernel)]; exact ⟨rfl, rfl⟩))
    (fun os started H enc _ => lifted os started H enc)
end Go.Proofs.Ytmjdngnagiloeaa.BlocksHoldRow
