/- PROVES the statement AllocateFree: for every input the law returns true, and the arguments read behind the call as_ before. No conditions. -/
import Derived.Test.YtmfghgaboaocgaaRows
import Derived.Test.YtmfghgaboaocgaaFrLw47g
import Derived.Test.YtmfghgaboaocgaaFrLibD
import Derived.ProofKit
import Derived.SizedLaws
import Derived.OpenShut
set_option linter.all false
namespace Go.Proofs.Ytmfghgaboaocgaa.AllocateFreeRow
open Go Go.Pev Go.ChangeShapes Go.WideShapes Go.ChangeAt Go.RowKit
set_option linter.unusedVariables false
set_option linter.unusedSimpArgs false
theorem own : ownKnob Try.prog.godebug = none := by kernel_rfl
theorem laidOut : laidOutB Try.prog = true := by kernel_rfl
def ty22 : Ty := (.sl 8 (.st [(.st [(.st [.bool, (.int .u64), (.int .u64)]), (.int .i64)]), (.int .i64), .str, .str, (.int .i64)]))
theorem qbsd : tyOf Try.prog 12 22 = some ty22 := by kernel_rfl
def ty39 : Ty := (.st [(.st [(.st [.bool, (.int .u64), (.int .u64)]), (.int .i64)]), (.int .i64), (.int .i64), .str, .str])
theorem qbse : tyOf Try.prog 12 39 = some ty39 := by kernel_rfl
theorem asks : ∀ (y0 : AV) (y1 : AV), (ty22).fitv y0 → (ty39).fitv y1 → q24 Try.prog 5 [y0, y1] (· = .bool true) := by
  intro y0 y1 f0 f1
  obtain ⟨h0, g0⟩ := qbqv rfl f0
  have k0 : fitT Mem.none (.one (.l (.sl 8))) y0 = true := by
    have := (qbgu Mem.none [(.sl 8)] [y0]).trans h0
    simp only [List.map_cons, List.map_nil, qn9] at this
    split at this
    · rename_i hk; exact hk
    · cases this
  obtain ⟨a1, h1, g1⟩ := qbrp f1
  have k1 : fitT Mem.none (.st [.l .b, .l (.i .u64), .l (.i .u64), .l (.i .i64), .l (.i .i64), .l (.i .i64), .l .s, .l .s]) y1 = true := qbqw a1 ((qbgu Mem.none [.b, (.i .u64), (.i .u64), (.i .i64), (.i .i64), (.i .i64), .s, .s] y1.cells).trans h1)
  have hfit : fitS Dn.qfh (qk [y0, y1]) Mem.none = true := by
    show (match qu4 (qk [y0, y1]) Mem.none Dn.qfh.ts with | true => true | false => false) = true
    have : qu4 (qk [y0, y1]) Mem.none Dn.qfh.ts = true := by
      exact qbhu (show fitT Mem.none _ ((qk [y0, y1]) 0) = true from k0) (qbhu (show fitT Mem.none _ ((qk [y0, y1]) 1) = true from k1) (rfl))
    rw [this]
  have law : Dn.qfk (gL [y0] 0) (gB y1.cells 0) (gI y1.cells 1) (gI y1.cells 2) (gI y1.cells 3) (gI y1.cells 4) (gI y1.cells 5) (gS y1.cells 6) (gS y1.cells 7) = some true := by
    exact Dn.law47F _ (Dn.blksFit_of g0) _ _ _ _ g1.1.1.2.1 g1.1.1.2.2.1 _ _ _ _
  refine qblu Dn.q01 (fun K => ?_)
  show chk (fitS Dn.qfh (qk [y0, y1]) Mem.none) (oB (Dn.qfk (gL [y0] 0) (gB y1.cells 0) (gI y1.cells 1) (gI y1.cells 2) (gI y1.cells 3) (gI y1.cells 4) (gI y1.cells 5) (gS y1.cells 6) (gS y1.cells 7)) fun r => K (.bool r)) = K (.bool true)
  rw [hfit, law]; rfl
set_option maxRecDepth 100000 in
theorem lifted (os : Os) (started : os.Started) (H : Type) (enc : TypeId × Value → H) :
    ReturnsInHanded {} Try.checked os 5 .any (Rows.allocateFreeSpec.pre6 enc Try.prog Try.f5 Rows.allocateFreeRow.domain false) (Rows.allocateFreeSpec.post enc Try.prog Try.f5 false true false false) := by
  refine returnsInHanded_of_change_sized (C := Try.checked) own started (by kernel_rfl) Try.func5
    (ChangeSpec.witness6 (enc := enc) (C := Try.checked) false ⟨#[], #[.slice none 0 0, .agg #[.bool false, .int .u64 0, .int .u64 0, .int .i64 0, .int .i64 0, .int .i64 0, .string ⟨#[]⟩, .string ⟨#[]⟩]], []⟩ 8 (by kernel_rfl) (by kernel_rfl) (by kernel_rfl) (by kernel_rfl)) ?_
  intro W base args ds gs before hval0 hW hcnd hsz0 _
  have hval : ∀ (j : Nat) t v, Try.f5.params[j]? = some t → args[j]? = some v → Value.okWide Try.prog W .any base t v := hval0
  have hW' := hW
  obtain ⟨p, q, hA0, hV, rfl, hfz, hnd⟩ := hW
  have hA : DataW.TrodAll enc Try.prog W 0 (fun _ => true) true Try.f5.params.toList args.toList ds p := hA0
  rw [Try.params5] at hA hval
  obtain ⟨v0, vs0, d0, ds0, p0, q0, hargs, rfl, rfl, h0, r0⟩ := trodAll_cons hA
  obtain ⟨v1, vs1, d1, ds1, p1, q1, rfl, rfl, rfl, h1, r1⟩ := trodAll_cons r0
  obtain ⟨rfl, rfl, rfl⟩ := trodAll_nil r1
  obtain rfl : args = #[v0, v1] := by cases args; simp_all
  obtain ⟨rfl, rfl⟩ := trodVars_none hV
  have lt0 : ∀ x ∈ p0, x.block < W.heap.size := by obtain ⟨m, hm⟩ := h0; exact DataW.trod_lt m _ _ _ hm
  obtain ⟨y0, f0, c0⟩ := qbkb qbsd (hval 0 22 v0 rfl rfl) h0
  have lt1 : ∀ x ∈ p1, x.block < W.heap.size := by obtain ⟨m, hm⟩ := h1; exact DataW.trod_lt m _ _ _ hm
  obtain ⟨y1, f1, c1⟩ := qbkb qbse (hval 1 39 v1 rfl rfl) h1
  clear hA0 hval0 hsz0
  refine (qbn2 (asks y0 y1 f0 f1) rfl (qbhc c0 (qbhc c1 qbn3))).mono fun e W' ⟨he, bel⟩ => ?_
  subst he
  exact ⟨_, rfl, _, _, _, [], _, [], hW', trodAll_mk1 (shut_bool Try.underlying4 _), (trodAll_cons_mk (Below.trod laidOut (by kernel_rfl) (of_decide_eq_true (by kernel_rfl)) h0 bel lt0) (trodAll_cons_mk (Below.trod laidOut (by kernel_rfl) (of_decide_eq_true (by kernel_rfl)) h1 bel lt1) trodAll_mk0)), rfl, bel.frame _, fun h => by cases h⟩
theorem over : Rows.AllocateFreeSaid :=
  OpenClaim.holds_of_wide 5 Try.f5 rfl rfl rfl rfl rfl rfl rfl ⟨rfl, rfl, rfl, rfl, rfl⟩ rfl rfl rfl rfl rfl (by kernel_rfl) Try.func5 (by kernel_rfl)
    (of_decide_eq_true (by kernel_rfl)) (by unfold Func.isWrapper; first | (rw [if_pos (by decide +kernel)]; kernel_rfl) | (rw [if_neg (by decide +kernel)]; exact ⟨rfl, rfl⟩))
    (fun os started H enc _ => lifted os started H enc)
end Go.Proofs.Ytmfghgaboaocgaa.AllocateFreeRow
