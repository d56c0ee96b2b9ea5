/- PROVES the statement BlocksStay: for every input the law returns true, and the arguments read behind the call as before. No conditions. -/
import Derived.Test.YtmjdngnagiloeaaRows
import Derived.Test.YtmjdngnagiloeaaBsLw46u
import Derived.Test.YtmjdngnagiloeaaBsLibD
import Derived.ProofKit
import Derived.SizedLaws
import Derived.OpenShut
set_option linter.all false
namespace Go.Proofs.Ytmjdngnagiloeaa.BlocksStayRow
open Go Go.Pev Go.ChangeShapes Go.WideShapes Go.ChangeAt Go.RowKit
set_option linter.unusedVariables false
set_option linter.unusedSimpArgs false
theorem own : ownKnob Try.prog.godebug = none := by kernel_rfl
theorem laidOut : laidOutB Try.prog = true := by kernel_rfl
def ty22 : Ty := (.sl 8 (.st [(.st [(.st [.bool, (.int .u64), (.int .u64)]), (.int .i64)]), (.int .i64), .str, .str, (.int .i64)]))
theorem qbup : tyOf Try.prog 12 22 = some ty22 := by kernel_rfl
def ty32 : Ty := (.st [(.st [.bool, (.int .u64), (.int .u64)]), (.int .i64)])
theorem qbuq : tyOf Try.prog 12 32 = some ty32 := by kernel_rfl
def ty34 : Ty := (.st [(.st [(.st [.bool, (.int .u64), (.int .u64)]), (.int .i64)]), (.int .i64), .str, .str, (.int .i64)])
theorem qbur : tyOf Try.prog 12 34 = some ty34 := by kernel_rfl
theorem asks : ∀ (y0 : AV) (y1 : AV) (y2 : AV), (ty22).fitv y0 → (ty34).fitv y1 → (ty32).fitv y2 → q39 Try.prog 6 [y0, y1, y2] (· = .bool true) := by
  intro y0 y1 y2 f0 f1 f2
  obtain ⟨h0, g0⟩ := qbs2 rfl f0
  have k0 : fitT Mem.none (.one (.l (.sl 8))) y0 = true := by
    have := (qbai Mem.none [(.sl 8)] [y0]).trans h0
    simp only [List.map_cons, List.map_nil, qoe] at this
    split at this
    · rename_i hk; exact hk
    · cases this
  obtain ⟨a1, h1, g1⟩ := qbqj f1
  have k1 : fitT Mem.none (.st [.l .b, .l (.i .u64), .l (.i .u64), .l (.i .i64), .l (.i .i64), .l .s, .l .s, .l (.i .i64)]) y1 = true := qboe a1 ((qbai Mem.none [.b, (.i .u64), (.i .u64), (.i .i64), (.i .i64), .s, .s, (.i .i64)] y1.cells).trans h1)
  obtain ⟨a2, h2, g2⟩ := qbqj f2
  have k2 : fitT Mem.none (.st [.l .b, .l (.i .u64), .l (.i .u64), .l (.i .i64)]) y2 = true := qboe a2 ((qbai Mem.none [.b, (.i .u64), (.i .u64), (.i .i64)] y2.cells).trans h2)
  have hfit : fitS Dn.qfw (ql [y0, y1, y2]) Mem.none = true := by
    show (match qu1 (ql [y0, y1, y2]) Mem.none Dn.qfw.ts with | true => true | false => false) = true
    have : qu1 (ql [y0, y1, y2]) Mem.none Dn.qfw.ts = true := by
      exact q92 (show fitT Mem.none _ ((ql [y0, y1, y2]) 0) = true from k0) (q92 (show fitT Mem.none _ ((ql [y0, y1, y2]) 1) = true from k1) (q92 (show fitT Mem.none _ ((ql [y0, y1, y2]) 2) = true from k2) (rfl)))
    rw [this]
  have law : Dn.qf5 (gL [y0] 0) (gB y1.cells 0) (gI y1.cells 1) (gI y1.cells 2) (gI y1.cells 3) (gI y1.cells 4) (gS y1.cells 5) (gS y1.cells 6) (gI y1.cells 7) (gB y2.cells 0) (gI y2.cells 1) (gI y2.cells 2) (gI y2.cells 3) = some true := by
    exact Dn.law46S _ (Dn.blksFit_of g0) _ _ _ _ _ _ _ _ ⟨rfl, g1.1.1.2.1, g1.1.1.2.2.1, g1.2.2.1, g1.2.2.2.1⟩ _ _ _ _ g2.1.2.1 g2.1.2.2.1
  refine qbnx Dn.q36 (fun K => ?_)
  show chk (fitS Dn.qfw (ql [y0, y1, y2]) Mem.none) (oB (Dn.qf5 (gL [y0] 0) (gB y1.cells 0) (gI y1.cells 1) (gI y1.cells 2) (gI y1.cells 3) (gI y1.cells 4) (gS y1.cells 5) (gS y1.cells 6) (gI y1.cells 7) (gB y2.cells 0) (gI y2.cells 1) (gI y2.cells 2) (gI y2.cells 3)) fun r => K (.bool r)) = K (.bool true)
  rw [hfit, law]; rfl
set_option maxRecDepth 100000 in
theorem lifted (os : Os) (started : os.Started) (H : Type) (enc : TypeId × Value → H) :
    ReturnsInHanded {} Try.checked os 6 .any (Rows.blocksStaySpec.pre6 enc Try.prog Try.f6 Rows.blocksStayRow.domain false) (Rows.blocksStaySpec.post enc Try.prog Try.f6 false true false false) := by
  refine returnsInHanded_of_change_sized (C := Try.checked) own started (by kernel_rfl) Try.func6
    (ChangeSpec.witness6 (enc := enc) (C := Try.checked) false ⟨#[], #[.slice none 0 0, .agg #[.bool false, .int .u64 0, .int .u64 0, .int .i64 0, .int .i64 0, .string ⟨#[]⟩, .string ⟨#[]⟩, .int .i64 0], .agg #[.bool false, .int .u64 0, .int .u64 0, .int .i64 0]], []⟩ 8 (by kernel_rfl) (by kernel_rfl) (by kernel_rfl) (by kernel_rfl)) ?_
  intro W base args ds gs before hval0 hW hcnd hsz0 _
  have hval : ∀ (j : Nat) t v, Try.f6.params[j]? = some t → args[j]? = some v → Value.okWide Try.prog W .any base t v := hval0
  have hW' := hW
  obtain ⟨p, q, hA0, hV, rfl, hfz, hnd⟩ := hW
  have hA : DataW.TrodAll enc Try.prog W 0 (fun _ => true) true Try.f6.params.toList args.toList ds p := hA0
  rw [Try.params6] at hA hval
  obtain ⟨v0, vs0, d0, ds0, p0, q0, hargs, rfl, rfl, h0, r0⟩ := trodAll_cons hA
  obtain ⟨v1, vs1, d1, ds1, p1, q1, rfl, rfl, rfl, h1, r1⟩ := trodAll_cons r0
  obtain ⟨v2, vs2, d2, ds2, p2, q2, rfl, rfl, rfl, h2, r2⟩ := trodAll_cons r1
  obtain ⟨rfl, rfl, rfl⟩ := trodAll_nil r2
  obtain rfl : args = #[v0, v1, v2] := by cases args; simp_all
  obtain ⟨rfl, rfl⟩ := trodVars_none hV
  have lt0 : ∀ x ∈ p0, x.block < W.heap.size := by obtain ⟨m, hm⟩ := h0; exact DataW.trod_lt m _ _ _ hm
  obtain ⟨y0, f0, c0⟩ := qbd6 qbup (hval 0 22 v0 rfl rfl) h0
  have lt1 : ∀ x ∈ p1, x.block < W.heap.size := by obtain ⟨m, hm⟩ := h1; exact DataW.trod_lt m _ _ _ hm
  obtain ⟨y1, f1, c1⟩ := qbd6 qbur (hval 1 34 v1 rfl rfl) h1
  have lt2 : ∀ x ∈ p2, x.block < W.heap.size := by obtain ⟨m, hm⟩ := h2; exact DataW.trod_lt m _ _ _ hm
  obtain ⟨y2, f2, c2⟩ := qbd6 qbuq (hval 2 32 v2 rfl rfl) h2
  clear hA0 hval0 hsz0
  refine (qbp6 (asks y0 y1 y2 f0 f1 f2) rfl (q9n c0 (q9n c1 (q9n c2 qbp7)))).mono fun e W' ⟨he, bel⟩ => ?_
  subst he
  exact ⟨_, rfl, _, _, _, [], _, [], hW', trodAll_mk1 (shut_bool Try.underlying4 _), (trodAll_cons_mk (Below.trod laidOut (by kernel_rfl) (of_decide_eq_true (by kernel_rfl)) h0 bel lt0) (trodAll_cons_mk (Below.trod laidOut (by kernel_rfl) (of_decide_eq_true (by kernel_rfl)) h1 bel lt1) (trodAll_cons_mk (Below.trod laidOut (by kernel_rfl) (of_decide_eq_true (by kernel_rfl)) h2 bel lt2) trodAll_mk0))), rfl, bel.frame _, fun h => by cases h⟩
theorem over : Rows.BlocksStaySaid :=
  OpenClaim.holds_of_wide 6 Try.f6 rfl rfl rfl rfl rfl rfl rfl ⟨rfl, rfl, rfl, rfl, rfl⟩ rfl rfl rfl rfl rfl (by kernel_rfl) Try.func6 (by kernel_rfl)
    (of_decide_eq_true (by kernel_rfl)) (by unfold Func.isWrapper; first | (rw [if_pos (by decide +kernel)]; kernel_rfl) | (rw [if_neg (by decide +kernel)]; exact ⟨rfl, rfl⟩))
    (fun os started H enc _ => lifted os started H enc)
end Go.Proofs.Ytmjdngnagiloeaa.BlocksStayRow
