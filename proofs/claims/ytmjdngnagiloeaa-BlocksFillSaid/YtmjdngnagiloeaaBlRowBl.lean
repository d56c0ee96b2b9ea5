/- PROVES the statement BlocksFill: for every input the law returns true, and the arguments read behind the call as_ before. No conditions. -/
import Derived.Test.YtmjdngnagiloeaaRows
import Derived.Test.YtmjdngnagiloeaaBlLw46x
import Derived.Test.YtmjdngnagiloeaaBlLibD
import Derived.ProofKit
import Derived.SizedLaws
import Derived.OpenShut
set_option linter.all false
namespace Go.Proofs.Ytmjdngnagiloeaa.BlocksFillRow
open Go Go.Pev Go.ChangeShapes Go.WideShapes Go.ChangeAt Go.RowKit
set_option linter.unusedVariables false
set_option linter.unusedSimpArgs false
theorem own : ownKnob Try.prog.godebug = none := by kernel_rfl
theorem laidOut : laidOutB Try.prog = true := by kernel_rfl
def ty5 : Ty := (.int .u8)
theorem has5 : tyOf Try.prog 12 5 = some ty5 := by kernel_rfl
def ty22 : Ty := (.sl 8 (.st [(.st [(.st [.bool, (.int .u64), (.int .u64)]), (.int .i64)]), (.int .i64), .str, .str, (.int .i64)]))
theorem qbwp : tyOf Try.prog 12 22 = some ty22 := by kernel_rfl
def ty28 : Ty := (.int .u64)
theorem qbwq : tyOf Try.prog 12 28 = some ty28 := by kernel_rfl
theorem asks : ∀ (y0 : AV) (y1 : AV) (y2 : AV), (ty22).fitv y0 → (ty5).fitv y1 → (ty28).fitv y2 → q5t Try.prog 9 [y0, y1, y2] (· = .bool true) := by
  intro y0 y1 y2 f0 f1 f2
  obtain ⟨h0, g0⟩ := qbke rfl f0
  have k0 : fitT Mem.none (.one (.l (.sl 8))) y0 = true := by
    have := (qbbu Mem.none [(.sl 8)] [y0]).trans h0
    simp only [List.map_cons, List.map_nil, qn9] at this
    split at this
    · rename_i hk; exact hk
    · cases this
  obtain ⟨h1, g1⟩ := qbke rfl f1
  have k1 : fitT Mem.none (.one (.l (.i .u8))) y1 = true := by
    have := (qbbu Mem.none [(.i .u8)] [y1]).trans h1
    simp only [List.map_cons, List.map_nil, qn9] at this
    split at this
    · rename_i hk; exact hk
    · cases this
  obtain ⟨h2, g2⟩ := qbke rfl f2
  have k2 : fitT Mem.none (.one (.l (.i .u64))) y2 = true := by
    have := (qbbu Mem.none [(.i .u64)] [y2]).trans h2
    simp only [List.map_cons, List.map_nil, qn9] at this
    split at this
    · rename_i hk; exact hk
    · cases this
  have hfit : fitS Dn.qgi (qm [y0, y1, y2]) Mem.none = true := by
    show (match qv6 (qm [y0, y1, y2]) Mem.none Dn.qgi.ts with | true => true | false => false) = true
    have : qv6 (qm [y0, y1, y2]) Mem.none Dn.qgi.ts = true := by
      exact qbbe (show fitT Mem.none _ ((qm [y0, y1, y2]) 0) = true from k0) (qbbe (show fitT Mem.none _ ((qm [y0, y1, y2]) 1) = true from k1) (qbbe (show fitT Mem.none _ ((qm [y0, y1, y2]) 2) = true from k2) (rfl)))
    rw [this]
  have law : Dn.qgx (gL [y0] 0) (gI [y1] 0) (gI [y2] 0) = some true := by
    exact Dn.law46L _ (Dn.blksFit_of g0) _ g1 _ g2
  refine qbpr Dn.q5q (fun K => ?_)
  show chk (fitS Dn.qgi (qm [y0, y1, y2]) Mem.none) (oB (Dn.qgx (gL [y0] 0) (gI [y1] 0) (gI [y2] 0)) fun r => K (.bool r)) = K (.bool true)
  rw [hfit, law]; rfl
set_option maxRecDepth 100000 in
theorem lifted (os : Os) (started : os.Started) (H : Type) (enc : TypeId × Value → H) :
    ReturnsInHanded {} Try.checked os 9 .any (Rows.blocksFillSpec.pre6 enc Try.prog Try.f9 Rows.blocksFillRow.domain false) (Rows.blocksFillSpec.post enc Try.prog Try.f9 false true false false) := by
  refine returnsInHanded_of_change_sized (C := Try.checked) own started (by kernel_rfl) Try.func9
    (ChangeSpec.witness6 (enc := enc) (C := Try.checked) false ⟨#[], #[.slice none 0 0, .int .u8 0, .int .u64 0], []⟩ 8 (by kernel_rfl) (by kernel_rfl) (by kernel_rfl) (by kernel_rfl)) ?_
  intro W base args ds gs before hval0 hW hcnd hsz0 _
  have hval : ∀ (j : Nat) t v, Try.f9.params[j]? = some t → args[j]? = some v → Value.okWide Try.prog W .any base t v := hval0
  have hW' := hW
  obtain ⟨p, q, hA0, hV, rfl, hfz, hnd⟩ := hW
  have hA : DataW.TrodAll enc Try.prog W 0 (fun _ => true) true Try.f9.params.toList args.toList ds p := hA0
  rw [Try.params9] at hA hval
  obtain ⟨v0, vs0, d0, ds0, p0, q0, hargs, rfl, rfl, h0, r0⟩ := trodAll_cons hA
  obtain ⟨v1, vs1, d1, ds1, p1, q1, rfl, rfl, rfl, h1, r1⟩ := trodAll_cons r0
  obtain ⟨v2, vs2, d2, ds2, p2, q2, rfl, rfl, rfl, h2, r2⟩ := trodAll_cons r1
  obtain ⟨rfl, rfl, rfl⟩ := trodAll_nil r2
  obtain rfl : args = #[v0, v1, v2] := by cases args; simp_all
  obtain ⟨rfl, rfl⟩ := trodVars_none hV
  have lt0 : ∀ x ∈ p0, x.block < W.heap.size := by obtain ⟨m, hm⟩ := h0; exact DataW.trod_lt m _ _ _ hm
  obtain ⟨y0, f0, c0⟩ := qbfk qbwp (hval 0 22 v0 rfl rfl) h0
  have lt1 : ∀ x ∈ p1, x.block < W.heap.size := by obtain ⟨m, hm⟩ := h1; exact DataW.trod_lt m _ _ _ hm
  obtain ⟨y1, f1, c1⟩ := qbfk has5 (hval 1 5 v1 rfl rfl) h1
  have lt2 : ∀ x ∈ p2, x.block < W.heap.size := by obtain ⟨m, hm⟩ := h2; exact DataW.trod_lt m _ _ _ hm
  obtain ⟨y2, f2, c2⟩ := qbfk qbwq (hval 2 28 v2 rfl rfl) h2
  clear hA0 hval0 hsz0
  refine (qbrz (asks y0 y1 y2 f0 f1 f2) rfl (qbaz c0 (qbaz c1 (qbaz c2 qbr0)))).mono fun e W' ⟨he, bel⟩ => ?_
  subst he
  exact ⟨_, rfl, _, _, _, [], _, [], hW', trodAll_mk1 (shut_bool Try.underlying4 _), (trodAll_cons_mk (Below.trod laidOut (by kernel_rfl) (of_decide_eq_true (by kernel_rfl)) h0 bel lt0) (trodAll_cons_mk (Below.trod laidOut (by kernel_rfl) (of_decide_eq_true (by kernel_rfl)) h1 bel lt1) (trodAll_cons_mk (Below.trod laidOut (by kernel_rfl) (of_decide_eq_true (by kernel_rfl)) h2 bel lt2) trodAll_mk0))), rfl, bel.frame _, fun h => by cases h⟩
theorem over : Rows.BlocksFillSaid :=
  OpenClaim.holds_of_wide 9 Try.f9 rfl rfl rfl rfl rfl rfl rfl ⟨rfl, rfl, rfl, rfl, rfl⟩ rfl rfl rfl rfl rfl (by kernel_rfl) Try.func9 (by kernel_rfl)
    (of_decide_eq_true (by kernel_rfl)) (by unfold Func.isWrapper; first | (rw [if_pos (by decide +kernel)]; kernel_rfl) | (rw [if_neg (by decide +kernel)]; exact ⟨rfl, rfl⟩))
    (fun os started H enc _ => lifted os started H enc)
end Go.Proofs.Ytmjdngnagiloeaa.BlocksFillRow
