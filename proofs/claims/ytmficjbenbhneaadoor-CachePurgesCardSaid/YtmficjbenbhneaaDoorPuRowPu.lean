/- PROVES the statement CachePurges: for every input the law returns true, and the arguments read behind the call as_ before. No conditions. -/
import Derived.Test.YtmficjbenbhneaaDoorRows
import Derived.Test.YtmficjbenbhneaaDoorPuLw29u
import Derived.Test.YtmficjbenbhneaaDoorPuLibD
import Derived.Test.YtmficjbenbhneaaDoorTie
import Derived.Test.YtmficjbenbhneaaDoorCards
import Derived.ProofKit
import Derived.SizedLaws
import Derived.OpenShut
import Derived.LaidMore
import Derived.Stop.Joined
import Derived.SevenTiedAt
set_option linter.all false
namespace Go.Proofs.YtmficjbenbhneaaDoor.CachePurgesRow
open Go Go.Pev Go.ChangeShapes Go.WideShapes Go.ChangeAt Go.RowKit
set_option linter.unusedVariables false
set_option linter.unusedSimpArgs false
theorem own : ownKnob Tryd.prog.godebug = none := by kernel_rfl
theorem laidOut : laidOutB Tryd.prog = true := by kernel_rfl
def ty3 : Ty := (.int .i64)
theorem has3 : tyOf Tryd.prog 12 3 = some ty3 := by kernel_rfl
def ty22 : Ty := (.sl 11 (.st [(.int .i64), (.st [.str, (.int .i64), (.int .i64), (.sl 13 (.st [(.st [.bool, (.int .u64), (.int .u64)]), .str, .str, .str, (.int .i64), (.int .i64), (.int .i64), (.int .i64), (.int .i64), (.int .i64), (.int .u64)]))]), (.st [.str, (.int .i64)]), .bool, (.int .i64), (.int .i64), (.int .i64)]))
theorem qbie : tyOf Tryd.prog 12 22 = some ty22 := by kernel_rfl
def ty40 : Ty := (.st [.str, (.int .i64)])
theorem qbif : tyOf Tryd.prog 12 40 = some ty40 := by kernel_rfl
theorem asks : ∀ (y0 : AV) (y1 : AV) (y2 : AV), (ty22).fitv y0 → (ty40).fitv y1 → (ty3).fitv y2 → qr6 Tryd.prog 6 [y0, y1, y2] (· = .bool true) := by
  intro y0 y1 y2 f0 f1 f2
  obtain ⟨h0, g0⟩ := q9t rfl f0
  have k0 : fitT Mem.none (.one (.l (.sl 11))) y0 = true := by
    have := (qxt Mem.none [(.sl 11)] [y0]).trans h0
    simp only [List.map_cons, List.map_nil, qgb] at this
    split at this
    · rename_i hk; exact hk
    · cases this
  obtain ⟨a1, h1, g1⟩ := qbhh f1
  have k1 : fitT Mem.none (.st [.l .s, .l (.i .i64)]) y1 = true := qbf5 a1 ((qxt Mem.none [.s, (.i .i64)] y1.cells).trans h1)
  obtain ⟨h2, g2⟩ := q9t rfl f2
  have k2 : fitT Mem.none (.one (.l (.i .i64))) y2 = true := by
    have := (qxt Mem.none [(.i .i64)] [y2]).trans h2
    simp only [List.map_cons, List.map_nil, qgb] at this
    split at this
    · rename_i hk; exact hk
    · cases this
  have hfit : fitS Dn.S88_ (qem [y0, y1, y2]) Mem.none = true := by
    show (match qle (qem [y0, y1, y2]) Mem.none Dn.S88_.ts with | true => true | false => false) = true
    have : qle (qem [y0, y1, y2]) Mem.none Dn.S88_.ts = true := by
      exact qxe (show fitT Mem.none _ ((qem [y0, y1, y2]) 0) = true from k0) (qxe (show fitT Mem.none _ ((qem [y0, y1, y2]) 1) = true from k1) (qxe (show fitT Mem.none _ ((qem [y0, y1, y2]) 2) = true from k2) (rfl)))
    rw [this]
  have law : Dn.qek (gL [y0] 0) (gS y1.cells 0) (gI y1.cells 1) (gI [y2] 0) = some true := by
    exact Dn.law_CachePurges _ (Dn.actsFit_of g0) _ _ _ g2.2
  refine q9a Dn.qrn.h (fun K => ?_)
  show chk (fitS Dn.S88_ (qem [y0, y1, y2]) Mem.none) (oB (Dn.qek (gL [y0] 0) (gS y1.cells 0) (gI y1.cells 1) (gI [y2] 0)) fun r => K (.bool r)) = K (.bool true)
  rw [hfit, law]; rfl
noncomputable def q5l (os : Os) : World :=
  let w0 := World.holding Tryd.prog os ⟨#[], #[], []⟩
  let put (h : Array Obj) (g : Nat) (cs : Array Value) : Array Obj := h.modify g fun
    | .cells _ t frozen => .cells cs t frozen
    | o => o
  let h1 := put w0.heap 2 ((List.range 16).flatMap fun i => [Value.int .u8 (if i = 0 then 128 else if i = 1 then 160 else if i = 2 then 128 else if i = 3 then 144 else if i = 4 then 128 else 0), Value.int .u8 (if i = 0 then 191 else if i = 1 then 191 else if i = 2 then 159 else if i = 3 then 191 else if i = 4 then 143 else 0)]).toArray
  let h2 := put h1 1 (Pinned.utf8FirstZ.map fun (z : Nat) => Value.int .u8 z).toArray
  { w0 with heap := h2 }
theorem qbes (os : Os) (args : Array Value) : laidMetH Tryd.prog Rows.cachePurgesRow.laid ((q5l os).forCall (fun _ _ => 0) ⟨#[], args, []⟩).memory :=
  laidMetH_of_parts3 (fuel := 8) (laidMet_of_run' 8 (by kernel_rfl) (by kernel_rfl)) (by kernel_rfl) (by kernel_rfl)
set_option maxRecDepth 100000 in
theorem lifted (os : Os) (started : os.Started) (H : Type) (enc : TypeId × Value → H) :
    ReturnsInHanded {} Tryd.checked os 6 .any (fun w args => (Rows.cachePurgesSpec.pre enc Tryd.prog Tryd.f6 [] false w args ∧ laidMetH Tryd.prog Rows.cachePurgesRow.laid w) ∧ sizedMet enc Tryd.prog Tryd.f6 (OpenSpec.ofChange Rows.cachePurgesSpec) false w args) (Rows.cachePurgesSpec.post enc Tryd.prog Tryd.f6 false true false false) := by
  refine returnsInHanded_of_change_and (C := Tryd.checked) (X := fun w _ => laidMetH Tryd.prog Rows.cachePurgesRow.laid w) (fun _ _ _ hh h => h.of_heap hh) own started (by kernel_rfl) Tryd.func6
    (ChangeSpec.witness_at (enc := enc) (C := Tryd.checked) (os := os) (X := fun w _ => laidMetH Tryd.prog Rows.cachePurgesRow.laid w) false (q5l os) #[.slice none 0 0, .agg #[.string ⟨#[]⟩, .int .i64 0], .int .i64 0] 8 rfl (by kernel_rfl) (by kernel_rfl) (by kernel_rfl) (by kernel_rfl) (by kernel_rfl) (qbes os _)) ?_
  intro W base args ds gs before hval0 hW _ hsz0 _ _
  have hval : ∀ (j : Nat) t v, Tryd.f6.params[j]? = some t → args[j]? = some v → Value.okWide Tryd.prog W .any base t v := hval0
  have hW' := hW
  obtain ⟨p, q, hA0, hV, rfl, hfz, hnd⟩ := hW
  have hA : DataW.TrodAll enc Tryd.prog W 0 (fun _ => true) true Tryd.f6.params.toList args.toList ds p := hA0
  rw [Tryd.params6] at hA hval
  obtain ⟨v0, vs0, d0, ds0, p0, q0, hargs, rfl, rfl, h0, r0⟩ := trodAll_cons hA
  obtain ⟨v1, vs1, d1, ds1, p1, q1, rfl, rfl, rfl, h1, r1⟩ := trodAll_cons r0
  obtain ⟨v2, vs2, d2, ds2, p2, q2, rfl, rfl, rfl, h2, r2⟩ := trodAll_cons r1
  obtain ⟨rfl, rfl, rfl⟩ := trodAll_nil r2
  obtain rfl : args = #[v0, v1, v2] := by cases args; simp_all
  obtain ⟨rfl, rfl⟩ := trodVars_none hV
  have lt0 : ∀ x ∈ p0, x.block < W.heap.size := by obtain ⟨m, hm⟩ := h0; exact DataW.trod_lt m _ _ _ hm
  obtain ⟨y0, f0, c0⟩ := q0b qbie (hval 0 22 v0 rfl rfl) h0
  have lt1 : ∀ x ∈ p1, x.block < W.heap.size := by obtain ⟨m, hm⟩ := h1; exact DataW.trod_lt m _ _ _ hm
  obtain ⟨y1, f1, c1⟩ := q0b qbif (hval 1 40 v1 rfl rfl) h1
  have lt2 : ∀ x ∈ p2, x.block < W.heap.size := by obtain ⟨m, hm⟩ := h2; exact DataW.trod_lt m _ _ _ hm
  obtain ⟨y2, f2, c2⟩ := q0b has3 (hval 2 3 v2 rfl rfl) h2
  clear hA0 hval0 hsz0
  refine (qbb8 (asks y0 y1 y2 f0 f1 f2) rfl (qwv c0 (qwv c1 (qwv c2 qbb9)))).mono fun e W' ⟨he, bel⟩ => ?_
  subst he
  exact ⟨_, rfl, _, _, _, [], _, [], hW', trodAll_mk1 (shut_bool Tryd.underlying4 _), (trodAll_cons_mk (Below.trod laidOut (by kernel_rfl) (of_decide_eq_true (by kernel_rfl)) h0 bel lt0) (trodAll_cons_mk (Below.trod laidOut (by kernel_rfl) (of_decide_eq_true (by kernel_rfl)) h1 bel lt1) (trodAll_cons_mk (Below.trod laidOut (by kernel_rfl) (of_decide_eq_true (by kernel_rfl)) h2 bel lt2) trodAll_mk0))), rfl, bel.frame _, fun h => by cases h⟩
theorem qbdg : Rows.CachePurgesSaid :=
  OpenClaim.holds_of_wide 6 Tryd.f6 rfl rfl rfl rfl rfl rfl rfl ⟨rfl, rfl, rfl, rfl, rfl⟩ rfl rfl rfl rfl rfl (by kernel_rfl) Tryd.func6 (by kernel_rfl)
    (of_decide_eq_true (by kernel_rfl)) (by unfold Func.isWrapper; first | (rw [if_pos (by decide +kernel)]; kernel_rfl) | (rw [if_neg (by decide +kernel)]; exact ⟨rfl, rfl⟩))
    (fun os started H enc _ => lifted os started H enc)
theorem over : Rows.CachePurgesCardSaid :=
  Claim7.holds_tied_plain_at .later [] [.data, .pinned] true (true, "ee3040eb3db5c2505c5cbaf23a73818475d171723b0ef53d58f172bca2db5c5a") false
    qbdg (fun _ h => by cases h) (by kernel_rfl) (fun _ h => by cases h) cachePurges_row_tie rfl ⟨rfl, rfl⟩ (by kernel_rfl) rfl
    (fun f fn hf hfn => by
      obtain rfl : f = 6 := Option.some.inj ((show Tryd.prog.funcNamed "ddi/ddilaw29.CachePurges" = some 6 by kernel_rfl).symm.trans hf) |>.symm
      obtain rfl : fn = Tryd.f6 := (Option.some.inj (Tryd.func6.symm.trans hfn)).symm
      exact ⟨by kernel_rfl, fun j t ht => by
        rw [Tryd.params6] at ht
        have w3 : Tryd.prog.wantsStandIn 3 = false := by kernel_rfl
        have w22 : Tryd.prog.wantsStandIn 22 = false := by kernel_rfl
        have w40 : Tryd.prog.wantsStandIn 40 = false := by kernel_rfl
        rcases j with _ | j
        · have : t = 22 := by simpa using ht.symm
          subst this; exact w22
        rcases j with _ | j
        · have : t = 40 := by simpa using ht.symm
          subst this; exact w40
        rcases j with _ | j
        · have : t = 3 := by simpa using ht.symm
          subst this; exact w3
        · simp at ht⟩)
    (by kernel_rfl)
end Go.Proofs.YtmficjbenbhneaaDoor.CachePurgesRow
