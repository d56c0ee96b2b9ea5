/- PROVES the statement RolloverStays: for every input the law returns true, and the arguments read behind the call as_ before. No conditions. -/
import Derived.Test.YtmoedhehjonnhaaGreatDoorRows
import Derived.Test.YtmoedhehjonnhaaGreatDoorRyLw22r
import Derived.Test.YtmoedhehjonnhaaGreatDoorRyLibD
import Derived.Test.YtmoedhehjonnhaaGreatDoorTie
import Derived.Test.YtmoedhehjonnhaaGreatDoorCards
import Derived.ProofKit
import Derived.SizedLaws
import Derived.OpenShut
import Derived.LaidMore
import Derived.Stop.Joined
import Derived.SevenTiedAt
set_option linter.all false
namespace Go.Proofs.YtmoedhehjonnhaaGreatDoor.RolloverStaysRow
open Go Go.Pev Go.ChangeShapes Go.WideShapes Go.ChangeAt Go.RowKit
set_option linter.unusedVariables false
set_option linter.unusedSimpArgs false
theorem own : ownKnob Tryz.prog.godebug = none := by kernel_rfl
theorem laidOut : laidOutB Tryz.prog = true := by kernel_rfl
def ty3 : Ty := (.int .i64)
theorem has3 : tyOf Tryz.prog 12 3 = some ty3 := by kernel_rfl
def ty22 : Ty := (.sl 7 (.st [(.st [.str, .bool, (.int .i64)]), (.int .i64), (.int .i64), (.int .i64), (.int .i64)]))
theorem qbf8 : tyOf Tryz.prog 12 22 = some ty22 := by kernel_rfl
def ty38 : Ty := (.int .u32)
theorem qbf9 : tyOf Tryz.prog 12 38 = some ty38 := by kernel_rfl
theorem asks : ∀ (y0 : AV) (y1 : AV) (y2 : AV), (ty22).fitv y0 → (ty3).fitv y1 → (ty38).fitv y2 → qr2 Tryz.prog 5 [y0, y1, y2] (· = .bool true) := by
  intro y0 y1 y2 f0 f1 f2
  obtain ⟨h0, g0⟩ := q2a rfl f0
  have k0 : fitT Mem.none (.one (.l (.sl 7))) y0 = true := by
    have := (qw6 Mem.none [(.sl 7)] [y0]).trans h0
    simp only [List.map_cons, List.map_nil, qg7] at this
    split at this
    · rename_i hk; exact hk
    · cases this
  obtain ⟨h1, g1⟩ := q2a rfl f1
  have k1 : fitT Mem.none (.one (.l (.i .i64))) y1 = true := by
    have := (qw6 Mem.none [(.i .i64)] [y1]).trans h1
    simp only [List.map_cons, List.map_nil, qg7] at this
    split at this
    · rename_i hk; exact hk
    · cases this
  obtain ⟨h2, g2⟩ := q2a rfl f2
  have k2 : fitT Mem.none (.one (.l (.i .u32))) y2 = true := by
    have := (qw6 Mem.none [(.i .u32)] [y2]).trans h2
    simp only [List.map_cons, List.map_nil, qg7] at this
    split at this
    · rename_i hk; exact hk
    · cases this
  have hfit : fitS Dn.S115_ (qda [y0, y1, y2]) Mem.none = true := by
    show (match qlr (qda [y0, y1, y2]) Mem.none Dn.S115_.ts with | true => true | false => false) = true
    have : qlr (qda [y0, y1, y2]) Mem.none Dn.S115_.ts = true := by
      exact qwr (show fitT Mem.none _ ((qda [y0, y1, y2]) 0) = true from k0) (qwr (show fitT Mem.none _ ((qda [y0, y1, y2]) 1) = true from k1) (qwr (show fitT Mem.none _ ((qda [y0, y1, y2]) 2) = true from k2) (rfl)))
    rw [this]
  have law : Dn.qe3 (gL [y0] 0) (gI [y1] 0) (gI [y2] 0) = some true := by
    exact Dn.law_RolloverStays _ _ _ g0.1 (fun y hy => (g0.2 y hy).1) g2
  refine q67 Dn.qo4.h (fun K => ?_)
  show chk (fitS Dn.S115_ (qda [y0, y1, y2]) Mem.none) (oB (Dn.qe3 (gL [y0] 0) (gI [y1] 0) (gI [y2] 0)) fun r => K (.bool r)) = K (.bool true)
  rw [hfit, law]; rfl
noncomputable def q3l (os : Os) : World :=
  let w0 := World.holding Tryz.prog os ⟨#[], #[], []⟩
  let put (h : Array Obj) (g : Nat) (cs : Array Value) : Array Obj := h.modify g fun
    | .cells _ t frozen => .cells cs t frozen
    | o => o
  let h1 := put w0.heap 4 ([0, 1, 28, 2, 29, 14, 24, 3, 30, 22, 20, 15, 25, 17, 4, 8, 31, 27, 13, 23, 21, 19, 16, 7, 26, 12, 18, 6, 11, 5, 10, 9].map fun (z : Nat) => Value.int .u8 z).toArray
  let h2 := put h1 5 ([0, 1, 56, 2, 57, 49, 28, 3, 61, 58, 42, 50, 38, 29, 17, 4, 62, 47, 59, 36, 45, 43, 51, 22, 53, 39, 33, 30, 24, 18, 12, 5, 63, 55, 48, 27, 60, 41, 37, 16, 46, 35, 44, 21, 52, 32, 23, 11, 54, 26, 40, 15, 34, 20, 31, 10, 25, 14, 19, 9, 13, 8, 7, 6].map fun (z : Nat) => Value.int .u8 z).toArray
  let h3 := put h2 0 (qz3 Lib.pow10Tab)
  let h4 := put h3 3 ((List.range 16).flatMap fun i => [Value.int .u8 (if i = 0 then 128 else if i = 1 then 160 else if i = 2 then 128 else if i = 3 then 144 else if i = 4 then 128 else 0), Value.int .u8 (if i = 0 then 191 else if i = 1 then 191 else if i = 2 then 159 else if i = 3 then 191 else if i = 4 then 143 else 0)]).toArray
  let h5 := put h4 2 (Pinned.utf8FirstZ.map fun (z : Nat) => Value.int .u8 z).toArray
  { w0 with heap := h5 }
theorem qbcj (os : Os) (args : Array Value) : laidMetH Tryz.prog Rows.rolloverStaysRow.laid ((q3l os).forCall (fun _ _ => 0) ⟨#[], args, []⟩).memory :=
  laidMetH_of_parts3 (fuel := 8) (laidMet_of_run' 8 (by kernel_rfl) (by kernel_rfl)) (by kernel_rfl) (by kernel_rfl)
set_option maxRecDepth 100000 in
theorem lifted (os : Os) (started : os.Started) (H : Type) (enc : TypeId × Value → H) :
    ReturnsInHanded {} Tryz.checked os 5 .any (fun w args => (Rows.rolloverStaysSpec.pre enc Tryz.prog Tryz.f5 [] false w args ∧ laidMetH Tryz.prog Rows.rolloverStaysRow.laid w) ∧ sizedMet enc Tryz.prog Tryz.f5 (OpenSpec.ofChange Rows.rolloverStaysSpec) false w args) (Rows.rolloverStaysSpec.post enc Tryz.prog Tryz.f5 false true false false) := by
  refine returnsInHanded_of_change_and (C := Tryz.checked) (X := fun w _ => laidMetH Tryz.prog Rows.rolloverStaysRow.laid w) (fun _ _ _ hh h => h.of_heap hh) own started (by kernel_rfl) Tryz.func5
    (ChangeSpec.witness_at (enc := enc) (C := Tryz.checked) (os := os) (X := fun w _ => laidMetH Tryz.prog Rows.rolloverStaysRow.laid w) false (q3l os) #[.slice none 0 0, .int .i64 0, .int .u32 0] 8 rfl (by kernel_rfl) (by kernel_rfl) (by kernel_rfl) (by kernel_rfl) (by kernel_rfl) (qbcj os _)) ?_
  intro W base args ds gs before hval0 hW _ hsz0 hX1 hX2
  have hval : ∀ (j : Nat) t v, Tryz.f5.params[j]? = some t → args[j]? = some v → Value.okWide Tryz.prog W .any base t v := hval0
  have hW' := hW
  obtain ⟨p, q, hA0, hV, rfl, hfz, hnd⟩ := hW
  have hA : DataW.TrodAll enc Tryz.prog W 0 (fun _ => true) true Tryz.f5.params.toList args.toList ds p := hA0
  rw [Tryz.params5] at hA hval
  obtain ⟨v0, vs0, d0, ds0, p0, q0, hargs, rfl, rfl, h0, r0⟩ := trodAll_cons hA
  obtain ⟨v1, vs1, d1, ds1, p1, q1, rfl, rfl, rfl, h1, r1⟩ := trodAll_cons r0
  obtain ⟨v2, vs2, d2, ds2, p2, q2, rfl, rfl, rfl, h2, r2⟩ := trodAll_cons r1
  obtain ⟨rfl, rfl, rfl⟩ := trodAll_nil r2
  obtain rfl : args = #[v0, v1, v2] := by cases args; simp_all
  obtain ⟨rfl, rfl⟩ := trodVars_none hV
  have lt0 : ∀ x ∈ p0, x.block < W.heap.size := by obtain ⟨m, hm⟩ := h0; exact DataW.trod_lt m _ _ _ hm
  obtain ⟨y0, f0, c0⟩ := qzg qbf8 (hval 0 22 v0 rfl rfl) h0
  have lt1 : ∀ x ∈ p1, x.block < W.heap.size := by obtain ⟨m, hm⟩ := h1; exact DataW.trod_lt m _ _ _ hm
  obtain ⟨y1, f1, c1⟩ := qzg has3 (hval 1 3 v1 rfl rfl) h1
  have lt2 : ∀ x ∈ p2, x.block < W.heap.size := by obtain ⟨m, hm⟩ := h2; exact DataW.trod_lt m _ _ _ hm
  obtain ⟨y2, f2, c2⟩ := qzg qbf9 (hval 2 38 v2 rfl rfl) h2
  have htw : q7z W := by
    have h1 : laidMetH Tryz.prog Rows.rolloverStaysRow.laid W := by first | exact hX1 | exact hX2
    have h2 := laidMetH.filter (fun x => x.1 == "internal/strconv.uint64pow10") h1
    have e1 : (Rows.rolloverStaysRow.laid.filter fun x => x.1 == "internal/strconv.uint64pow10") = [("internal/strconv.uint64pow10", Lib.tabData .u64 Lib.pow10Tab)] := by kernel_rfl
    rw [e1] at h2
    have h3 : laidMet Tryz.prog [("internal/strconv.uint64pow10", Lib.tabData .u64 Lib.pow10Tab)] W := (laidMetH_iff.1 h2).1
    exact qbbp (by kernel_rfl) (Lib.tabIs_of_head (g := 0) (t := 153) (e := 57) (n := 20) (by kernel_rfl) (by kernel_rfl) (by kernel_rfl) (by kernel_rfl) (by kernel_rfl) (by kernel_rfl) h3)
  clear hA0 hval0 hsz0
  refine (q9m (asks y0 y1 y2 f0 f1 f2) rfl (qv9 c0 (qv9 c1 (qv9 c2 q9n))) htw).mono fun e W' ⟨he, bel⟩ => ?_
  subst he
  exact ⟨_, rfl, _, _, _, [], _, [], hW', trodAll_mk1 (shut_bool Tryz.underlying4 _), (trodAll_cons_mk (Below.trod laidOut (by kernel_rfl) (of_decide_eq_true (by kernel_rfl)) h0 bel lt0) (trodAll_cons_mk (Below.trod laidOut (by kernel_rfl) (of_decide_eq_true (by kernel_rfl)) h1 bel lt1) (trodAll_cons_mk (Below.trod laidOut (by kernel_rfl) (of_decide_eq_true (by kernel_rfl)) h2 bel lt2) trodAll_mk0))), rfl, bel.frame _, fun h => by cases h⟩
theorem qba1 : Rows.RolloverStaysSaid :=
  OpenClaim.holds_of_wide 5 Tryz.f5 rfl rfl rfl rfl rfl rfl rfl ⟨rfl, rfl, rfl, rfl, rfl⟩ rfl rfl rfl rfl rfl (by kernel_rfl) Tryz.func5 (by kernel_rfl)
    (of_decide_eq_true (by kernel_rfl)) (by unfold Func.isWrapper; first | (rw [if_pos (by decide +kernel)]; kernel_rfl) | (rw [if_neg (by decide +kernel)]; exact ⟨rfl, rfl⟩))
    (fun os started H enc _ => lifted os started H enc)
theorem over : Rows.RolloverStaysCardSaid :=
  Claim7.holds_tied_plain_at .later [] [.data, .data, .data, .data, .pinned] true (true, "2491601c12b85b6bdb41ab1badfd15ac348b79fafd239d6fb52f3a9c86f8ade3") false
    qba1 (fun _ h => by cases h) (by kernel_rfl) (fun _ h => by cases h) rolloverStays_row_tie rfl ⟨rfl, rfl⟩ (by kernel_rfl) rfl
    (fun f fn hf hfn => by
      obtain rfl : f = 5 := Option.some.inj ((show Tryz.prog.funcNamed "ddi/ddilaw22.RolloverStays" = some 5 by kernel_rfl).symm.trans hf) |>.symm
      obtain rfl : fn = Tryz.f5 := (Option.some.inj (Tryz.func5.symm.trans hfn)).symm
      exact ⟨by kernel_rfl, fun j t ht => by
        rw [Tryz.params5] at ht
        have w3 : Tryz.prog.wantsStandIn 3 = false := by kernel_rfl
        have w22 : Tryz.prog.wantsStandIn 22 = false := by kernel_rfl
        have w38 : Tryz.prog.wantsStandIn 38 = false := by kernel_rfl
        rcases j with _ | j
        · have : t = 22 := by simpa using ht.symm
          subst this; exact w22
        rcases j with _ | j
        · have : t = 3 := by simpa using ht.symm
          subst this; exact w3
        rcases j with _ | j
        · have : t = 38 := by simpa using ht.symm
          subst this; exact w38
        · simp at ht⟩)
    (by kernel_rfl)
end Go.Proofs.YtmoedhehjonnhaaGreatDoor.RolloverStaysRow
