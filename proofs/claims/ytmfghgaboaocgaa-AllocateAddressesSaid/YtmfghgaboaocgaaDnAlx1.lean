import Derived.Test.YtmfghgaboaocgaaProg
import Derived.Test.YtmfghgaboaocgaaLibC
set_option linter.all false
namespace Go.Proofs.Ytmfghgaboaocgaa.Dn
open Go Go.Pev
set_option linter.unusedVariables false
set_option linter.unusedSimpArgs false
set_option maxRecDepth 100000
set_option maxHeartbeats 4000000
theorem tabOk : Tab.ok (TIof Try.prog) Try.prog := fun _ _ h => h
theorem follows : Try.prog.follows .mixedOrders = true := by kernel_rfl
/-! ddi/ddilaw47.sampled -/
def dec_ddilaw47_sampled (z : AV) : Option AV := cond (fitRV (.st [.b, (.i .u64), (.i .u64), (.i .i64)]) z) (some (z)) none
def enc_ddilaw47_sampled (r : AV) : AV := etaRV (.st [.b, (.i .u64), (.i .u64), (.i .i64)]) r
def shp_ddilaw47_sampled : Shp := ⟨[], []⟩
noncomputable def ddilaw47_sampled_i : Option AV :=
  (some (.agg [(.bool false), (.int .u64 (0 : Int)), (.int .u64 (256 : Int)), (.int .i64 (24 : Int))]))
noncomputable def ddilaw47_sampled := hull ddilaw47_sampled_i
theorem ddilaw47_sampled_eq : ddilaw47_sampled = ddilaw47_sampled_i := hull_eq _
noncomputable def a_ddilaw47_sampled : AC AV :=
  .seq (.reg [.op ⟨(some 0), (.alloc [(.bool false), (.int .u64 0), (.int .u64 0), (.int .i64 0)]), none⟩]) (.seq (.reg [.op ⟨(some 1), (.build [(.bool false), (.int .u64 0), (.int .u64 0)] [(2, (1, (.c (.int .u64 256))))]), none⟩,
    .op ⟨(some 2), (.build [(.bool false), (.int .u64 0), (.int .u64 0), (.int .i64 0)] [(0, (3, (.t 1))), (3, (1, (.c (.int .i64 24))))]), none⟩,
    .op ⟨none, (.store 4 (.t 0) (.t 2)), none⟩]) (.ret))
theorem ok_ddilaw47_sampled : AC.ok Try.prog (TIof Try.prog) 3 0 (kret [(.cell 0 true 4)] dec_ddilaw47_sampled) a_ddilaw47_sampled := (And.intro True.intro (And.intro True.intro True.intro))
theorem t_ddilaw47_sampled : den 0 (kret [(.cell 0 true 4)] dec_ddilaw47_sampled) a_ddilaw47_sampled (envOf []) (memOf []) (kend (kret [(.cell 0 true 4)] dec_ddilaw47_sampled)) = ddilaw47_sampled := by
  rw [ddilaw47_sampled_eq]; kernel_rfl
theorem c_ddilaw47_sampled : cFn (TIof Try.prog) Try.f28 = some ⟨3, [(.cell 0 true 4)], scOf a_ddilaw47_sampled⟩ := by kernel_rfl
noncomputable def ent_ddilaw47_sampled {R : Type} (xs : List AV) (K : AV → Option R) : Option R := chk (fitS shp_ddilaw47_sampled (entry xs) Mem.none) (oB (ddilaw47_sampled) fun r => K (enc_ddilaw47_sampled r))
theorem k_ddilaw47_sampled {R : Type} : EntOkB Try.prog 28 (ent_ddilaw47_sampled (R := R)) :=
  ent_of (F := fun xs => ddilaw47_sampled) (enc := enc_ddilaw47_sampled) tabOk follows Try.func28 (by kernel_rfl) c_ddilaw47_sampled (fun z r h => by
    obtain ⟨h1, h2⟩ := cond_some h
    cases h2
    exact (etaRV_eq h1).symm) ok_ddilaw47_sampled (er_of (by kernel_rfl)) shp_ddilaw47_sampled (fun xs => t_ddilaw47_sampled) (fun xs K r h => by
    unfold ent_ddilaw47_sampled at h
    exact ⟨(chk_some h).1, oB_some (chk_some h).2⟩)

/-! ddi/ddilaw47.sample -/
def dec_ddilaw47_sample (z : AV) : Option (List AV) := cond (fitRV (.one (.fr true 8)) z) (some (aL z)) none
def enc_ddilaw47_sample (r : (List AV)) : AV := .fr true 8 r
def shp_ddilaw47_sample : Shp := ⟨[], []⟩
noncomputable def ddilaw47_sample_i : Option (List AV) :=
  (oB (ddilaw47_sampled) fun r1 => (bif hd ([(.agg [(.bool (gB r1.cells 0)), (.int .u64 (gI r1.cells 1)), (.int .u64 (gI r1.cells 2)), (.int .i64 (gI r1.cells 3)), (.int .i64 (1 : Int)), (.str ([99] : List UInt8)), (.str ([] : List UInt8)), (.int .i64 (0 : Int))]), (.agg [(.bool false), (.int .u64 (0 : Int)), (.int .u64 (288 : Int)), (.int .i64 (27 : Int)), (.int .i64 (2 : Int)), (.str ([115] : List UInt8)), (.str ([] : List UInt8)), (.int .i64 (0 : Int))])] : List AV) (([(.agg [(.bool (gB r1.cells 0)), (.int .u64 (gI r1.cells 1)), (.int .u64 (gI r1.cells 2)), (.int .i64 (gI r1.cells 3)), (.int .i64 (1 : Int)), (.str ([99] : List UInt8)), (.str ([] : List UInt8)), (.int .i64 (0 : Int))]), (.agg [(.bool false), (.int .u64 (0 : Int)), (.int .u64 (288 : Int)), (.int .i64 (27 : Int)), (.int .i64 (2 : Int)), (.str ([115] : List UInt8)), (.str ([] : List UInt8)), (.int .i64 (0 : Int))])] : List AV).length) then (some ([(.agg [(.bool (gB r1.cells 0)), (.int .u64 (gI r1.cells 1)), (.int .u64 (gI r1.cells 2)), (.int .i64 (gI r1.cells 3)), (.int .i64 (1 : Int)), (.str ([99] : List UInt8)), (.str ([] : List UInt8)), (.int .i64 (0 : Int))]), (.agg [(.bool false), (.int .u64 (0 : Int)), (.int .u64 (288 : Int)), (.int .i64 (27 : Int)), (.int .i64 (2 : Int)), (.str ([115] : List UInt8)), (.str ([] : List UInt8)), (.int .i64 (0 : Int))])] : List AV)) else none))
noncomputable def ddilaw47_sample := hull ddilaw47_sample_i
theorem ddilaw47_sample_eq : ddilaw47_sample = ddilaw47_sample_i := hull_eq _
noncomputable def a_ddilaw47_sample : AC (List AV) :=
  .seq (.reg [.op ⟨(some 0), (.mv (.c .nils)), none⟩]) (.seq (.reg [.call ⟨(some 1), (.call 28 []), none⟩ 28 ent_ddilaw47_sampled,
    .op ⟨(some 2), (.build [(.bool false), (.int .u64 0), (.int .u64 0), (.int .i64 0), (.int .i64 0), (.str []), (.str []), (.int .i64 0)] [(0, (4, (.t 1))), (4, (1, (.c (.int .i64 1)))), (5, (1, (.c (.str [99]))))]), none⟩,
    .op ⟨(some 3), (.build [(.bool false), (.int .u64 0), (.int .u64 0)] [(2, (1, (.c (.int .u64 288))))]), none⟩,
    .op ⟨(some 4), (.build [(.bool false), (.int .u64 0), (.int .u64 0), (.int .i64 0)] [(0, (3, (.t 3))), (3, (1, (.c (.int .i64 27))))]), none⟩,
    .op ⟨(some 5), (.build [(.bool false), (.int .u64 0), (.int .u64 0), (.int .i64 0), (.int .i64 0), (.str []), (.str []), (.int .i64 0)] [(0, (4, (.t 4))), (4, (1, (.c (.int .i64 2)))), (5, (1, (.c (.str [115]))))]), none⟩,
    .op ⟨(some 6), (.bsl 8 [(.t 2), (.t 5)]), none⟩,
    .op ⟨(some 0), (.mv (.t 6)), none⟩]) (.ret))
theorem ok_ddilaw47_sample : AC.ok Try.prog (TIof Try.prog) 7 0 (kret [(.t 0)] dec_ddilaw47_sample) a_ddilaw47_sample := (And.intro True.intro (And.intro (And.intro (EntOkB.ok k_ddilaw47_sampled) True.intro) True.intro))
theorem t_ddilaw47_sample : den 0 (kret [(.t 0)] dec_ddilaw47_sample) a_ddilaw47_sample (envOf []) (memOf []) (kend (kret [(.t 0)] dec_ddilaw47_sample)) = ddilaw47_sample := by
  rw [ddilaw47_sample_eq]; kernel_rfl
theorem c_ddilaw47_sample : cFn (TIof Try.prog) Try.f10 = some ⟨7, [(.t 0)], scOf a_ddilaw47_sample⟩ := by kernel_rfl
noncomputable def ent_ddilaw47_sample {R : Type} (xs : List AV) (K : AV → Option R) : Option R := chk (fitS shp_ddilaw47_sample (entry xs) Mem.none) (oB (ddilaw47_sample) fun r => K (enc_ddilaw47_sample r))
theorem k_ddilaw47_sample {R : Type} : EntOkB Try.prog 10 (ent_ddilaw47_sample (R := R)) :=
  ent_of (F := fun xs => ddilaw47_sample) (enc := enc_ddilaw47_sample) tabOk follows Try.func10 (by kernel_rfl) c_ddilaw47_sample (fun z r h => by
    obtain ⟨h1, h2⟩ := cond_some h
    cases h2
    exact (etaRV_eq h1).symm) ok_ddilaw47_sample (er_of (by kernel_rfl)) shp_ddilaw47_sample (fun xs => t_ddilaw47_sample) (fun xs K r h => by
    unfold ent_ddilaw47_sample at h
    exact ⟨(chk_some h).1, oB_some (chk_some h).2⟩)

def T_api_Block : List LT := [.b, (.i .u64), (.i .u64), (.i .i64), (.i .i64), .s, .s, (.i .i64)]

/-! ddi/blocks.index$1 -/
def shp_blocks_index_1 : Shp := ⟨[(0, .st [(.l .b), (.l (.i .u64)), (.l (.i .u64)), (.l (.i .i64)), (.l (.i .i64)), (.l .s), (.l .s), (.l (.i .i64))]), (1, .one (.ptr 0 0))], [.box true [(.l .b), (.l (.i .u64)), (.l (.i .u64)), (.l (.i .i64))]]⟩
noncomputable def blocks_index_1_i {R : Type}  (v0_0 : Bool) (v0_1 : Int) (v0_2 : Int) (v0_3 : Int) (v0_4 : Int) (v0_5 : List UInt8) (v0_6 : List UInt8) (v0_7 : Int) (b0_0 : Bool) (b0_1 : Int) (b0_2 : Int) (b0_3 : Int) (kr : Bool → Bool → Int → Int → Int → Option R) : Option R :=
  (kr ((v0_0 == b0_0) && ((v0_1 == b0_1) && ((v0_2 == b0_2) && ((v0_3 == b0_3) && true)))) b0_0 b0_1 b0_2 b0_3)
noncomputable def blocks_index_1 {R : Type} := hull (blocks_index_1_i (R := R))
theorem blocks_index_1_eq {R : Type} : blocks_index_1 (R := R) = blocks_index_1_i := hull_eq _
noncomputable def a_blocks_index_1 {R : Type} (KK : AV → Mem → Option R) : AC R :=
  .seq (.reg [.op ⟨(some 2), (.box (.t 0)), none⟩,
    .op ⟨(some 3), (.mv (.c (.bool false))), none⟩]) (.seq (.reg [.op ⟨(some 4), (.fa 0 (.t 2)), none⟩,
    .op ⟨(some 5), (.load true 4 (.t 4)), none⟩,
    .op ⟨(some 6), (.load true 4 (.t 1)), none⟩,
    .op ⟨(some 7), (.eq false true [.b, (.i .u64), (.i .u64), (.i .i64)] (.t 5) (.t 6)), none⟩,
    .op ⟨(some 3), (.mv (.t 7)), none⟩]) (.seq (.view [.sel [3] [0]]) (.ret)))
theorem ok_blocks_index_1 {R : Type} (KK : AV → Mem → Option R) : AC.ok Try.prog (TIof Try.prog) 8 1 (kretr [(.t 3)] KK) (a_blocks_index_1 KK) := (And.intro True.intro (And.intro True.intro (And.intro True.intro True.intro)))
theorem t_blocks_index_1 {R : Type} (KK : AV → Mem → Option R) (v0_0 : Bool) (v0_1 : Int) (v0_2 : Int) (v0_3 : Int) (v0_4 : Int) (v0_5 : List UInt8) (v0_6 : List UInt8) (v0_7 : Int) (b0_0 : Bool) (b0_1 : Int) (b0_2 : Int) (b0_3 : Int) : den 1 (kretr [(.t 3)] KK) (a_blocks_index_1 KK) (envOf [(0, (.agg [(.bool v0_0), (.int .u64 v0_1), (.int .u64 v0_2), (.int .i64 v0_3), (.int .i64 v0_4), (.str v0_5), (.str v0_6), (.int .i64 v0_7)])), (1, (.ptr 0 0))]) (memOf [(some (.box true [(.bool b0_0), (.int .u64 b0_1), (.int .u64 b0_2), (.int .i64 b0_3)]))]) (kend (kretr [(.t 3)] KK)) = blocks_index_1 v0_0 v0_1 v0_2 v0_3 v0_4 v0_5 v0_6 v0_7 b0_0 b0_1 b0_2 b0_3 (fun v3 b0_0 b0_1 b0_2 b0_3 => KK (.bool v3) (memOf [(some (.box true [(.bool b0_0), (.int .u64 b0_1), (.int .u64 b0_2), (.int .i64 b0_3)]))])) := by
  rw [blocks_index_1_eq]; kernel_rfl
theorem c_blocks_index_1 : cFn (TIof Try.prog) Try.f98 = some ⟨8, [(.t 3)], scOf (a_blocks_index_1 (R := Unit) (fun _ _ => none))⟩ := by kernel_rfl
theorem r_blocks_index_1 {R : Type} (KK : AV → Mem → Option R) : (a_blocks_index_1 KK).er = some (scOf (a_blocks_index_1 (R := Unit) (fun _ _ => none))) := by kernel_rfl
noncomputable def e_blocks_index_1 {R : Type} (xs : List AV) (m : Mem) (KK : AV → Mem → Option R) : Option R := chk (fitS0 shp_blocks_index_1 (entry xs) m) (cond (hdS shp_blocks_index_1 (entry xs) m) (blocks_index_1 (gB ((entry xs) 0).cells 0) (gI ((entry xs) 0).cells 1) (gI ((entry xs) 0).cells 2) (gI ((entry xs) 0).cells 3) (gI ((entry xs) 0).cells 4) (gS ((entry xs) 0).cells 5) (gS ((entry xs) 0).cells 6) (gI ((entry xs) 0).cells 7) (gB (bxC (m.s 0)) 0) (gI (bxC (m.s 0)) 1) (gI (bxC (m.s 0)) 2) (gI (bxC (m.s 0)) 3) (fun v3 b0_0 b0_1 b0_2 b0_3 => KK (.bool v3) (memOf [(some (.box true [(.bool b0_0), (.int .u64 b0_1), (.int .u64 b0_2), (.int .i64 b0_3)]))]))) none)
theorem k_blocks_index_1 {R : Type} : RefOk Try.prog 98 (e_blocks_index_1 (R := R)) :=
  refs_of (ac := fun KK => a_blocks_index_1 KK) tabOk follows Try.func98 (by kernel_rfl) c_blocks_index_1 (fun KK => ok_blocks_index_1 KK) (fun KK => r_blocks_index_1 KK) shp_blocks_index_1 rfl (fun xs m KK => congrArg (fun z => chk (fitS0 shp_blocks_index_1 (entry xs) m) (cond (hdS shp_blocks_index_1 (entry xs) m) z none)) (t_blocks_index_1 KK (gB ((entry xs) 0).cells 0) (gI ((entry xs) 0).cells 1) (gI ((entry xs) 0).cells 2) (gI ((entry xs) 0).cells 3) (gI ((entry xs) 0).cells 4) (gS ((entry xs) 0).cells 5) (gS ((entry xs) 0).cells 6) (gI ((entry xs) 0).cells 7) (gB (bxC (m.s 0)) 0) (gI (bxC (m.s 0)) 1) (gI (bxC (m.s 0)) 2) (gI (bxC (m.s 0)) 3)).symm)

/-! slices.IndexFunc[[]ddi/api.Block,ddi/api.Block] -/
def shp_slices_IndexFunc_api_Block_api_Block__blocks_index_1_L6 : Shp := ⟨[(0, .one (.l (.sl 8))), (1, .one (.fn 98 [(0, 0)])), (7, .one (.l (.i .i64))), (8, .one (.l (.i .i64)))], [.box true [(.l .b), (.l (.i .u64)), (.l (.i .u64)), (.l (.i .i64))]]⟩
noncomputable def slices_IndexFunc_api_Block_api_Block__blocks_index_1_L6_b {R : Type}  (v0 : List AV) (v7 : Int) (v8 : Int) (b0_0 : Bool) (b0_1 : Int) (b0_2 : Int) (b0_3 : Int) (next : Int → Bool → Int → Int → Int → Option R) (kx0 : Bool → Int → Int → Int → Option R) (kr : Int → Bool → Int → Int → Int → Option R) : Option R :=
  (bif (decide (v8 < v7)) then (oB (ixB v0 v8) fun y1 => (bif fitC T_api_Block y1.cells then (blocks_index_1 (gB y1.cells 0) (gI y1.cells 1) (gI y1.cells 2) (gI y1.cells 3) (gI y1.cells 4) (gS y1.cells 5) (gS y1.cells 6) (gI y1.cells 7) b0_0 b0_1 b0_2 b0_3 fun v3q2 b0_0q3 b0_1q4 b0_2q5 b0_3q6 => (bif v3q2 then (kr v8 b0_0q3 b0_1q4 b0_2q5 b0_3q6) else (next (IntKind.i64.wrap (v8 + (1 : Int))) b0_0q3 b0_1q4 b0_2q5 b0_3q6))) else none)) else (kx0 b0_0 b0_1 b0_2 b0_3))
noncomputable def slices_IndexFunc_api_Block_api_Block__blocks_index_1_L6_i {R : Type}  (v0 : List AV) (v7 : Int) (kx0 : Bool → Int → Int → Int → Option R) (kr : Int → Bool → Int → Int → Int → Option R) : Nat → Int → Bool → Int → Int → Int → Option R
  | 0 => (fun _ _ _ _ _ => none)
  | n + 1 => (fun v8 b0_0 b0_1 b0_2 b0_3 => slices_IndexFunc_api_Block_api_Block__blocks_index_1_L6_b v0 v7 v8 b0_0 b0_1 b0_2 b0_3 (slices_IndexFunc_api_Block_api_Block__blocks_index_1_L6_i v0 v7 kx0 kr n) kx0 kr)
noncomputable def slices_IndexFunc_api_Block_api_Block__blocks_index_1_L6 {R : Type} := hull (slices_IndexFunc_api_Block_api_Block__blocks_index_1_L6_i (R := R))
theorem slices_IndexFunc_api_Block_api_Block__blocks_index_1_L6_eq {R : Type} : slices_IndexFunc_api_Block_api_Block__blocks_index_1_L6 (R := R) = slices_IndexFunc_api_Block_api_Block__blocks_index_1_L6_i := hull_eq _
noncomputable def a_slices_IndexFunc_api_Block_api_Block__blocks_index_1_L6 {R : Type} (KK : AV → Mem → Option R) : AC R :=
  .seq (.reg [.op ⟨(some 9), (.bin .lss (.t 8) (.t 7)), none⟩]) (.seq (.cond (.t 9) (.skip) (.seq (.view [.sel [] [0]]) (.exit 0))) (.seq (.block 1 (.seq (.reg [.op ⟨(some 10), (.mv (.t 8)), none⟩,
    .op ⟨(some 5), (.mv (.t 10)), none⟩]) (.seq (.reg [.op ⟨(some 11), (.mv (.t 1)), none⟩,
    .op ⟨(some 12), (.mv (.t 0)), none⟩,
    .op ⟨(some 13), (.mv (.t 5)), none⟩,
    .op ⟨(some 14), (.ia 8 (.t 12) (.t 13)), none⟩,
    .st (.etac 14 T_api_Block),
    .op ⟨(some 15), (.load true 8 (.t 14)), none⟩,
    .st (.sel [0, 1, 5, 7, 8, 11, 15] [0]),
    .callr ⟨(some 16), (.callv (.t 11) [(.t 15)]), none⟩ 98 e_blocks_index_1]) (.cond (.t 16) (.seq (.reg [.op ⟨(some 17), (.mv (.t 5)), none⟩,
    .op ⟨(some 4), (.mv (.t 17)), none⟩]) (.seq (.view [.sel [4] [0]]) (.ret))) (.skip))))) (.seq (.reg [.op ⟨(some 18), (.bin .add (.t 8) (.c (.int .i64 1))), none⟩,
    .op ⟨(some 8), (.mv (.t 18)), none⟩]) (.view [.sel [0, 1, 7, 8] [0]]))))
theorem ok_slices_IndexFunc_api_Block_api_Block__blocks_index_1_L6 {R : Type} (KK : AV → Mem → Option R) : AC.ok Try.prog (TIof Try.prog) 19 1 (kretr [(.t 4)] KK) (a_slices_IndexFunc_api_Block_api_Block__blocks_index_1_L6 KK) := (And.intro True.intro (And.intro (And.intro True.intro (And.intro True.intro True.intro)) (And.intro (And.intro True.intro (And.intro (And.intro k_blocks_index_1 True.intro) (And.intro (And.intro True.intro (And.intro True.intro True.intro)) True.intro))) (And.intro True.intro True.intro))))
theorem t_slices_IndexFunc_api_Block_api_Block__blocks_index_1_L6_b {R : Type} (KK : AV → Mem → Option R) (v0 : List AV) (v7 : Int) (v8 : Int) (b0_0 : Bool) (b0_1 : Int) (b0_2 : Int) (b0_3 : Int) (K : Ex → Env → Mem → Option R) : den 1 (kretr [(.t 4)] KK) (a_slices_IndexFunc_api_Block_api_Block__blocks_index_1_L6 KK) (envOf [(0, (.sl 8 v0)), (1, (.func 98 [(.ptr 0 0)])), (7, (.int .i64 v7)), (8, (.int .i64 v8))]) (memOf [(some (.box true [(.bool b0_0), (.int .u64 b0_1), (.int .u64 b0_2), (.int .i64 b0_3)]))]) K = slices_IndexFunc_api_Block_api_Block__blocks_index_1_L6_b v0 v7 v8 b0_0 b0_1 b0_2 b0_3 (fun z_v8 z_b0_0 z_b0_1 z_b0_2 z_b0_3 => K .norm (envOf [(0, (.sl 8 v0)), (1, (.func 98 [(.ptr 0 0)])), (7, (.int .i64 v7)), (8, (.int .i64 z_v8))]) (memOf [(some (.box true [(.bool z_b0_0), (.int .u64 z_b0_1), (.int .u64 z_b0_2), (.int .i64 z_b0_3)]))])) (fun z_b0_0 z_b0_1 z_b0_2 z_b0_3 => K (.exit 0) (envOf []) (memOf [(some (.box true [(.bool z_b0_0), (.int .u64 z_b0_1), (.int .u64 z_b0_2), (.int .i64 z_b0_3)]))])) (fun v4 b0_0 b0_1 b0_2 b0_3 => KK (.int .i64 v4) (memOf [(some (.box true [(.bool b0_0), (.int .u64 b0_1), (.int .u64 b0_2), (.int .i64 b0_3)]))])) := by kernel_rfl
theorem t_slices_IndexFunc_api_Block_api_Block__blocks_index_1_L6 {R : Type} (KK : AV → Mem → Option R) (v0 : List AV) (v7 : Int) (K : Ex → Env → Mem → Option R) : ∀ (n : Nat) (v8 : Int) (b0_0 : Bool) (b0_1 : Int) (b0_2 : Int) (b0_3 : Int), iterD (den 1 (kretr [(.t 4)] KK) (a_slices_IndexFunc_api_Block_api_Block__blocks_index_1_L6 KK)) n (envOf [(0, (.sl 8 v0)), (1, (.func 98 [(.ptr 0 0)])), (7, (.int .i64 v7)), (8, (.int .i64 v8))]) (memOf [(some (.box true [(.bool b0_0), (.int .u64 b0_1), (.int .u64 b0_2), (.int .i64 b0_3)]))]) K = slices_IndexFunc_api_Block_api_Block__blocks_index_1_L6 v0 v7 (fun z_b0_0 z_b0_1 z_b0_2 z_b0_3 => K (.exit 0) (envOf []) (memOf [(some (.box true [(.bool z_b0_0), (.int .u64 z_b0_1), (.int .u64 z_b0_2), (.int .i64 z_b0_3)]))])) (fun v4 b0_0 b0_1 b0_2 b0_3 => KK (.int .i64 v4) (memOf [(some (.box true [(.bool b0_0), (.int .u64 b0_1), (.int .u64 b0_2), (.int .i64 b0_3)]))])) n v8 b0_0 b0_1 b0_2 b0_3 := by
  rw [slices_IndexFunc_api_Block_api_Block__blocks_index_1_L6_eq]
  intro n
  induction n with
  | zero => intros; rfl
  | succ n ih =>
    intro v8 b0_0 b0_1 b0_2 b0_3
    exact (t_slices_IndexFunc_api_Block_api_Block__blocks_index_1_L6_b KK v0 v7 v8 b0_0 b0_1 b0_2 b0_3 (itK (den 1 (kretr [(.t 4)] KK) (a_slices_IndexFunc_api_Block_api_Block__blocks_index_1_L6 KK)) n K)).trans (congrArg (fun q => slices_IndexFunc_api_Block_api_Block__blocks_index_1_L6_b v0 v7 v8 b0_0 b0_1 b0_2 b0_3 q (fun z_b0_0 z_b0_1 z_b0_2 z_b0_3 => K (.exit 0) (envOf []) (memOf [(some (.box true [(.bool z_b0_0), (.int .u64 z_b0_1), (.int .u64 z_b0_2), (.int .i64 z_b0_3)]))])) (fun v4 b0_0 b0_1 b0_2 b0_3 => KK (.int .i64 v4) (memOf [(some (.box true [(.bool b0_0), (.int .u64 b0_1), (.int .u64 b0_2), (.int .i64 b0_3)]))]))) (funext fun v8 => funext fun b0_0 => funext fun b0_1 => funext fun b0_2 => funext fun b0_3 => ih v8 b0_0 b0_1 b0_2 b0_3))
noncomputable def s_slices_IndexFunc_api_Block_api_Block__blocks_index_1_L6 {R : Type} (KK : AV → Mem → Option R) : Env → Mem → (Ex → Env → Mem → Option R) → Option R := fun t m K => chk (fitS0 shp_slices_IndexFunc_api_Block_api_Block__blocks_index_1_L6 t m) (cond (hdS shp_slices_IndexFunc_api_Block_api_Block__blocks_index_1_L6 t m) (slices_IndexFunc_api_Block_api_Block__blocks_index_1_L6 (gL [t 0] 0) (gI [t 7] 0) (fun z_b0_0 z_b0_1 z_b0_2 z_b0_3 => K (.exit 0) (envOf []) (memOf [(some (.box true [(.bool z_b0_0), (.int .u64 z_b0_1), (.int .u64 z_b0_2), (.int .i64 z_b0_3)]))])) (fun v4 b0_0 b0_1 b0_2 b0_3 => KK (.int .i64 v4) (memOf [(some (.box true [(.bool b0_0), (.int .u64 b0_1), (.int .u64 b0_2), (.int .i64 b0_3)]))])) FU (gI [t 8] 0) (gB (bxC (m.s 0)) 0) (gI (bxC (m.s 0)) 1) (gI (bxC (m.s 0)) 2) (gI (bxC (m.s 0)) 3)) none)
theorem o_slices_IndexFunc_api_Block_api_Block__blocks_index_1_L6 {R : Type} (KK : AV → Mem → Option R) : SubOk Try.prog (TIof Try.prog) 19 1 (kretr [(.t 4)] KK) (.loop (scOf (a_slices_IndexFunc_api_Block_api_Block__blocks_index_1_L6 KK))) (s_slices_IndexFunc_api_Block_api_Block__blocks_index_1_L6 KK) :=
  loop_of tabOk follows (ok_slices_IndexFunc_api_Block_api_Block__blocks_index_1_L6 KK) (er_of (by kernel_rfl)) shp_slices_IndexFunc_api_Block_api_Block__blocks_index_1_L6 (fun t m K => congrArg (fun z => chk (fitS0 shp_slices_IndexFunc_api_Block_api_Block__blocks_index_1_L6 t m) (cond (hdS shp_slices_IndexFunc_api_Block_api_Block__blocks_index_1_L6 t m) z none)) (t_slices_IndexFunc_api_Block_api_Block__blocks_index_1_L6 KK (gL [t 0] 0) (gI [t 7] 0) K FU (gI [t 8] 0) (gB (bxC (m.s 0)) 0) (gI (bxC (m.s 0)) 1) (gI (bxC (m.s 0)) 2) (gI (bxC (m.s 0)) 3)).symm)
def shp_slices_IndexFunc_api_Block_api_Block__blocks_index_1 : Shp := ⟨[(0, .one (.l (.sl 8))), (1, .one (.fn 98 [(0, 0)]))], [.box true [(.l .b), (.l (.i .u64)), (.l (.i .u64)), (.l (.i .i64))]]⟩
noncomputable def slices_IndexFunc_api_Block_api_Block__blocks_index_1_i {R : Type}  (v0 : List AV) (b0_0 : Bool) (b0_1 : Int) (b0_2 : Int) (b0_3 : Int) (kr : Int → Bool → Int → Int → Int → Option R) : Option R :=
  (slices_IndexFunc_api_Block_api_Block__blocks_index_1_L6 v0 (v0.length : Int) (fun b0_0 b0_1 b0_2 b0_3 => (kr (-1 : Int) b0_0 b0_1 b0_2 b0_3)) kr FU (0 : Int) b0_0 b0_1 b0_2 b0_3)
noncomputable def slices_IndexFunc_api_Block_api_Block__blocks_index_1 {R : Type} := hull (slices_IndexFunc_api_Block_api_Block__blocks_index_1_i (R := R))
theorem slices_IndexFunc_api_Block_api_Block__blocks_index_1_eq {R : Type} : slices_IndexFunc_api_Block_api_Block__blocks_index_1 (R := R) = slices_IndexFunc_api_Block_api_Block__blocks_index_1_i := hull_eq _
noncomputable def a_slices_IndexFunc_api_Block_api_Block__blocks_index_1 {R : Type} (KK : AV → Mem → Option R) : AC R :=
  .seq (.reg [.op ⟨(some 4), (.mv (.c (.int .i64 0))), none⟩]) (.seq (.seq (.reg [.op ⟨(some 6), (.mv (.t 0)), none⟩,
    .op ⟨(some 7), (.len false (.t 6)), none⟩,
    .op ⟨(some 8), (.mv (.c (.int .i64 0))), none⟩]) (.block 0 (.seq (.view [.sel [0, 1, 7, 8] [0]]) (.sub (.loop (scOf (a_slices_IndexFunc_api_Block_api_Block__blocks_index_1_L6 KK))) (s_slices_IndexFunc_api_Block_api_Block__blocks_index_1_L6 KK))))) (.seq (.reg [.op ⟨(some 4), (.mv (.c (.int .i64 (-1)))), none⟩]) (.seq (.view [.sel [4] [0]]) (.ret))))
theorem ok_slices_IndexFunc_api_Block_api_Block__blocks_index_1 {R : Type} (KK : AV → Mem → Option R) : AC.ok Try.prog (TIof Try.prog) 19 1 (kretr [(.t 4)] KK) (a_slices_IndexFunc_api_Block_api_Block__blocks_index_1 KK) := (And.intro True.intro (And.intro (And.intro True.intro (And.intro True.intro (o_slices_IndexFunc_api_Block_api_Block__blocks_index_1_L6 KK))) (And.intro True.intro (And.intro True.intro True.intro))))
theorem t_slices_IndexFunc_api_Block_api_Block__blocks_index_1 {R : Type} (KK : AV → Mem → Option R) (v0 : List AV) (b0_0 : Bool) (b0_1 : Int) (b0_2 : Int) (b0_3 : Int) : den 1 (kretr [(.t 4)] KK) (a_slices_IndexFunc_api_Block_api_Block__blocks_index_1 KK) (envOf [(0, (.sl 8 v0)), (1, (.func 98 [(.ptr 0 0)]))]) (memOf [(some (.box true [(.bool b0_0), (.int .u64 b0_1), (.int .u64 b0_2), (.int .i64 b0_3)]))]) (kend (kretr [(.t 4)] KK)) = slices_IndexFunc_api_Block_api_Block__blocks_index_1 v0 b0_0 b0_1 b0_2 b0_3 (fun v4 b0_0 b0_1 b0_2 b0_3 => KK (.int .i64 v4) (memOf [(some (.box true [(.bool b0_0), (.int .u64 b0_1), (.int .u64 b0_2), (.int .i64 b0_3)]))])) := by
  rw [slices_IndexFunc_api_Block_api_Block__blocks_index_1_eq]; kernel_rfl
theorem c_slices_IndexFunc_api_Block_api_Block__blocks_index_1 : cFn (TIof Try.prog) Try.f97 = some ⟨19, [(.t 4)], scOf (a_slices_IndexFunc_api_Block_api_Block__blocks_index_1 (R := Unit) (fun _ _ => none))⟩ := by kernel_rfl
theorem r_slices_IndexFunc_api_Block_api_Block__blocks_index_1 {R : Type} (KK : AV → Mem → Option R) : (a_slices_IndexFunc_api_Block_api_Block__blocks_index_1 KK).er = some (scOf (a_slices_IndexFunc_api_Block_api_Block__blocks_index_1 (R := Unit) (fun _ _ => none))) := by kernel_rfl
noncomputable def e_slices_IndexFunc_api_Block_api_Block__blocks_index_1 {R : Type} (xs : List AV) (m : Mem) (KK : AV → Mem → Option R) : Option R := chk (fitS0 shp_slices_IndexFunc_api_Block_api_Block__blocks_index_1 (entry xs) m) (cond (hdS shp_slices_IndexFunc_api_Block_api_Block__blocks_index_1 (entry xs) m) (slices_IndexFunc_api_Block_api_Block__blocks_index_1 (gL [(entry xs) 0] 0) (gB (bxC (m.s 0)) 0) (gI (bxC (m.s 0)) 1) (gI (bxC (m.s 0)) 2) (gI (bxC (m.s 0)) 3) (fun v4 b0_0 b0_1 b0_2 b0_3 => KK (.int .i64 v4) (memOf [(some (.box true [(.bool b0_0), (.int .u64 b0_1), (.int .u64 b0_2), (.int .i64 b0_3)]))]))) none)
theorem k_slices_IndexFunc_api_Block_api_Block__blocks_index_1 {R : Type} : RefOk Try.prog 97 (e_slices_IndexFunc_api_Block_api_Block__blocks_index_1 (R := R)) :=
  refs_of (ac := fun KK => a_slices_IndexFunc_api_Block_api_Block__blocks_index_1 KK) tabOk follows Try.func97 (by kernel_rfl) c_slices_IndexFunc_api_Block_api_Block__blocks_index_1 (fun KK => ok_slices_IndexFunc_api_Block_api_Block__blocks_index_1 KK) (fun KK => r_slices_IndexFunc_api_Block_api_Block__blocks_index_1 KK) shp_slices_IndexFunc_api_Block_api_Block__blocks_index_1 rfl (fun xs m KK => congrArg (fun z => chk (fitS0 shp_slices_IndexFunc_api_Block_api_Block__blocks_index_1 (entry xs) m) (cond (hdS shp_slices_IndexFunc_api_Block_api_Block__blocks_index_1 (entry xs) m) z none)) (t_slices_IndexFunc_api_Block_api_Block__blocks_index_1 KK (gL [(entry xs) 0] 0) (gB (bxC (m.s 0)) 0) (gI (bxC (m.s 0)) 1) (gI (bxC (m.s 0)) 2) (gI (bxC (m.s 0)) 3)).symm)

/-! ddi/blocks.index -/
def dec_blocks_index (z : AV) : Option Int := cond (fitRV (.one (.i .i64)) z) (some (aI z)) none
def enc_blocks_index (r : Int) : AV := .int .i64 r
def shp_blocks_index : Shp := ⟨[(0, .one (.l (.sl 8))), (1, .st [(.l .b), (.l (.i .u64)), (.l (.i .u64)), (.l (.i .i64))])], []⟩
noncomputable def blocks_index_i (v0 : List AV) (v1_0 : Bool) (v1_1 : Int) (v1_2 : Int) (v1_3 : Int) : Option Int :=
  (slices_IndexFunc_api_Block_api_Block__blocks_index_1 v0 v1_0 v1_1 v1_2 v1_3 fun v4q1 b0_0q2 b0_1q3 b0_2q4 b0_3q5 => (some v4q1))
noncomputable def blocks_index := hull blocks_index_i
theorem blocks_index_eq : blocks_index = blocks_index_i := hull_eq _
noncomputable def a_blocks_index : AC Int :=
  .seq (.reg [.op ⟨(some 3), (.box (.t 1)), none⟩,
    .op ⟨(some 4), (.mv (.c (.int .i64 0))), none⟩]) (.seq (.reg [.op ⟨(some 5), (.mv (.t 0)), none⟩,
    .op ⟨(some 6), (.mkf 98 [(.t 3)]), none⟩,
    .st (.sel [5, 6] [0]),
    .callr ⟨(some 7), (.call 97 [(.t 5), (.t 6)]), none⟩ 97 e_slices_IndexFunc_api_Block_api_Block__blocks_index_1,
    .op ⟨(some 4), (.mv (.t 7)), none⟩]) (.ret))
theorem ok_blocks_index : AC.ok Try.prog (TIof Try.prog) 8 0 (kret [(.t 4)] dec_blocks_index) a_blocks_index := (And.intro True.intro (And.intro (And.intro k_slices_IndexFunc_api_Block_api_Block__blocks_index_1 True.intro) True.intro))
theorem t_blocks_index (v0 : List AV) (v1_0 : Bool) (v1_1 : Int) (v1_2 : Int) (v1_3 : Int) : den 0 (kret [(.t 4)] dec_blocks_index) a_blocks_index (envOf [(0, (.sl 8 v0)), (1, (.agg [(.bool v1_0), (.int .u64 v1_1), (.int .u64 v1_2), (.int .i64 v1_3)]))]) (memOf []) (kend (kret [(.t 4)] dec_blocks_index)) = blocks_index v0 v1_0 v1_1 v1_2 v1_3 := by
  rw [blocks_index_eq]; kernel_rfl
theorem c_blocks_index : cFn (TIof Try.prog) Try.f63 = some ⟨8, [(.t 4)], scOf a_blocks_index⟩ := by kernel_rfl
noncomputable def ent_blocks_index {R : Type} (xs : List AV) (K : AV → Option R) : Option R := chk (fitS shp_blocks_index (entry xs) Mem.none) (oB (blocks_index (gL [(entry xs) 0] 0) (gB ((entry xs) 1).cells 0) (gI ((entry xs) 1).cells 1) (gI ((entry xs) 1).cells 2) (gI ((entry xs) 1).cells 3)) fun r => K (enc_blocks_index r))
theorem k_blocks_index {R : Type} : EntOkB Try.prog 63 (ent_blocks_index (R := R)) :=
  ent_of (F := fun xs => blocks_index (gL [(entry xs) 0] 0) (gB ((entry xs) 1).cells 0) (gI ((entry xs) 1).cells 1) (gI ((entry xs) 1).cells 2) (gI ((entry xs) 1).cells 3)) (enc := enc_blocks_index) tabOk follows Try.func63 (by kernel_rfl) c_blocks_index (fun z r h => by
    obtain ⟨h1, h2⟩ := cond_some h
    cases h2
    exact (etaRV_eq h1).symm) ok_blocks_index (er_of (by kernel_rfl)) shp_blocks_index (fun xs => t_blocks_index (gL [(entry xs) 0] 0) (gB ((entry xs) 1).cells 0) (gI ((entry xs) 1).cells 1) (gI ((entry xs) 1).cells 2) (gI ((entry xs) 1).cells 3)) (fun xs K r h => by
    unfold ent_blocks_index at h
    exact ⟨(chk_some h).1, oB_some (chk_some h).2⟩)

/-! ddi/blocks.Find -/
def dec_blocks_Find (z : AV) : Option (AV × Bool) := cond (fitTup [(.st [.b, (.i .u64), (.i .u64), (.i .i64), (.i .i64), .s, .s, (.i .i64)]), (.one .b)] z) (some ((gC (tpL z) 0), aB (gC (tpL z) 1))) none
def enc_blocks_Find (r : AV × Bool) : AV := .tup [etaRV (.st [.b, (.i .u64), (.i .u64), (.i .i64), (.i .i64), .s, .s, (.i .i64)]) r.1, .bool r.2]
def shp_blocks_Find : Shp := ⟨[(0, .one (.l (.sl 8))), (1, .st [(.l .b), (.l (.i .u64)), (.l (.i .u64)), (.l (.i .i64))])], []⟩
noncomputable def blocks_Find_i (v0 : List AV) (v1_0 : Bool) (v1_1 : Int) (v1_2 : Int) (v1_3 : Int) : Option (AV × Bool) :=
  (oB (blocks_index v0 v1_0 v1_1 v1_2 v1_3) fun r1 => (bif (decide (r1 ≥ (0 : Int))) then (oB (ixB v0 r1) fun y2 => (bif fitC T_api_Block y2.cells then (some ((.agg [(.bool (gB y2.cells 0)), (.int .u64 (gI y2.cells 1)), (.int .u64 (gI y2.cells 2)), (.int .i64 (gI y2.cells 3)), (.int .i64 (gI y2.cells 4)), (.str (gS y2.cells 5)), (.str (gS y2.cells 6)), (.int .i64 (gI y2.cells 7))]), true)) else none)) else (some ((.agg [(.bool false), (.int .u64 (0 : Int)), (.int .u64 (0 : Int)), (.int .i64 (0 : Int)), (.int .i64 (0 : Int)), (.str ([] : List UInt8)), (.str ([] : List UInt8)), (.int .i64 (0 : Int))]), false))))
noncomputable def blocks_Find := hull blocks_Find_i
theorem blocks_Find_eq : blocks_Find = blocks_Find_i := hull_eq _
noncomputable def a_blocks_Find : AC (AV × Bool) :=
  .seq (.reg [.op ⟨(some 3), (.box (.t 1)), none⟩,
    .op ⟨(some 4), (.alloc [(.bool false), (.int .u64 0), (.int .u64 0), (.int .i64 0), (.int .i64 0), (.str []), (.str []), (.int .i64 0)]), none⟩,
    .op ⟨(some 5), (.mv (.c (.bool false))), none⟩]) (.seq (.seq (.reg [.op ⟨(some 7), (.mv (.t 0)), none⟩,
    .op ⟨(some 8), (.load true 4 (.t 3)), none⟩,
    .call ⟨(some 9), (.call 63 [(.t 7), (.t 8)]), none⟩ 63 ent_blocks_index,
    .op ⟨(some 6), (.mv (.t 9)), none⟩]) (.seq (.reg [.op ⟨(some 10), (.mv (.t 6)), none⟩,
    .op ⟨(some 11), (.bin .geq (.t 10) (.c (.int .i64 0))), none⟩]) (.cond (.t 11) (.seq (.reg [.op ⟨(some 12), (.mv (.t 0)), none⟩,
    .op ⟨(some 13), (.mv (.t 6)), none⟩,
    .op ⟨(some 14), (.ia 8 (.t 12) (.t 13)), none⟩,
    .st (.etac 14 T_api_Block),
    .op ⟨(some 15), (.load true 8 (.t 14)), none⟩,
    .op ⟨none, (.store 8 (.t 4) (.t 15)), none⟩,
    .op ⟨(some 5), (.mv (.c (.bool true))), none⟩]) (.ret)) (.skip)))) (.seq (.reg [.op ⟨(some 16), (.build [(.bool false), (.int .u64 0), (.int .u64 0), (.int .i64 0), (.int .i64 0), (.str []), (.str []), (.int .i64 0)] []), none⟩,
    .op ⟨none, (.store 8 (.t 4) (.t 16)), none⟩,
    .op ⟨(some 5), (.mv (.c (.bool false))), none⟩]) (.ret)))
theorem ok_blocks_Find : AC.ok Try.prog (TIof Try.prog) 17 0 (kret [(.cell 4 true 8), (.t 5)] dec_blocks_Find) a_blocks_Find := (And.intro True.intro (And.intro (And.intro (And.intro (EntOkB.ok k_blocks_index) True.intro) (And.intro True.intro (And.intro (And.intro True.intro True.intro) True.intro))) (And.intro True.intro True.intro)))
theorem t_blocks_Find (v0 : List AV) (v1_0 : Bool) (v1_1 : Int) (v1_2 : Int) (v1_3 : Int) : den 0 (kret [(.cell 4 true 8), (.t 5)] dec_blocks_Find) a_blocks_Find (envOf [(0, (.sl 8 v0)), (1, (.agg [(.bool v1_0), (.int .u64 v1_1), (.int .u64 v1_2), (.int .i64 v1_3)]))]) (memOf []) (kend (kret [(.cell 4 true 8), (.t 5)] dec_blocks_Find)) = blocks_Find v0 v1_0 v1_1 v1_2 v1_3 := by
  rw [blocks_Find_eq]; kernel_rfl
theorem c_blocks_Find : cFn (TIof Try.prog) Try.f25 = some ⟨17, [(.cell 4 true 8), (.t 5)], scOf a_blocks_Find⟩ := by kernel_rfl
noncomputable def ent_blocks_Find {R : Type} (xs : List AV) (K : AV → Option R) : Option R := chk (fitS shp_blocks_Find (entry xs) Mem.none) (oB (blocks_Find (gL [(entry xs) 0] 0) (gB ((entry xs) 1).cells 0) (gI ((entry xs) 1).cells 1) (gI ((entry xs) 1).cells 2) (gI ((entry xs) 1).cells 3)) fun r => K (enc_blocks_Find r))
theorem k_blocks_Find {R : Type} : EntOkB Try.prog 25 (ent_blocks_Find (R := R)) :=
  ent_of (F := fun xs => blocks_Find (gL [(entry xs) 0] 0) (gB ((entry xs) 1).cells 0) (gI ((entry xs) 1).cells 1) (gI ((entry xs) 1).cells 2) (gI ((entry xs) 1).cells 3)) (enc := enc_blocks_Find) tabOk follows Try.func25 (by kernel_rfl) c_blocks_Find (fun z r h => by
    obtain ⟨h1, h2⟩ := cond_some h
    cases h2
    exact (fitTup_eq h1).symm) ok_blocks_Find (er_of (by kernel_rfl)) shp_blocks_Find (fun xs => t_blocks_Find (gL [(entry xs) 0] 0) (gB ((entry xs) 1).cells 0) (gI ((entry xs) 1).cells 1) (gI ((entry xs) 1).cells 2) (gI ((entry xs) 1).cells 3)) (fun xs K r h => by
    unfold ent_blocks_Find at h
    exact ⟨(chk_some h).1, oB_some (chk_some h).2⟩)

/-! ddi/addr.Valid -/
def dec_addr_Valid (z : AV) : Option Bool := cond (fitRV (.one .b) z) (some (aB z)) none
def enc_addr_Valid (r : Bool) : AV := .bool r
def shp_addr_Valid : Shp := ⟨[(0, .st [(.l .b), (.l (.i .u64)), (.l (.i .u64))])], []⟩
noncomputable def addr_Valid_i (v0_0 : Bool) (v0_1 : Int) (v0_2 : Int) : Option Bool :=
  (bif v0_0 then (some true) else (bif (v0_1 == (0 : Int)) then (some (decide (v0_2 ≤ (4294967295 : Int)))) else (some false)))
noncomputable def addr_Valid := hull addr_Valid_i
theorem addr_Valid_eq : addr_Valid = addr_Valid_i := hull_eq _
noncomputable def a_addr_Valid : AC Bool :=
  .seq (.reg [.op ⟨(some 1), (.box (.t 0)), none⟩,
    .op ⟨(some 2), (.mv (.c (.bool false))), none⟩]) (.seq (.reg [.op ⟨(some 3), (.fa 0 (.t 1)), none⟩,
    .op ⟨(some 4), (.load false 1 (.t 3)), none⟩,
    .op ⟨(some 5), (.mv (.t 4)), none⟩,
    .op ⟨(some 6), (.fa 1 (.t 1)), (some (5, false))⟩,
    .op ⟨(some 7), (.load false 1 (.t 6)), (some (5, false))⟩,
    .op ⟨(some 8), (.bin .eql (.t 7) (.c (.int .u64 0))), (some (5, false))⟩,
    .op ⟨(some 9), (.mv (.t 8)), (some (5, false))⟩,
    .op ⟨(some 10), (.fa 2 (.t 1)), (some (9, true))⟩,
    .op ⟨(some 11), (.load false 1 (.t 10)), (some (9, true))⟩,
    .op ⟨(some 12), (.bin .leq (.t 11) (.c (.int .u64 4294967295))), (some (9, true))⟩,
    .op ⟨(some 13), (.pick (.t 9) (.t 12) (.c (.bool false))), (some (5, false))⟩,
    .op ⟨(some 14), (.pick (.t 5) (.c (.bool true)) (.t 13)), none⟩,
    .op ⟨(some 2), (.mv (.t 14)), none⟩]) (.ret))
theorem ok_addr_Valid : AC.ok Try.prog (TIof Try.prog) 15 0 (kret [(.t 2)] dec_addr_Valid) a_addr_Valid := (And.intro True.intro (And.intro True.intro True.intro))
theorem t_addr_Valid (v0_0 : Bool) (v0_1 : Int) (v0_2 : Int) : den 0 (kret [(.t 2)] dec_addr_Valid) a_addr_Valid (envOf [(0, (.agg [(.bool v0_0), (.int .u64 v0_1), (.int .u64 v0_2)]))]) (memOf []) (kend (kret [(.t 2)] dec_addr_Valid)) = addr_Valid v0_0 v0_1 v0_2 := by
  rw [addr_Valid_eq]; kernel_rfl
theorem c_addr_Valid : cFn (TIof Try.prog) Try.f72 = some ⟨15, [(.t 2)], scOf a_addr_Valid⟩ := by kernel_rfl
noncomputable def ent_addr_Valid {R : Type} (xs : List AV) (K : AV → Option R) : Option R := chk (fitS shp_addr_Valid (entry xs) Mem.none) (oB (addr_Valid (gB ((entry xs) 0).cells 0) (gI ((entry xs) 0).cells 1) (gI ((entry xs) 0).cells 2)) fun r => K (enc_addr_Valid r))
theorem k_addr_Valid {R : Type} : EntOkB Try.prog 72 (ent_addr_Valid (R := R)) :=
  ent_of (F := fun xs => addr_Valid (gB ((entry xs) 0).cells 0) (gI ((entry xs) 0).cells 1) (gI ((entry xs) 0).cells 2)) (enc := enc_addr_Valid) tabOk follows Try.func72 (by kernel_rfl) c_addr_Valid (fun z r h => by
    obtain ⟨h1, h2⟩ := cond_some h
    cases h2
    exact (etaRV_eq h1).symm) ok_addr_Valid (er_of (by kernel_rfl)) shp_addr_Valid (fun xs => t_addr_Valid (gB ((entry xs) 0).cells 0) (gI ((entry xs) 0).cells 1) (gI ((entry xs) 0).cells 2)) (fun xs K r h => by
    unfold ent_addr_Valid at h
    exact ⟨(chk_some h).1, oB_some (chk_some h).2⟩)

/-! ddi/prefix.length -/
def dec_prefix_length (z : AV) : Option Int := cond (fitRV (.one (.i .i64)) z) (some (aI z)) none
def enc_prefix_length (r : Int) : AV := .int .i64 r
def shp_prefix_length : Shp := ⟨[(0, .st [(.l .b), (.l (.i .u64)), (.l (.i .u64))])], []⟩
noncomputable def prefix_length_i (v0_0 : Bool) (v0_1 : Int) (v0_2 : Int) : Option Int :=
  (bif v0_0 then (some (128 : Int)) else (some (32 : Int)))
noncomputable def prefix_length := hull prefix_length_i
theorem prefix_length_eq : prefix_length = prefix_length_i := hull_eq _
noncomputable def a_prefix_length : AC Int :=
  .seq (.reg [.op ⟨(some 1), (.box (.t 0)), none⟩,
    .op ⟨(some 2), (.mv (.c (.int .i64 0))), none⟩]) (.seq (.seq (.reg [.op ⟨(some 3), (.fa 0 (.t 1)), none⟩,
    .op ⟨(some 4), (.load false 1 (.t 3)), none⟩]) (.cond (.t 4) (.seq (.reg [.op ⟨(some 2), (.mv (.c (.int .i64 128))), none⟩]) (.ret)) (.skip))) (.seq (.reg [.op ⟨(some 2), (.mv (.c (.int .i64 32))), none⟩]) (.ret)))
theorem ok_prefix_length : AC.ok Try.prog (TIof Try.prog) 5 0 (kret [(.t 2)] dec_prefix_length) a_prefix_length := (And.intro True.intro (And.intro (And.intro True.intro (And.intro (And.intro True.intro True.intro) True.intro)) (And.intro True.intro True.intro)))
theorem t_prefix_length (v0_0 : Bool) (v0_1 : Int) (v0_2 : Int) : den 0 (kret [(.t 2)] dec_prefix_length) a_prefix_length (envOf [(0, (.agg [(.bool v0_0), (.int .u64 v0_1), (.int .u64 v0_2)]))]) (memOf []) (kend (kret [(.t 2)] dec_prefix_length)) = prefix_length v0_0 v0_1 v0_2 := by
  rw [prefix_length_eq]; kernel_rfl
theorem c_prefix_length : cFn (TIof Try.prog) Try.f85 = some ⟨5, [(.t 2)], scOf a_prefix_length⟩ := by kernel_rfl
noncomputable def ent_prefix_length {R : Type} (xs : List AV) (K : AV → Option R) : Option R := chk (fitS shp_prefix_length (entry xs) Mem.none) (oB (prefix_length (gB ((entry xs) 0).cells 0) (gI ((entry xs) 0).cells 1) (gI ((entry xs) 0).cells 2)) fun r => K (enc_prefix_length r))
theorem k_prefix_length {R : Type} : EntOkB Try.prog 85 (ent_prefix_length (R := R)) :=
  ent_of (F := fun xs => prefix_length (gB ((entry xs) 0).cells 0) (gI ((entry xs) 0).cells 1) (gI ((entry xs) 0).cells 2)) (enc := enc_prefix_length) tabOk follows Try.func85 (by kernel_rfl) c_prefix_length (fun z r h => by
    obtain ⟨h1, h2⟩ := cond_some h
    cases h2
    exact (etaRV_eq h1).symm) ok_prefix_length (er_of (by kernel_rfl)) shp_prefix_length (fun xs => t_prefix_length (gB ((entry xs) 0).cells 0) (gI ((entry xs) 0).cells 1) (gI ((entry xs) 0).cells 2)) (fun xs K r h => by
    unfold ent_prefix_length at h
    exact ⟨(chk_some h).1, oB_some (chk_some h).2⟩)

/-! ddi/prefix.later -/
def dec_prefix_later (z : AV) : Option (Int × Int) := cond (fitTup [(.one (.i .u64)), (.one (.i .u64))] z) (some (aI (gC (tpL z) 0), aI (gC (tpL z) 1))) none
def enc_prefix_later (r : Int × Int) : AV := .tup [.int .u64 r.1, .int .u64 r.2]
def shp_prefix_later : Shp := ⟨[(0, .one (.l .b)), (1, .one (.l (.i .i64)))], []⟩
noncomputable def prefix_later_i (v0 : Bool) (v1 : Int) : Option (Int × Int) :=
  (bif (!v0) then (bif decide ((IntKind.u64.wrap (IntKind.i64.wrap ((32 : Int) - v1))) < 0) then none else (some ((0 : Int), (IntKind.u64.wrap ((IntKind.u64.wrap ((1 : Int) * 2 ^ min (IntKind.u64.wrap (IntKind.i64.wrap ((32 : Int) - v1))).toNat IntKind.u64.bits)) - (1 : Int)))))) else (bif (decide (v1 ≥ (64 : Int))) then (bif decide ((IntKind.u64.wrap (IntKind.i64.wrap ((128 : Int) - v1))) < 0) then none else (some ((0 : Int), (IntKind.u64.wrap ((IntKind.u64.wrap ((1 : Int) * 2 ^ min (IntKind.u64.wrap (IntKind.i64.wrap ((128 : Int) - v1))).toNat IntKind.u64.bits)) - (1 : Int)))))) else (bif decide ((IntKind.u64.wrap (IntKind.i64.wrap ((64 : Int) - v1))) < 0) then none else (some ((IntKind.u64.wrap ((IntKind.u64.wrap ((1 : Int) * 2 ^ min (IntKind.u64.wrap (IntKind.i64.wrap ((64 : Int) - v1))).toNat IntKind.u64.bits)) - (1 : Int))), (18446744073709551615 : Int))))))
noncomputable def prefix_later := hull prefix_later_i
theorem prefix_later_eq : prefix_later = prefix_later_i := hull_eq _
noncomputable def a_prefix_later : AC (Int × Int) :=
  .seq (.reg [.op ⟨(some 4), (.mv (.c (.int .u64 0))), none⟩,
    .op ⟨(some 5), (.mv (.c (.int .u64 0))), none⟩]) (.seq (.seq (.reg [.op ⟨(some 6), (.mv (.t 0)), none⟩,
    .op ⟨(some 7), (.un .not (.t 6)), none⟩]) (.cond (.t 7) (.seq (.reg [.op ⟨(some 8), (.mv (.t 1)), none⟩,
    .op ⟨(some 9), (.bin .sub (.c (.int .i64 32)) (.t 8)), none⟩,
    .op ⟨(some 10), (.conv (.int .u64) (.t 9)), none⟩,
    .op ⟨(some 11), (.bin .shl (.c (.int .u64 1)) (.t 10)), none⟩,
    .op ⟨(some 12), (.bin .sub (.t 11) (.c (.int .u64 1))), none⟩,
    .op ⟨(some 4), (.mv (.c (.int .u64 0))), none⟩,
    .op ⟨(some 5), (.mv (.t 12)), none⟩]) (.ret)) (.skip))) (.seq (.seq (.reg [.op ⟨(some 13), (.mv (.t 1)), none⟩,
    .op ⟨(some 14), (.bin .geq (.t 13) (.c (.int .i64 64))), none⟩]) (.cond (.t 14) (.seq (.reg [.op ⟨(some 15), (.mv (.t 1)), none⟩,
    .op ⟨(some 16), (.bin .sub (.c (.int .i64 128)) (.t 15)), none⟩,
    .op ⟨(some 17), (.conv (.int .u64) (.t 16)), none⟩,
    .op ⟨(some 18), (.bin .shl (.c (.int .u64 1)) (.t 17)), none⟩,
    .op ⟨(some 19), (.bin .sub (.t 18) (.c (.int .u64 1))), none⟩,
    .op ⟨(some 4), (.mv (.c (.int .u64 0))), none⟩,
    .op ⟨(some 5), (.mv (.t 19)), none⟩]) (.ret)) (.skip))) (.seq (.reg [.op ⟨(some 20), (.mv (.t 1)), none⟩,
    .op ⟨(some 21), (.bin .sub (.c (.int .i64 64)) (.t 20)), none⟩,
    .op ⟨(some 22), (.conv (.int .u64) (.t 21)), none⟩,
    .op ⟨(some 23), (.bin .shl (.c (.int .u64 1)) (.t 22)), none⟩,
    .op ⟨(some 24), (.bin .sub (.t 23) (.c (.int .u64 1))), none⟩,
    .op ⟨(some 4), (.mv (.t 24)), none⟩,
    .op ⟨(some 5), (.mv (.c (.int .u64 18446744073709551615))), none⟩]) (.ret))))
theorem ok_prefix_later : AC.ok Try.prog (TIof Try.prog) 25 0 (kret [(.t 4), (.t 5)] dec_prefix_later) a_prefix_later := (And.intro True.intro (And.intro (And.intro True.intro (And.intro (And.intro True.intro True.intro) True.intro)) (And.intro (And.intro True.intro (And.intro (And.intro True.intro True.intro) True.intro)) (And.intro True.intro True.intro))))
theorem t_prefix_later (v0 : Bool) (v1 : Int) : den 0 (kret [(.t 4), (.t 5)] dec_prefix_later) a_prefix_later (envOf [(0, (.bool v0)), (1, (.int .i64 v1))]) (memOf []) (kend (kret [(.t 4), (.t 5)] dec_prefix_later)) = prefix_later v0 v1 := by
  rw [prefix_later_eq]; kernel_rfl
theorem c_prefix_later : cFn (TIof Try.prog) Try.f71 = some ⟨25, [(.t 4), (.t 5)], scOf a_prefix_later⟩ := by kernel_rfl
noncomputable def ent_prefix_later {R : Type} (xs : List AV) (K : AV → Option R) : Option R := chk (fitS shp_prefix_later (entry xs) Mem.none) (oB (prefix_later (gB [(entry xs) 0] 0) (gI [(entry xs) 1] 0)) fun r => K (enc_prefix_later r))
theorem k_prefix_later {R : Type} : EntOkB Try.prog 71 (ent_prefix_later (R := R)) :=
  ent_of (F := fun xs => prefix_later (gB [(entry xs) 0] 0) (gI [(entry xs) 1] 0)) (enc := enc_prefix_later) tabOk follows Try.func71 (by kernel_rfl) c_prefix_later (fun z r h => by
    obtain ⟨h1, h2⟩ := cond_some h
    cases h2
    exact (fitTup_eq h1).symm) ok_prefix_later (er_of (by kernel_rfl)) shp_prefix_later (fun xs => t_prefix_later (gB [(entry xs) 0] 0) (gI [(entry xs) 1] 0)) (fun xs K r h => by
    unfold ent_prefix_later at h
    exact ⟨(chk_some h).1, oB_some (chk_some h).2⟩)

/-! ddi/prefix.Valid -/
def dec_prefix_Valid (z : AV) : Option Bool := cond (fitRV (.one .b) z) (some (aB z)) none
def enc_prefix_Valid (r : Bool) : AV := .bool r
def shp_prefix_Valid_J4 : Shp := ⟨[(1, .one (.ptr 0 0))], [.box true [(.l .b), (.l (.i .u64)), (.l (.i .u64)), (.l (.i .i64))]]⟩
noncomputable def prefix_Valid_J4_i  (b0_0 : Bool) (b0_1 : Int) (b0_2 : Int) (b0_3 : Int) (kn : Bool → Option Bool) : Option Bool :=
  (oB (addr_Valid b0_0 b0_1 b0_2) fun r1 => (bif (!r1) then (kn true) else (bif (decide (b0_3 < (0 : Int))) then (kn true) else (oB (prefix_length b0_0 b0_1 b0_2) fun r2 => (kn (decide (b0_3 > r2)))))))
noncomputable def prefix_Valid_J4 := hull (prefix_Valid_J4_i)
theorem prefix_Valid_J4_eq : prefix_Valid_J4 = prefix_Valid_J4_i := hull_eq _
noncomputable def a_prefix_Valid_J4 : AC Bool :=
  .seq (.draw [] [.op ⟨(some 5), (.fa 0 (.t 1)), none⟩,
    .op ⟨(some 6), (.load true 3 (.t 5)), none⟩,
    .call ⟨(some 7), (.call 72 [(.t 6)]), none⟩ 72 ent_addr_Valid,
    .op ⟨(some 8), (.un .not (.t 7)), none⟩,
    .op ⟨(some 9), (.mv (.t 8)), none⟩,
    .op ⟨(some 10), (.fa 3 (.t 1)), (some (9, false))⟩,
    .op ⟨(some 11), (.load false 1 (.t 10)), (some (9, false))⟩,
    .op ⟨(some 12), (.bin .lss (.t 11) (.c (.int .i64 0))), (some (9, false))⟩,
    .op ⟨(some 13), (.pick (.t 9) (.c (.bool true)) (.t 12)), none⟩,
    .op ⟨(some 14), (.mv (.t 13)), none⟩,
    .op ⟨(some 15), (.fa 3 (.t 1)), (some (14, false))⟩,
    .op ⟨(some 16), (.load false 1 (.t 15)), (some (14, false))⟩,
    .op ⟨(some 17), (.fa 0 (.t 1)), (some (14, false))⟩,
    .op ⟨(some 18), (.load true 3 (.t 17)), (some (14, false))⟩,
    .call ⟨(some 19), (.call 85 [(.t 18)]), (some (14, false))⟩ 85 ent_prefix_length] [.op ⟨(some 20), (.bin .gtr (.t 16) (.t 19)), (some (14, false))⟩,
    .op ⟨(some 21), (.pick (.t 14) (.c (.bool true)) (.t 20)), none⟩]) (.view [.sel [1, 21] [0]])
theorem ok_prefix_Valid_J4 : AC.ok Try.prog (TIof Try.prog) 45 0 (kret [(.t 2)] dec_prefix_Valid) a_prefix_Valid_J4 := (And.intro (And.intro (And.intro (EntOkB.ok k_addr_Valid) (And.intro (EntOkB.ok k_prefix_length) True.intro)) True.intro) True.intro)
theorem t_prefix_Valid_J4 (b0_0 : Bool) (b0_1 : Int) (b0_2 : Int) (b0_3 : Int) (K : Ex → Env → Mem → Option Bool) : den 0 (kret [(.t 2)] dec_prefix_Valid) a_prefix_Valid_J4 (envOf [(1, (.ptr 0 0))]) (memOf [(some (.box true [(.bool b0_0), (.int .u64 b0_1), (.int .u64 b0_2), (.int .i64 b0_3)]))]) K = prefix_Valid_J4 b0_0 b0_1 b0_2 b0_3 (fun z_v21 => K .norm (envOf [(1, (.ptr 0 0)), (21, (.bool z_v21))]) (memOf [(some (.box true [(.bool b0_0), (.int .u64 b0_1), (.int .u64 b0_2), (.int .i64 b0_3)]))])) := by
  rw [prefix_Valid_J4_eq]; kernel_rfl
noncomputable def s_prefix_Valid_J4 : Env → Mem → (Ex → Env → Mem → Option Bool) → Option Bool := fun t m K => chk (fitS0 shp_prefix_Valid_J4 t m) (cond (hdS shp_prefix_Valid_J4 t m) (prefix_Valid_J4 (gB (bxC (m.s 0)) 0) (gI (bxC (m.s 0)) 1) (gI (bxC (m.s 0)) 2) (gI (bxC (m.s 0)) 3) (fun z_v21 => K .norm (envOf [(1, (.ptr 0 0)), (21, (.bool z_v21))]) (memOf [(some (.box true [(.bool (gB (bxC (m.s 0)) 0)), (.int .u64 (gI (bxC (m.s 0)) 1)), (.int .u64 (gI (bxC (m.s 0)) 2)), (.int .i64 (gI (bxC (m.s 0)) 3))]))]))) none)
theorem o_prefix_Valid_J4 : SubOk Try.prog (TIof Try.prog) 45 0 (kret [(.t 2)] dec_prefix_Valid) (scOf a_prefix_Valid_J4) s_prefix_Valid_J4 :=
  sub_of tabOk follows ok_prefix_Valid_J4 (er_of (by kernel_rfl)) shp_prefix_Valid_J4 (fun t m K => congrArg (fun z => chk (fitS0 shp_prefix_Valid_J4 t m) (cond (hdS shp_prefix_Valid_J4 t m) z none)) (t_prefix_Valid_J4 (gB (bxC (m.s 0)) 0) (gI (bxC (m.s 0)) 1) (gI (bxC (m.s 0)) 2) (gI (bxC (m.s 0)) 3) K).symm)
def shp_prefix_Valid : Shp := ⟨[(0, .st [(.l .b), (.l (.i .u64)), (.l (.i .u64)), (.l (.i .i64))])], []⟩
noncomputable def prefix_Valid_i (v0_0 : Bool) (v0_1 : Int) (v0_2 : Int) (v0_3 : Int) : Option Bool :=
  (prefix_Valid_J4 v0_0 v0_1 v0_2 v0_3 (fun v21 => (bif v21 then (some false) else (oB (prefix_later v0_0 v0_3) fun r1 => (some (((ibits .and .u64 v0_1 r1.1) == (0 : Int)) && ((ibits .and .u64 v0_2 r1.2) == (0 : Int))))))))
noncomputable def prefix_Valid := hull prefix_Valid_i
theorem prefix_Valid_eq : prefix_Valid = prefix_Valid_i := hull_eq _
noncomputable def a_prefix_Valid : AC Bool :=
  .seq (.reg [.op ⟨(some 1), (.box (.t 0)), none⟩,
    .op ⟨(some 2), (.mv (.c (.bool false))), none⟩]) (.seq (.seq (.seq (.view [.sel [1] [0]]) (.sub (scOf a_prefix_Valid_J4) s_prefix_Valid_J4)) (.cond (.t 21) (.seq (.reg [.op ⟨(some 2), (.mv (.c (.bool false))), none⟩]) (.ret)) (.skip))) (.seq (.reg [.op ⟨(some 23), (.fa 0 (.t 1)), none⟩,
    .op ⟨(some 24), (.fa 0 (.t 23)), none⟩,
    .op ⟨(some 25), (.load false 1 (.t 24)), none⟩,
    .op ⟨(some 26), (.fa 3 (.t 1)), none⟩,
    .op ⟨(some 27), (.load false 1 (.t 26)), none⟩,
    .call ⟨(some 28), (.call 71 [(.t 25), (.t 27)]), none⟩ 71 ent_prefix_later,
    .op ⟨(some 22), (.mv (.t 28)), none⟩,
    .op ⟨(some 29), (.ext (.t 22) 0), none⟩,
    .op ⟨(some 30), (.ext (.t 22) 1), none⟩,
    .op ⟨(some 3), (.mv (.t 29)), none⟩,
    .op ⟨(some 4), (.mv (.t 30)), none⟩]) (.seq (.reg [.op ⟨(some 31), (.fa 0 (.t 1)), none⟩,
    .op ⟨(some 32), (.fa 1 (.t 31)), none⟩,
    .op ⟨(some 33), (.load false 1 (.t 32)), none⟩,
    .op ⟨(some 34), (.mv (.t 3)), none⟩,
    .op ⟨(some 35), (.bin .and (.t 33) (.t 34)), none⟩,
    .op ⟨(some 36), (.bin .eql (.t 35) (.c (.int .u64 0))), none⟩,
    .op ⟨(some 37), (.mv (.t 36)), none⟩,
    .grp 37 true [⟨(some 38), (.fa 0 (.t 1)), (some (37, true))⟩, ⟨(some 39), (.fa 2 (.t 38)), (some (37, true))⟩, ⟨(some 40), (.load false 1 (.t 39)), (some (37, true))⟩, ⟨(some 41), (.mv (.t 4)), (some (37, true))⟩, ⟨(some 42), (.bin .and (.t 40) (.t 41)), (some (37, true))⟩, ⟨(some 43), (.bin .eql (.t 42) (.c (.int .u64 0))), (some (37, true))⟩] 44 (.t 43),
    .op ⟨(some 2), (.mv (.t 44)), none⟩]) (.ret))))
theorem ok_prefix_Valid : AC.ok Try.prog (TIof Try.prog) 45 0 (kret [(.t 2)] dec_prefix_Valid) a_prefix_Valid := (And.intro True.intro (And.intro (And.intro (And.intro True.intro o_prefix_Valid_J4) (And.intro (And.intro True.intro True.intro) True.intro)) (And.intro (And.intro (EntOkB.ok k_prefix_later) True.intro) (And.intro True.intro True.intro))))
theorem t_prefix_Valid (v0_0 : Bool) (v0_1 : Int) (v0_2 : Int) (v0_3 : Int) : den 0 (kret [(.t 2)] dec_prefix_Valid) a_prefix_Valid (envOf [(0, (.agg [(.bool v0_0), (.int .u64 v0_1), (.int .u64 v0_2), (.int .i64 v0_3)]))]) (memOf []) (kend (kret [(.t 2)] dec_prefix_Valid)) = prefix_Valid v0_0 v0_1 v0_2 v0_3 := by
  rw [prefix_Valid_eq]; kernel_rfl
theorem c_prefix_Valid : cFn (TIof Try.prog) Try.f61 = some ⟨45, [(.t 2)], scOf a_prefix_Valid⟩ := by kernel_rfl
noncomputable def ent_prefix_Valid {R : Type} (xs : List AV) (K : AV → Option R) : Option R := chk (fitS shp_prefix_Valid (entry xs) Mem.none) (oB (prefix_Valid (gB ((entry xs) 0).cells 0) (gI ((entry xs) 0).cells 1) (gI ((entry xs) 0).cells 2) (gI ((entry xs) 0).cells 3)) fun r => K (enc_prefix_Valid r))
theorem k_prefix_Valid {R : Type} : EntOkB Try.prog 61 (ent_prefix_Valid (R := R)) :=
  ent_of (F := fun xs => prefix_Valid (gB ((entry xs) 0).cells 0) (gI ((entry xs) 0).cells 1) (gI ((entry xs) 0).cells 2) (gI ((entry xs) 0).cells 3)) (enc := enc_prefix_Valid) tabOk follows Try.func61 (by kernel_rfl) c_prefix_Valid (fun z r h => by
    obtain ⟨h1, h2⟩ := cond_some h
    cases h2
    exact (etaRV_eq h1).symm) ok_prefix_Valid (er_of (by kernel_rfl)) shp_prefix_Valid (fun xs => t_prefix_Valid (gB ((entry xs) 0).cells 0) (gI ((entry xs) 0).cells 1) (gI ((entry xs) 0).cells 2) (gI ((entry xs) 0).cells 3)) (fun xs K r h => by
    unfold ent_prefix_Valid at h
    exact ⟨(chk_some h).1, oB_some (chk_some h).2⟩)

/-! ddi/prefix.Bounds -/
def dec_prefix_Bounds (z : AV) : Option (AV × Bool) := cond (fitTup [(.st [.b, (.i .u64), (.i .u64), .b, (.i .u64), (.i .u64)]), (.one .b)] z) (some ((gC (tpL z) 0), aB (gC (tpL z) 1))) none
def enc_prefix_Bounds (r : AV × Bool) : AV := .tup [etaRV (.st [.b, (.i .u64), (.i .u64), .b, (.i .u64), (.i .u64)]) r.1, .bool r.2]
def shp_prefix_Bounds : Shp := ⟨[(0, .st [(.l .b), (.l (.i .u64)), (.l (.i .u64)), (.l (.i .i64))])], []⟩
noncomputable def prefix_Bounds_i (v0_0 : Bool) (v0_1 : Int) (v0_2 : Int) (v0_3 : Int) : Option (AV × Bool) :=
  (oB (prefix_Valid v0_0 v0_1 v0_2 v0_3) fun r1 => (bif (!r1) then (some ((.agg [(.bool false), (.int .u64 (0 : Int)), (.int .u64 (0 : Int)), (.bool false), (.int .u64 (0 : Int)), (.int .u64 (0 : Int))]), false)) else (oB (prefix_later v0_0 v0_3) fun r2 => (some ((.agg [(.bool v0_0), (.int .u64 v0_1), (.int .u64 v0_2), (.bool v0_0), (.int .u64 (ibits .or .u64 v0_1 r2.1)), (.int .u64 (ibits .or .u64 v0_2 r2.2))]), true)))))
noncomputable def prefix_Bounds := hull prefix_Bounds_i
theorem prefix_Bounds_eq : prefix_Bounds = prefix_Bounds_i := hull_eq _
noncomputable def a_prefix_Bounds : AC (AV × Bool) :=
  .seq (.reg [.op ⟨(some 1), (.box (.t 0)), none⟩,
    .op ⟨(some 2), (.alloc [(.bool false), (.int .u64 0), (.int .u64 0), (.bool false), (.int .u64 0), (.int .u64 0)]), none⟩,
    .op ⟨(some 3), (.mv (.c (.bool false))), none⟩]) (.seq (.seq (.reg [.op ⟨(some 7), (.load true 4 (.t 1)), none⟩,
    .call ⟨(some 8), (.call 61 [(.t 7)]), none⟩ 61 ent_prefix_Valid,
    .op ⟨(some 9), (.un .not (.t 8)), none⟩]) (.cond (.t 9) (.seq (.reg [.op ⟨(some 10), (.build [(.bool false), (.int .u64 0), (.int .u64 0), (.bool false), (.int .u64 0), (.int .u64 0)] []), none⟩,
    .op ⟨none, (.store 6 (.t 2) (.t 10)), none⟩,
    .op ⟨(some 3), (.mv (.c (.bool false))), none⟩]) (.ret)) (.skip))) (.seq (.reg [.op ⟨(some 12), (.fa 0 (.t 1)), none⟩,
    .op ⟨(some 13), (.fa 0 (.t 12)), none⟩,
    .op ⟨(some 14), (.load false 1 (.t 13)), none⟩,
    .op ⟨(some 15), (.fa 3 (.t 1)), none⟩,
    .op ⟨(some 16), (.load false 1 (.t 15)), none⟩,
    .call ⟨(some 17), (.call 71 [(.t 14), (.t 16)]), none⟩ 71 ent_prefix_later,
    .op ⟨(some 11), (.mv (.t 17)), none⟩,
    .op ⟨(some 18), (.ext (.t 11) 0), none⟩,
    .op ⟨(some 19), (.ext (.t 11) 1), none⟩,
    .op ⟨(some 4), (.mv (.t 18)), none⟩,
    .op ⟨(some 5), (.mv (.t 19)), none⟩]) (.seq (.reg [.op ⟨(some 20), (.fa 0 (.t 1)), none⟩,
    .op ⟨(some 21), (.load true 3 (.t 20)), none⟩,
    .op ⟨(some 6), (.alloc [(.bool false), (.int .u64 0), (.int .u64 0)]), none⟩,
    .op ⟨none, (.store 3 (.t 6) (.t 21)), none⟩]) (.seq (.reg [.op ⟨(some 22), (.fa 1 (.t 6)), none⟩,
    .op ⟨(some 23), (.load false 1 (.t 22)), none⟩,
    .op ⟨(some 24), (.mv (.t 4)), none⟩,
    .op ⟨(some 25), (.bin .or (.t 23) (.t 24)), none⟩,
    .op ⟨(some 26), (.fa 1 (.t 6)), none⟩,
    .op ⟨none, (.store 1 (.t 26) (.t 25)), none⟩]) (.seq (.reg [.op ⟨(some 27), (.fa 2 (.t 6)), none⟩,
    .op ⟨(some 28), (.load false 1 (.t 27)), none⟩,
    .op ⟨(some 29), (.mv (.t 5)), none⟩,
    .op ⟨(some 30), (.bin .or (.t 28) (.t 29)), none⟩,
    .op ⟨(some 31), (.fa 2 (.t 6)), none⟩,
    .op ⟨none, (.store 1 (.t 31) (.t 30)), none⟩]) (.seq (.reg [.op ⟨(some 32), (.fa 0 (.t 1)), none⟩,
    .op ⟨(some 33), (.load true 3 (.t 32)), none⟩,
    .op ⟨(some 34), (.load true 3 (.t 6)), none⟩,
    .op ⟨(some 35), (.build [(.bool false), (.int .u64 0), (.int .u64 0), (.bool false), (.int .u64 0), (.int .u64 0)] [(0, (3, (.t 33))), (3, (3, (.t 34)))]), none⟩,
    .op ⟨none, (.store 6 (.t 2) (.t 35)), none⟩,
    .op ⟨(some 3), (.mv (.c (.bool true))), none⟩]) (.ret)))))))
theorem ok_prefix_Bounds : AC.ok Try.prog (TIof Try.prog) 36 0 (kret [(.cell 2 true 6), (.t 3)] dec_prefix_Bounds) a_prefix_Bounds := (And.intro True.intro (And.intro (And.intro (And.intro (EntOkB.ok k_prefix_Valid) True.intro) (And.intro (And.intro True.intro True.intro) True.intro)) (And.intro (And.intro (EntOkB.ok k_prefix_later) True.intro) (And.intro True.intro (And.intro True.intro (And.intro True.intro (And.intro True.intro True.intro)))))))
theorem t_prefix_Bounds (v0_0 : Bool) (v0_1 : Int) (v0_2 : Int) (v0_3 : Int) : den 0 (kret [(.cell 2 true 6), (.t 3)] dec_prefix_Bounds) a_prefix_Bounds (envOf [(0, (.agg [(.bool v0_0), (.int .u64 v0_1), (.int .u64 v0_2), (.int .i64 v0_3)]))]) (memOf []) (kend (kret [(.cell 2 true 6), (.t 3)] dec_prefix_Bounds)) = prefix_Bounds v0_0 v0_1 v0_2 v0_3 := by
  rw [prefix_Bounds_eq]; kernel_rfl
theorem c_prefix_Bounds : cFn (TIof Try.prog) Try.f31 = some ⟨36, [(.cell 2 true 6), (.t 3)], scOf a_prefix_Bounds⟩ := by kernel_rfl
noncomputable def ent_prefix_Bounds {R : Type} (xs : List AV) (K : AV → Option R) : Option R := chk (fitS shp_prefix_Bounds (entry xs) Mem.none) (oB (prefix_Bounds (gB ((entry xs) 0).cells 0) (gI ((entry xs) 0).cells 1) (gI ((entry xs) 0).cells 2) (gI ((entry xs) 0).cells 3)) fun r => K (enc_prefix_Bounds r))
theorem k_prefix_Bounds {R : Type} : EntOkB Try.prog 31 (ent_prefix_Bounds (R := R)) :=
  ent_of (F := fun xs => prefix_Bounds (gB ((entry xs) 0).cells 0) (gI ((entry xs) 0).cells 1) (gI ((entry xs) 0).cells 2) (gI ((entry xs) 0).cells 3)) (enc := enc_prefix_Bounds) tabOk follows Try.func31 (by kernel_rfl) c_prefix_Bounds (fun z r h => by
    obtain ⟨h1, h2⟩ := cond_some h
    cases h2
    exact (fitTup_eq h1).symm) ok_prefix_Bounds (er_of (by kernel_rfl)) shp_prefix_Bounds (fun xs => t_prefix_Bounds (gB ((entry xs) 0).cells 0) (gI ((entry xs) 0).cells 1) (gI ((entry xs) 0).cells 2) (gI ((entry xs) 0).cells 3)) (fun xs K r h => by
    unfold ent_prefix_Bounds at h
    exact ⟨(chk_some h).1, oB_some (chk_some h).2⟩)

def T_api_Host : List LT := [.s, .b, (.i .u64), (.i .u64), (.i .i64)]

/-! ddi/prefix.Of -/
def dec_prefix_Of (z : AV) : Option (AV × Bool) := cond (fitTup [(.st [.b, (.i .u64), (.i .u64), (.i .i64)]), (.one .b)] z) (some ((gC (tpL z) 0), aB (gC (tpL z) 1))) none
def enc_prefix_Of (r : AV × Bool) : AV := .tup [etaRV (.st [.b, (.i .u64), (.i .u64), (.i .i64)]) r.1, .bool r.2]
def shp_prefix_Of_J4 : Shp := ⟨[(1, .one (.l (.i .i64))), (2, .one (.ptr 0 0)), (4, .one (.ptr 1 0))], [.box true [(.l .b), (.l (.i .u64)), (.l (.i .u64))], .box true [(.l .b), (.l (.i .u64)), (.l (.i .u64)), (.l (.i .i64))]]⟩
noncomputable def prefix_Of_J4_i  (v1 : Int) (b0_0 : Bool) (b0_1 : Int) (b0_2 : Int) (b1_0 : Bool) (b1_1 : Int) (b1_2 : Int) (b1_3 : Int) (kn : Bool → Option (AV × Bool)) : Option (AV × Bool) :=
  (oB (addr_Valid b0_0 b0_1 b0_2) fun r1 => (bif ((!r1) || (decide (v1 < (0 : Int)))) then (kn true) else (oB (prefix_length b0_0 b0_1 b0_2) fun r2 => (kn (decide (v1 > r2))))))
noncomputable def prefix_Of_J4 := hull (prefix_Of_J4_i)
theorem prefix_Of_J4_eq : prefix_Of_J4 = prefix_Of_J4_i := hull_eq _
noncomputable def a_prefix_Of_J4 : AC (AV × Bool) :=
  .seq (.reg [.op ⟨(some 8), (.load true 3 (.t 2)), none⟩,
    .call ⟨(some 9), (.call 72 [(.t 8)]), none⟩ 72 ent_addr_Valid,
    .op ⟨(some 10), (.un .not (.t 9)), none⟩,
    .op ⟨(some 11), (.mv (.t 10)), none⟩,
    .grp 11 false [⟨(some 12), (.mv (.t 1)), (some (11, false))⟩, ⟨(some 13), (.bin .lss (.t 12) (.c (.int .i64 0))), (some (11, false))⟩] 14 (.t 13),
    .op ⟨(some 15), (.mv (.t 14)), none⟩,
    .op ⟨(some 16), (.mv (.t 1)), (some (15, false))⟩,
    .op ⟨(some 17), (.load true 3 (.t 2)), (some (15, false))⟩,
    .call ⟨(some 18), (.call 85 [(.t 17)]), (some (15, false))⟩ 85 ent_prefix_length,
    .op ⟨(some 19), (.bin .gtr (.t 16) (.t 18)), (some (15, false))⟩,
    .op ⟨(some 20), (.pick (.t 15) (.c (.bool true)) (.t 19)), none⟩]) (.view [.sel [1, 2, 4, 20] [0, 1]])
theorem ok_prefix_Of_J4 : AC.ok Try.prog (TIof Try.prog) 42 0 (kret [(.cell 4 true 4), (.t 5)] dec_prefix_Of) a_prefix_Of_J4 := (And.intro (And.intro (EntOkB.ok k_addr_Valid) (And.intro (EntOkB.ok k_prefix_length) True.intro)) True.intro)
theorem t_prefix_Of_J4 (v1 : Int) (b0_0 : Bool) (b0_1 : Int) (b0_2 : Int) (b1_0 : Bool) (b1_1 : Int) (b1_2 : Int) (b1_3 : Int) (K : Ex → Env → Mem → Option (AV × Bool)) : den 0 (kret [(.cell 4 true 4), (.t 5)] dec_prefix_Of) a_prefix_Of_J4 (envOf [(1, (.int .i64 v1)), (2, (.ptr 0 0)), (4, (.ptr 1 0))]) (memOf [(some (.box true [(.bool b0_0), (.int .u64 b0_1), (.int .u64 b0_2)])), (some (.box true [(.bool b1_0), (.int .u64 b1_1), (.int .u64 b1_2), (.int .i64 b1_3)]))]) K = prefix_Of_J4 v1 b0_0 b0_1 b0_2 b1_0 b1_1 b1_2 b1_3 (fun z_v20 => K .norm (envOf [(1, (.int .i64 v1)), (2, (.ptr 0 0)), (4, (.ptr 1 0)), (20, (.bool z_v20))]) (memOf [(some (.box true [(.bool b0_0), (.int .u64 b0_1), (.int .u64 b0_2)])), (some (.box true [(.bool b1_0), (.int .u64 b1_1), (.int .u64 b1_2), (.int .i64 b1_3)]))])) := by
  rw [prefix_Of_J4_eq]; kernel_rfl
noncomputable def s_prefix_Of_J4 : Env → Mem → (Ex → Env → Mem → Option (AV × Bool)) → Option (AV × Bool) := fun t m K => chk (fitS0 shp_prefix_Of_J4 t m) (cond (hdS shp_prefix_Of_J4 t m) (prefix_Of_J4 (gI [t 1] 0) (gB (bxC (m.s 0)) 0) (gI (bxC (m.s 0)) 1) (gI (bxC (m.s 0)) 2) (gB (bxC (m.s 1)) 0) (gI (bxC (m.s 1)) 1) (gI (bxC (m.s 1)) 2) (gI (bxC (m.s 1)) 3) (fun z_v20 => K .norm (envOf [(1, (.int .i64 (gI [t 1] 0))), (2, (.ptr 0 0)), (4, (.ptr 1 0)), (20, (.bool z_v20))]) (memOf [(some (.box true [(.bool (gB (bxC (m.s 0)) 0)), (.int .u64 (gI (bxC (m.s 0)) 1)), (.int .u64 (gI (bxC (m.s 0)) 2))])), (some (.box true [(.bool (gB (bxC (m.s 1)) 0)), (.int .u64 (gI (bxC (m.s 1)) 1)), (.int .u64 (gI (bxC (m.s 1)) 2)), (.int .i64 (gI (bxC (m.s 1)) 3))]))]))) none)
theorem o_prefix_Of_J4 : SubOk Try.prog (TIof Try.prog) 42 0 (kret [(.cell 4 true 4), (.t 5)] dec_prefix_Of) (scOf a_prefix_Of_J4) s_prefix_Of_J4 :=
  sub_of tabOk follows ok_prefix_Of_J4 (er_of (by kernel_rfl)) shp_prefix_Of_J4 (fun t m K => congrArg (fun z => chk (fitS0 shp_prefix_Of_J4 t m) (cond (hdS shp_prefix_Of_J4 t m) z none)) (t_prefix_Of_J4 (gI [t 1] 0) (gB (bxC (m.s 0)) 0) (gI (bxC (m.s 0)) 1) (gI (bxC (m.s 0)) 2) (gB (bxC (m.s 1)) 0) (gI (bxC (m.s 1)) 1) (gI (bxC (m.s 1)) 2) (gI (bxC (m.s 1)) 3) K).symm)
def shp_prefix_Of : Shp := ⟨[(0, .st [(.l .b), (.l (.i .u64)), (.l (.i .u64))]), (1, .one (.l (.i .i64)))], []⟩
noncomputable def prefix_Of_i (v0_0 : Bool) (v0_1 : Int) (v0_2 : Int) (v1 : Int) : Option (AV × Bool) :=
  (prefix_Of_J4 v1 v0_0 v0_1 v0_2 false (0 : Int) (0 : Int) (0 : Int) (fun v20 => (bif v20 then (some ((.agg [(.bool false), (.int .u64 (0 : Int)), (.int .u64 (0 : Int)), (.int .i64 (0 : Int))]), false)) else (oB (prefix_later v0_0 v1) fun r1 => (some ((.agg [(.bool v0_0), (.int .u64 (ibits .andNot .u64 v0_1 r1.1)), (.int .u64 (ibits .andNot .u64 v0_2 r1.2)), (.int .i64 v1)]), true))))))
noncomputable def prefix_Of := hull prefix_Of_i
theorem prefix_Of_eq : prefix_Of = prefix_Of_i := hull_eq _
noncomputable def a_prefix_Of : AC (AV × Bool) :=
  .seq (.reg [.op ⟨(some 2), (.box (.t 0)), none⟩,
    .op ⟨(some 4), (.alloc [(.bool false), (.int .u64 0), (.int .u64 0), (.int .i64 0)]), none⟩,
    .op ⟨(some 5), (.mv (.c (.bool false))), none⟩]) (.seq (.seq (.seq (.view [.sel [1, 2, 4] [0, 1]]) (.sub (scOf a_prefix_Of_J4) s_prefix_Of_J4)) (.cond (.t 20) (.seq (.reg [.op ⟨(some 21), (.build [(.bool false), (.int .u64 0), (.int .u64 0), (.int .i64 0)] []), none⟩,
    .op ⟨none, (.store 4 (.t 4) (.t 21)), none⟩,
    .op ⟨(some 5), (.mv (.c (.bool false))), none⟩]) (.ret)) (.skip))) (.seq (.reg [.op ⟨(some 23), (.fa 0 (.t 2)), none⟩,
    .op ⟨(some 24), (.load false 1 (.t 23)), none⟩,
    .op ⟨(some 25), (.mv (.t 1)), none⟩,
    .call ⟨(some 26), (.call 71 [(.t 24), (.t 25)]), none⟩ 71 ent_prefix_later,
    .op ⟨(some 22), (.mv (.t 26)), none⟩,
    .op ⟨(some 27), (.ext (.t 22) 0), none⟩,
    .op ⟨(some 28), (.ext (.t 22) 1), none⟩,
    .op ⟨(some 6), (.mv (.t 27)), none⟩,
    .op ⟨(some 7), (.mv (.t 28)), none⟩]) (.seq (.reg [.op ⟨(some 29), (.fa 1 (.t 2)), none⟩,
    .op ⟨(some 30), (.load false 1 (.t 29)), none⟩,
    .op ⟨(some 31), (.mv (.t 6)), none⟩,
    .op ⟨(some 32), (.bin .andNot (.t 30) (.t 31)), none⟩,
    .op ⟨(some 33), (.fa 1 (.t 2)), none⟩,
    .op ⟨none, (.store 1 (.t 33) (.t 32)), none⟩]) (.seq (.reg [.op ⟨(some 34), (.fa 2 (.t 2)), none⟩,
    .op ⟨(some 35), (.load false 1 (.t 34)), none⟩,
    .op ⟨(some 36), (.mv (.t 7)), none⟩,
    .op ⟨(some 37), (.bin .andNot (.t 35) (.t 36)), none⟩,
    .op ⟨(some 38), (.fa 2 (.t 2)), none⟩,
    .op ⟨none, (.store 1 (.t 38) (.t 37)), none⟩]) (.seq (.reg [.op ⟨(some 39), (.load true 3 (.t 2)), none⟩,
    .op ⟨(some 40), (.mv (.t 1)), none⟩,
    .op ⟨(some 41), (.build [(.bool false), (.int .u64 0), (.int .u64 0), (.int .i64 0)] [(0, (3, (.t 39))), (3, (1, (.t 40)))]), none⟩,
    .op ⟨none, (.store 4 (.t 4) (.t 41)), none⟩,
    .op ⟨(some 5), (.mv (.c (.bool true))), none⟩]) (.ret))))))
theorem ok_prefix_Of : AC.ok Try.prog (TIof Try.prog) 42 0 (kret [(.cell 4 true 4), (.t 5)] dec_prefix_Of) a_prefix_Of := (And.intro True.intro (And.intro (And.intro (And.intro True.intro o_prefix_Of_J4) (And.intro (And.intro True.intro True.intro) True.intro)) (And.intro (And.intro (EntOkB.ok k_prefix_later) True.intro) (And.intro True.intro (And.intro True.intro (And.intro True.intro True.intro))))))
theorem t_prefix_Of (v0_0 : Bool) (v0_1 : Int) (v0_2 : Int) (v1 : Int) : den 0 (kret [(.cell 4 true 4), (.t 5)] dec_prefix_Of) a_prefix_Of (envOf [(0, (.agg [(.bool v0_0), (.int .u64 v0_1), (.int .u64 v0_2)])), (1, (.int .i64 v1))]) (memOf []) (kend (kret [(.cell 4 true 4), (.t 5)] dec_prefix_Of)) = prefix_Of v0_0 v0_1 v0_2 v1 := by
  rw [prefix_Of_eq]; kernel_rfl
theorem c_prefix_Of : cFn (TIof Try.prog) Try.f96 = some ⟨42, [(.cell 4 true 4), (.t 5)], scOf a_prefix_Of⟩ := by kernel_rfl
noncomputable def ent_prefix_Of {R : Type} (xs : List AV) (K : AV → Option R) : Option R := chk (fitS shp_prefix_Of (entry xs) Mem.none) (oB (prefix_Of (gB ((entry xs) 0).cells 0) (gI ((entry xs) 0).cells 1) (gI ((entry xs) 0).cells 2) (gI [(entry xs) 1] 0)) fun r => K (enc_prefix_Of r))
theorem k_prefix_Of {R : Type} : EntOkB Try.prog 96 (ent_prefix_Of (R := R)) :=
  ent_of (F := fun xs => prefix_Of (gB ((entry xs) 0).cells 0) (gI ((entry xs) 0).cells 1) (gI ((entry xs) 0).cells 2) (gI [(entry xs) 1] 0)) (enc := enc_prefix_Of) tabOk follows Try.func96 (by kernel_rfl) c_prefix_Of (fun z r h => by
    obtain ⟨h1, h2⟩ := cond_some h
    cases h2
    exact (fitTup_eq h1).symm) ok_prefix_Of (er_of (by kernel_rfl)) shp_prefix_Of (fun xs => t_prefix_Of (gB ((entry xs) 0).cells 0) (gI ((entry xs) 0).cells 1) (gI ((entry xs) 0).cells 2) (gI [(entry xs) 1] 0)) (fun xs K r h => by
    unfold ent_prefix_Of at h
    exact ⟨(chk_some h).1, oB_some (chk_some h).2⟩)

/-! ddi/prefix.Contains -/
def dec_prefix_Contains (z : AV) : Option Bool := cond (fitRV (.one .b) z) (some (aB z)) none
def enc_prefix_Contains (r : Bool) : AV := .bool r
def shp_prefix_Contains : Shp := ⟨[(0, .st [(.l .b), (.l (.i .u64)), (.l (.i .u64)), (.l (.i .i64))]), (1, .st [(.l .b), (.l (.i .u64)), (.l (.i .u64))])], []⟩
noncomputable def prefix_Contains_i (v0_0 : Bool) (v0_1 : Int) (v0_2 : Int) (v0_3 : Int) (v1_0 : Bool) (v1_1 : Int) (v1_2 : Int) : Option Bool :=
  (oB (prefix_Valid v0_0 v0_1 v0_2 v0_3) fun r1 => (bif ((!r1) || (!((v0_0 == v1_0) && true))) then (some false) else (oB (prefix_Of v1_0 v1_1 v1_2 v0_3) fun r2 => (some (r2.2 && (((gB r2.1.cells 0) == v0_0) && (((gI r2.1.cells 1) == v0_1) && (((gI r2.1.cells 2) == v0_2) && (((gI r2.1.cells 3) == v0_3) && true)))))))))
noncomputable def prefix_Contains := hull prefix_Contains_i
theorem prefix_Contains_eq : prefix_Contains = prefix_Contains_i := hull_eq _
noncomputable def a_prefix_Contains : AC Bool :=
  .seq (.reg [.op ⟨(some 2), (.box (.t 0)), none⟩,
    .op ⟨(some 3), (.box (.t 1)), none⟩,
    .op ⟨(some 4), (.mv (.c (.bool false))), none⟩]) (.seq (.seq (.reg [.op ⟨(some 7), (.load true 4 (.t 2)), none⟩,
    .call ⟨(some 8), (.call 61 [(.t 7)]), none⟩ 61 ent_prefix_Valid,
    .op ⟨(some 9), (.un .not (.t 8)), none⟩,
    .op ⟨(some 10), (.mv (.t 9)), none⟩,
    .grp 10 false [⟨(some 11), (.fa 0 (.t 2)), (some (10, false))⟩, ⟨(some 12), (.fa 0 (.t 11)), (some (10, false))⟩, ⟨(some 13), (.load false 1 (.t 12)), (some (10, false))⟩, ⟨(some 14), (.fa 0 (.t 3)), (some (10, false))⟩, ⟨(some 15), (.load false 1 (.t 14)), (some (10, false))⟩, ⟨(some 16), (.eq true false [.b] (.t 13) (.t 15)), (some (10, false))⟩] 17 (.t 16)]) (.cond (.t 17) (.seq (.reg [.op ⟨(some 4), (.mv (.c (.bool false))), none⟩]) (.ret)) (.skip))) (.seq (.reg [.op ⟨(some 19), (.load true 3 (.t 3)), none⟩,
    .op ⟨(some 20), (.fa 3 (.t 2)), none⟩,
    .op ⟨(some 21), (.load false 1 (.t 20)), none⟩,
    .call ⟨(some 22), (.call 96 [(.t 19), (.t 21)]), none⟩ 96 ent_prefix_Of,
    .op ⟨(some 18), (.mv (.t 22)), none⟩,
    .op ⟨(some 23), (.ext (.t 18) 0), none⟩,
    .op ⟨(some 24), (.ext (.t 18) 1), none⟩,
    .op ⟨(some 5), (.alloc [(.bool false), (.int .u64 0), (.int .u64 0), (.int .i64 0)]), none⟩,
    .op ⟨none, (.store 4 (.t 5) (.t 23)), none⟩,
    .op ⟨(some 6), (.mv (.t 24)), none⟩]) (.seq (.reg [.op ⟨(some 25), (.mv (.t 6)), none⟩,
    .op ⟨(some 26), (.mv (.t 25)), none⟩,
    .grp 26 true [⟨(some 27), (.load true 4 (.t 5)), (some (26, true))⟩, ⟨(some 28), (.load true 4 (.t 2)), (some (26, true))⟩, ⟨(some 29), (.eq false true [.b, (.i .u64), (.i .u64), (.i .i64)] (.t 27) (.t 28)), (some (26, true))⟩] 30 (.t 29),
    .op ⟨(some 4), (.mv (.t 30)), none⟩]) (.ret))))
theorem ok_prefix_Contains : AC.ok Try.prog (TIof Try.prog) 31 0 (kret [(.t 4)] dec_prefix_Contains) a_prefix_Contains := (And.intro True.intro (And.intro (And.intro (And.intro (EntOkB.ok k_prefix_Valid) True.intro) (And.intro (And.intro True.intro True.intro) True.intro)) (And.intro (And.intro (EntOkB.ok k_prefix_Of) True.intro) (And.intro True.intro True.intro))))
theorem t_prefix_Contains (v0_0 : Bool) (v0_1 : Int) (v0_2 : Int) (v0_3 : Int) (v1_0 : Bool) (v1_1 : Int) (v1_2 : Int) : den 0 (kret [(.t 4)] dec_prefix_Contains) a_prefix_Contains (envOf [(0, (.agg [(.bool v0_0), (.int .u64 v0_1), (.int .u64 v0_2), (.int .i64 v0_3)])), (1, (.agg [(.bool v1_0), (.int .u64 v1_1), (.int .u64 v1_2)]))]) (memOf []) (kend (kret [(.t 4)] dec_prefix_Contains)) = prefix_Contains v0_0 v0_1 v0_2 v0_3 v1_0 v1_1 v1_2 := by
  rw [prefix_Contains_eq]; kernel_rfl
theorem c_prefix_Contains : cFn (TIof Try.prog) Try.f62 = some ⟨31, [(.t 4)], scOf a_prefix_Contains⟩ := by kernel_rfl
noncomputable def ent_prefix_Contains {R : Type} (xs : List AV) (K : AV → Option R) : Option R := chk (fitS shp_prefix_Contains (entry xs) Mem.none) (oB (prefix_Contains (gB ((entry xs) 0).cells 0) (gI ((entry xs) 0).cells 1) (gI ((entry xs) 0).cells 2) (gI ((entry xs) 0).cells 3) (gB ((entry xs) 1).cells 0) (gI ((entry xs) 1).cells 1) (gI ((entry xs) 1).cells 2)) fun r => K (enc_prefix_Contains r))
theorem k_prefix_Contains {R : Type} : EntOkB Try.prog 62 (ent_prefix_Contains (R := R)) :=
  ent_of (F := fun xs => prefix_Contains (gB ((entry xs) 0).cells 0) (gI ((entry xs) 0).cells 1) (gI ((entry xs) 0).cells 2) (gI ((entry xs) 0).cells 3) (gB ((entry xs) 1).cells 0) (gI ((entry xs) 1).cells 1) (gI ((entry xs) 1).cells 2)) (enc := enc_prefix_Contains) tabOk follows Try.func62 (by kernel_rfl) c_prefix_Contains (fun z r h => by
    obtain ⟨h1, h2⟩ := cond_some h
    cases h2
    exact (etaRV_eq h1).symm) ok_prefix_Contains (er_of (by kernel_rfl)) shp_prefix_Contains (fun xs => t_prefix_Contains (gB ((entry xs) 0).cells 0) (gI ((entry xs) 0).cells 1) (gI ((entry xs) 0).cells 2) (gI ((entry xs) 0).cells 3) (gB ((entry xs) 1).cells 0) (gI ((entry xs) 1).cells 1) (gI ((entry xs) 1).cells 2)) (fun xs K r h => by
    unfold ent_prefix_Contains at h
    exact ⟨(chk_some h).1, oB_some (chk_some h).2⟩)

/-! ddi/prefix.Within -/
def dec_prefix_Within (z : AV) : Option Bool := cond (fitRV (.one .b) z) (some (aB z)) none
def enc_prefix_Within (r : Bool) : AV := .bool r
def shp_prefix_Within : Shp := ⟨[(0, .st [(.l .b), (.l (.i .u64)), (.l (.i .u64)), (.l (.i .i64))]), (1, .st [(.l .b), (.l (.i .u64)), (.l (.i .u64)), (.l (.i .i64))])], []⟩
noncomputable def prefix_Within_i (v0_0 : Bool) (v0_1 : Int) (v0_2 : Int) (v0_3 : Int) (v1_0 : Bool) (v1_1 : Int) (v1_2 : Int) (v1_3 : Int) : Option Bool :=
  (oB (prefix_Valid v0_0 v0_1 v0_2 v0_3) fun r1 => (bif r1 then (oB (prefix_Valid v1_0 v1_1 v1_2 v1_3) fun r2 => (bif (r2 && (decide (v0_3 ≥ v1_3))) then (oB (prefix_Contains v1_0 v1_1 v1_2 v1_3 v0_0 v0_1 v0_2) fun r3 => (some r3)) else (some false))) else (some false)))
noncomputable def prefix_Within := hull prefix_Within_i
theorem prefix_Within_eq : prefix_Within = prefix_Within_i := hull_eq _
noncomputable def a_prefix_Within : AC Bool :=
  .seq (.reg [.op ⟨(some 2), (.box (.t 0)), none⟩,
    .op ⟨(some 3), (.box (.t 1)), none⟩,
    .op ⟨(some 4), (.mv (.c (.bool false))), none⟩]) (.seq (.reg [.op ⟨(some 5), (.load true 4 (.t 2)), none⟩,
    .call ⟨(some 6), (.call 61 [(.t 5)]), none⟩ 61 ent_prefix_Valid,
    .op ⟨(some 7), (.mv (.t 6)), none⟩,
    .op ⟨(some 8), (.load true 4 (.t 3)), (some (7, true))⟩,
    .call ⟨(some 9), (.call 61 [(.t 8)]), (some (7, true))⟩ 61 ent_prefix_Valid,
    .op ⟨(some 10), (.pick (.t 7) (.t 9) (.c (.bool false))), none⟩,
    .op ⟨(some 11), (.mv (.t 10)), none⟩,
    .grp 11 true [⟨(some 12), (.fa 3 (.t 2)), (some (11, true))⟩, ⟨(some 13), (.load false 1 (.t 12)), (some (11, true))⟩, ⟨(some 14), (.fa 3 (.t 3)), (some (11, true))⟩, ⟨(some 15), (.load false 1 (.t 14)), (some (11, true))⟩, ⟨(some 16), (.bin .geq (.t 13) (.t 15)), (some (11, true))⟩] 17 (.t 16),
    .op ⟨(some 18), (.mv (.t 17)), none⟩,
    .op ⟨(some 19), (.load true 4 (.t 3)), (some (18, true))⟩,
    .op ⟨(some 20), (.fa 0 (.t 2)), (some (18, true))⟩,
    .op ⟨(some 21), (.load true 3 (.t 20)), (some (18, true))⟩,
    .call ⟨(some 22), (.call 62 [(.t 19), (.t 21)]), (some (18, true))⟩ 62 ent_prefix_Contains,
    .op ⟨(some 23), (.pick (.t 18) (.t 22) (.c (.bool false))), none⟩,
    .op ⟨(some 4), (.mv (.t 23)), none⟩]) (.ret))
theorem ok_prefix_Within : AC.ok Try.prog (TIof Try.prog) 24 0 (kret [(.t 4)] dec_prefix_Within) a_prefix_Within := (And.intro True.intro (And.intro (And.intro (EntOkB.ok k_prefix_Valid) (And.intro (EntOkB.ok k_prefix_Valid) (And.intro (EntOkB.ok k_prefix_Contains) True.intro))) True.intro))
theorem t_prefix_Within (v0_0 : Bool) (v0_1 : Int) (v0_2 : Int) (v0_3 : Int) (v1_0 : Bool) (v1_1 : Int) (v1_2 : Int) (v1_3 : Int) : den 0 (kret [(.t 4)] dec_prefix_Within) a_prefix_Within (envOf [(0, (.agg [(.bool v0_0), (.int .u64 v0_1), (.int .u64 v0_2), (.int .i64 v0_3)])), (1, (.agg [(.bool v1_0), (.int .u64 v1_1), (.int .u64 v1_2), (.int .i64 v1_3)]))]) (memOf []) (kend (kret [(.t 4)] dec_prefix_Within)) = prefix_Within v0_0 v0_1 v0_2 v0_3 v1_0 v1_1 v1_2 v1_3 := by
  rw [prefix_Within_eq]; kernel_rfl
theorem c_prefix_Within : cFn (TIof Try.prog) Try.f23 = some ⟨24, [(.t 4)], scOf a_prefix_Within⟩ := by kernel_rfl
noncomputable def ent_prefix_Within {R : Type} (xs : List AV) (K : AV → Option R) : Option R := chk (fitS shp_prefix_Within (entry xs) Mem.none) (oB (prefix_Within (gB ((entry xs) 0).cells 0) (gI ((entry xs) 0).cells 1) (gI ((entry xs) 0).cells 2) (gI ((entry xs) 0).cells 3) (gB ((entry xs) 1).cells 0) (gI ((entry xs) 1).cells 1) (gI ((entry xs) 1).cells 2) (gI ((entry xs) 1).cells 3)) fun r => K (enc_prefix_Within r))
theorem k_prefix_Within {R : Type} : EntOkB Try.prog 23 (ent_prefix_Within (R := R)) :=
  ent_of (F := fun xs => prefix_Within (gB ((entry xs) 0).cells 0) (gI ((entry xs) 0).cells 1) (gI ((entry xs) 0).cells 2) (gI ((entry xs) 0).cells 3) (gB ((entry xs) 1).cells 0) (gI ((entry xs) 1).cells 1) (gI ((entry xs) 1).cells 2) (gI ((entry xs) 1).cells 3)) (enc := enc_prefix_Within) tabOk follows Try.func23 (by kernel_rfl) c_prefix_Within (fun z r h => by
    obtain ⟨h1, h2⟩ := cond_some h
    cases h2
    exact (etaRV_eq h1).symm) ok_prefix_Within (er_of (by kernel_rfl)) shp_prefix_Within (fun xs => t_prefix_Within (gB ((entry xs) 0).cells 0) (gI ((entry xs) 0).cells 1) (gI ((entry xs) 0).cells 2) (gI ((entry xs) 0).cells 3) (gB ((entry xs) 1).cells 0) (gI ((entry xs) 1).cells 1) (gI ((entry xs) 1).cells 2) (gI ((entry xs) 1).cells 3)) (fun xs K r h => by
    unfold ent_prefix_Within at h
    exact ⟨(chk_some h).1, oB_some (chk_some h).2⟩)

theorem k_hAdd64 {R : Type} : EntOk Try.prog 73 (ent_hAdd64 (R := R)) := k_add64 Try.func73 (by kernel_rfl) (by kernel_rfl) (by kernel_rfl) (by kernel_rfl)

/-! ddi/addr.Add -/
def dec_addr_Add (z : AV) : Option (AV × Bool) := cond (fitTup [(.st [.b, (.i .u64), (.i .u64)]), (.one .b)] z) (some ((gC (tpL z) 0), aB (gC (tpL z) 1))) none
def enc_addr_Add (r : AV × Bool) : AV := .tup [etaRV (.st [.b, (.i .u64), (.i .u64)]) r.1, .bool r.2]
def shp_addr_Add : Shp := ⟨[(0, .st [(.l .b), (.l (.i .u64)), (.l (.i .u64))]), (1, .one (.l (.i .u64)))], []⟩
noncomputable def addr_Add_i (v0_0 : Bool) (v0_1 : Int) (v0_2 : Int) (v1 : Int) : Option (AV × Bool) :=
  (oB (addr_Valid v0_0 v0_1 v0_2) fun r1 => (bif (!r1) then (some ((.agg [(.bool false), (.int .u64 (0 : Int)), (.int .u64 (0 : Int))]), false)) else (oB (hAdd64 v0_2 v1 (0 : Int)) fun r2 => (oB (hAdd64 v0_1 (0 : Int) r2.2) fun r3 => (bif (r3.2 != (0 : Int)) then (some ((.agg [(.bool false), (.int .u64 (0 : Int)), (.int .u64 (0 : Int))]), false)) else (oB (addr_Valid v0_0 r3.1 r2.1) fun r4 => (bif (!r4) then (some ((.agg [(.bool false), (.int .u64 (0 : Int)), (.int .u64 (0 : Int))]), false)) else (some ((.agg [(.bool v0_0), (.int .u64 r3.1), (.int .u64 r2.1)]), true)))))))))
noncomputable def addr_Add := hull addr_Add_i
theorem addr_Add_eq : addr_Add = addr_Add_i := hull_eq _
noncomputable def a_addr_Add : AC (AV × Bool) :=
  .seq (.reg [.op ⟨(some 2), (.box (.t 0)), none⟩,
    .op ⟨(some 4), (.alloc [(.bool false), (.int .u64 0), (.int .u64 0)]), none⟩,
    .op ⟨(some 5), (.mv (.c (.bool false))), none⟩]) (.seq (.seq (.reg [.op ⟨(some 11), (.load true 3 (.t 2)), none⟩,
    .call ⟨(some 12), (.call 72 [(.t 11)]), none⟩ 72 ent_addr_Valid,
    .op ⟨(some 13), (.un .not (.t 12)), none⟩]) (.cond (.t 13) (.seq (.reg [.op ⟨(some 14), (.build [(.bool false), (.int .u64 0), (.int .u64 0)] []), none⟩,
    .op ⟨none, (.store 3 (.t 4) (.t 14)), none⟩,
    .op ⟨(some 5), (.mv (.c (.bool false))), none⟩]) (.ret)) (.skip))) (.seq (.reg [.op ⟨(some 16), (.fa 2 (.t 2)), none⟩,
    .op ⟨(some 17), (.load false 1 (.t 16)), none⟩,
    .op ⟨(some 18), (.mv (.t 1)), none⟩,
    .call ⟨(some 19), (.call 73 [(.t 17), (.t 18), (.c (.int .u64 0))]), none⟩ 73 ent_hAdd64,
    .op ⟨(some 15), (.mv (.t 19)), none⟩,
    .op ⟨(some 20), (.ext (.t 15) 0), none⟩,
    .op ⟨(some 21), (.ext (.t 15) 1), none⟩,
    .op ⟨(some 6), (.mv (.t 20)), none⟩,
    .op ⟨(some 7), (.mv (.t 21)), none⟩]) (.seq (.reg [.op ⟨(some 23), (.fa 1 (.t 2)), none⟩,
    .op ⟨(some 24), (.load false 1 (.t 23)), none⟩,
    .op ⟨(some 25), (.mv (.t 7)), none⟩,
    .call ⟨(some 26), (.call 73 [(.t 24), (.c (.int .u64 0)), (.t 25)]), none⟩ 73 ent_hAdd64,
    .op ⟨(some 22), (.mv (.t 26)), none⟩,
    .op ⟨(some 27), (.ext (.t 22) 0), none⟩,
    .op ⟨(some 28), (.ext (.t 22) 1), none⟩,
    .op ⟨(some 8), (.mv (.t 27)), none⟩,
    .op ⟨(some 9), (.mv (.t 28)), none⟩]) (.seq (.reg [.op ⟨(some 29), (.fa 0 (.t 2)), none⟩,
    .op ⟨(some 30), (.load false 1 (.t 29)), none⟩,
    .op ⟨(some 31), (.mv (.t 8)), none⟩,
    .op ⟨(some 32), (.mv (.t 6)), none⟩,
    .op ⟨(some 33), (.build [(.bool false), (.int .u64 0), (.int .u64 0)] [(0, (1, (.t 30))), (1, (1, (.t 31))), (2, (1, (.t 32)))]), none⟩,
    .op ⟨(some 10), (.alloc [(.bool false), (.int .u64 0), (.int .u64 0)]), none⟩,
    .op ⟨none, (.store 3 (.t 10) (.t 33)), none⟩]) (.seq (.seq (.reg [.op ⟨(some 34), (.mv (.t 9)), none⟩,
    .op ⟨(some 35), (.bin .neq (.t 34) (.c (.int .u64 0))), none⟩,
    .op ⟨(some 36), (.mv (.t 35)), none⟩,
    .op ⟨(some 37), (.load true 3 (.t 10)), (some (36, false))⟩,
    .call ⟨(some 38), (.call 72 [(.t 37)]), (some (36, false))⟩ 72 ent_addr_Valid,
    .op ⟨(some 39), (.un .not (.t 38)), (some (36, false))⟩,
    .op ⟨(some 40), (.pick (.t 36) (.c (.bool true)) (.t 39)), none⟩]) (.cond (.t 40) (.seq (.reg [.op ⟨(some 41), (.build [(.bool false), (.int .u64 0), (.int .u64 0)] []), none⟩,
    .op ⟨none, (.store 3 (.t 4) (.t 41)), none⟩,
    .op ⟨(some 5), (.mv (.c (.bool false))), none⟩]) (.ret)) (.skip))) (.seq (.reg [.op ⟨(some 42), (.load true 3 (.t 10)), none⟩,
    .op ⟨none, (.store 3 (.t 4) (.t 42)), none⟩,
    .op ⟨(some 5), (.mv (.c (.bool true))), none⟩]) (.ret)))))))
theorem ok_addr_Add : AC.ok Try.prog (TIof Try.prog) 43 0 (kret [(.cell 4 true 3), (.t 5)] dec_addr_Add) a_addr_Add := (And.intro True.intro (And.intro (And.intro (And.intro (EntOkB.ok k_addr_Valid) True.intro) (And.intro (And.intro True.intro True.intro) True.intro)) (And.intro (And.intro k_hAdd64 True.intro) (And.intro (And.intro k_hAdd64 True.intro) (And.intro True.intro (And.intro (And.intro (And.intro (EntOkB.ok k_addr_Valid) True.intro) (And.intro (And.intro True.intro True.intro) True.intro)) (And.intro True.intro True.intro)))))))
theorem t_addr_Add (v0_0 : Bool) (v0_1 : Int) (v0_2 : Int) (v1 : Int) : den 0 (kret [(.cell 4 true 3), (.t 5)] dec_addr_Add) a_addr_Add (envOf [(0, (.agg [(.bool v0_0), (.int .u64 v0_1), (.int .u64 v0_2)])), (1, (.int .u64 v1))]) (memOf []) (kend (kret [(.cell 4 true 3), (.t 5)] dec_addr_Add)) = addr_Add v0_0 v0_1 v0_2 v1 := by
  rw [addr_Add_eq]; kernel_rfl
theorem c_addr_Add : cFn (TIof Try.prog) Try.f32 = some ⟨43, [(.cell 4 true 3), (.t 5)], scOf a_addr_Add⟩ := by kernel_rfl
noncomputable def ent_addr_Add {R : Type} (xs : List AV) (K : AV → Option R) : Option R := chk (fitS shp_addr_Add (entry xs) Mem.none) (oB (addr_Add (gB ((entry xs) 0).cells 0) (gI ((entry xs) 0).cells 1) (gI ((entry xs) 0).cells 2) (gI [(entry xs) 1] 0)) fun r => K (enc_addr_Add r))
theorem k_addr_Add {R : Type} : EntOkB Try.prog 32 (ent_addr_Add (R := R)) :=
  ent_of (F := fun xs => addr_Add (gB ((entry xs) 0).cells 0) (gI ((entry xs) 0).cells 1) (gI ((entry xs) 0).cells 2) (gI [(entry xs) 1] 0)) (enc := enc_addr_Add) tabOk follows Try.func32 (by kernel_rfl) c_addr_Add (fun z r h => by
    obtain ⟨h1, h2⟩ := cond_some h
    cases h2
    exact (fitTup_eq h1).symm) ok_addr_Add (er_of (by kernel_rfl)) shp_addr_Add (fun xs => t_addr_Add (gB ((entry xs) 0).cells 0) (gI ((entry xs) 0).cells 1) (gI ((entry xs) 0).cells 2) (gI [(entry xs) 1] 0)) (fun xs K r h => by
    unfold ent_addr_Add at h
    exact ⟨(chk_some h).1, oB_some (chk_some h).2⟩)

/-! ddi/allocate.Address -/
def dec_allocate_Address (z : AV) : Option (AV × Int) := cond (fitTup [(.st [.b, (.i .u64), (.i .u64)]), (.one (.i .i64))] z) (some ((gC (tpL z) 0), aI (gC (tpL z) 1))) none
def enc_allocate_Address (r : AV × Int) : AV := .tup [etaRV (.st [.b, (.i .u64), (.i .u64)]) r.1, .int .i64 r.2]
def shp_allocate_Address_L27 : Shp := ⟨[(0, .one (.l (.sl 8))), (5, .one (.ptr 0 0)), (6, .one (.ptr 1 0)), (10, .one (.ptr 2 0)), (12, .one (.map 3)), (40, .one (.l (.sl 5))), (41, .one (.l (.i .i64))), (42, .one (.l (.i .i64)))], [.box true [(.l .b), (.l (.i .u64)), (.l (.i .u64)), (.l (.i .i64))], .box true [(.l .b), (.l (.i .u64)), (.l (.i .u64))], .box true [(.l .b), (.l (.i .u64)), (.l (.i .u64)), (.l .b), (.l (.i .u64)), (.l (.i .u64))], .map]⟩
noncomputable def allocate_Address_L27_b  (v0 : List AV) (v40 : List AV) (v41 : Int) (v42 : Int) (b0_0 : Bool) (b0_1 : Int) (b0_2 : Int) (b0_3 : Int) (b1_0 : Bool) (b1_1 : Int) (b1_2 : Int) (b2_0 : Bool) (b2_1 : Int) (b2_2 : Int) (b2_3 : Bool) (b2_4 : Int) (b2_5 : Int) (m3 : List (AV × AV)) (next : Int → (List (AV × AV)) → Option (AV × Int)) (kx1 : (List (AV × AV)) → Option (AV × Int)) : Option (AV × Int) :=
  (bif (decide (v42 < v41)) then (oB (ixB v40 v42) fun y1 => (bif fitC T_api_Host y1.cells then (oB (mputL (.mk true [.b, (.i .u64), (.i .u64)]) (.agg [(.bool (gB y1.cells 1)), (.int .u64 (gI y1.cells 2)), (.int .u64 (gI y1.cells 3))]) (.bool true) m3) fun mq2 => (next (IntKind.i64.wrap (v42 + (1 : Int))) mq2)) else none)) else (kx1 m3))
noncomputable def allocate_Address_L27_i  (v0 : List AV) (v40 : List AV) (v41 : Int) (b0_0 : Bool) (b0_1 : Int) (b0_2 : Int) (b0_3 : Int) (b1_0 : Bool) (b1_1 : Int) (b1_2 : Int) (b2_0 : Bool) (b2_1 : Int) (b2_2 : Int) (b2_3 : Bool) (b2_4 : Int) (b2_5 : Int) (kx1 : (List (AV × AV)) → Option (AV × Int)) : Nat → Int → (List (AV × AV)) → Option (AV × Int)
  | 0 => (fun _ _ => none)
  | n + 1 => (fun v42 m3 => allocate_Address_L27_b v0 v40 v41 v42 b0_0 b0_1 b0_2 b0_3 b1_0 b1_1 b1_2 b2_0 b2_1 b2_2 b2_3 b2_4 b2_5 m3 (allocate_Address_L27_i v0 v40 v41 b0_0 b0_1 b0_2 b0_3 b1_0 b1_1 b1_2 b2_0 b2_1 b2_2 b2_3 b2_4 b2_5 kx1 n) kx1)
noncomputable def allocate_Address_L27 := hull (allocate_Address_L27_i)
theorem allocate_Address_L27_eq : allocate_Address_L27 = allocate_Address_L27_i := hull_eq _
noncomputable def a_allocate_Address_L27 : AC (AV × Int) :=
  .seq (.reg [.op ⟨(some 43), (.bin .lss (.t 42) (.t 41)), none⟩]) (.seq (.cond (.t 43) (.skip) (.seq (.view [.sel [0, 5, 6, 10, 12] [0, 1, 2, 3]]) (.exit 1))) (.seq (.block 2 (.seq (.reg [.op ⟨(some 44), (.ia 5 (.t 40) (.t 42)), none⟩,
    .st (.etac 44 T_api_Host),
    .op ⟨(some 45), (.load true 5 (.t 44)), none⟩,
    .op ⟨(some 14), (.alloc [(.str []), (.bool false), (.int .u64 0), (.int .u64 0), (.int .i64 0)]), none⟩,
    .op ⟨none, (.store 5 (.t 14) (.t 45)), none⟩]) (.reg [.op ⟨(some 46), (.mv (.t 12)), none⟩,
    .op ⟨(some 47), (.fa 1 (.t 14)), none⟩,
    .op ⟨(some 48), (.load true 3 (.t 47)), none⟩,
    .op ⟨none, (.mput (.mk true [.b, (.i .u64), (.i .u64)]) (.t 46) (.t 48) (.c (.bool true))), none⟩]))) (.seq (.reg [.op ⟨(some 49), (.bin .add (.t 42) (.c (.int .i64 1))), none⟩,
    .op ⟨(some 42), (.mv (.t 49)), none⟩]) (.view [.sel [0, 5, 6, 10, 12, 40, 41, 42] [0, 1, 2, 3]]))))
theorem ok_allocate_Address_L27 : AC.ok Try.prog (TIof Try.prog) 108 0 (kret [(.cell 6 true 3), (.t 7)] dec_allocate_Address) a_allocate_Address_L27 := (And.intro True.intro (And.intro (And.intro True.intro (And.intro True.intro True.intro)) (And.intro (And.intro True.intro True.intro) (And.intro True.intro True.intro))))
theorem t_allocate_Address_L27_b (v0 : List AV) (v40 : List AV) (v41 : Int) (v42 : Int) (b0_0 : Bool) (b0_1 : Int) (b0_2 : Int) (b0_3 : Int) (b1_0 : Bool) (b1_1 : Int) (b1_2 : Int) (b2_0 : Bool) (b2_1 : Int) (b2_2 : Int) (b2_3 : Bool) (b2_4 : Int) (b2_5 : Int) (m3 : List (AV × AV)) (K : Ex → Env → Mem → Option (AV × Int)) : den 0 (kret [(.cell 6 true 3), (.t 7)] dec_allocate_Address) a_allocate_Address_L27 (envOf [(0, (.sl 8 v0)), (5, (.ptr 0 0)), (6, (.ptr 1 0)), (10, (.ptr 2 0)), (12, (.map 3)), (40, (.sl 5 v40)), (41, (.int .i64 v41)), (42, (.int .i64 v42))]) (memOf [(some (.box true [(.bool b0_0), (.int .u64 b0_1), (.int .u64 b0_2), (.int .i64 b0_3)])), (some (.box true [(.bool b1_0), (.int .u64 b1_1), (.int .u64 b1_2)])), (some (.box true [(.bool b2_0), (.int .u64 b2_1), (.int .u64 b2_2), (.bool b2_3), (.int .u64 b2_4), (.int .u64 b2_5)])), (some (.map m3))]) K = allocate_Address_L27_b v0 v40 v41 v42 b0_0 b0_1 b0_2 b0_3 b1_0 b1_1 b1_2 b2_0 b2_1 b2_2 b2_3 b2_4 b2_5 m3 (fun z_v42 z_m3 => K .norm (envOf [(0, (.sl 8 v0)), (5, (.ptr 0 0)), (6, (.ptr 1 0)), (10, (.ptr 2 0)), (12, (.map 3)), (40, (.sl 5 v40)), (41, (.int .i64 v41)), (42, (.int .i64 z_v42))]) (memOf [(some (.box true [(.bool b0_0), (.int .u64 b0_1), (.int .u64 b0_2), (.int .i64 b0_3)])), (some (.box true [(.bool b1_0), (.int .u64 b1_1), (.int .u64 b1_2)])), (some (.box true [(.bool b2_0), (.int .u64 b2_1), (.int .u64 b2_2), (.bool b2_3), (.int .u64 b2_4), (.int .u64 b2_5)])), (some (.map z_m3))])) (fun z_m3 => K (.exit 1) (envOf [(0, (.sl 8 v0)), (5, (.ptr 0 0)), (6, (.ptr 1 0)), (10, (.ptr 2 0)), (12, (.map 3))]) (memOf [(some (.box true [(.bool b0_0), (.int .u64 b0_1), (.int .u64 b0_2), (.int .i64 b0_3)])), (some (.box true [(.bool b1_0), (.int .u64 b1_1), (.int .u64 b1_2)])), (some (.box true [(.bool b2_0), (.int .u64 b2_1), (.int .u64 b2_2), (.bool b2_3), (.int .u64 b2_4), (.int .u64 b2_5)])), (some (.map z_m3))])) := by kernel_rfl
theorem t_allocate_Address_L27 (v0 : List AV) (v40 : List AV) (v41 : Int) (b0_0 : Bool) (b0_1 : Int) (b0_2 : Int) (b0_3 : Int) (b1_0 : Bool) (b1_1 : Int) (b1_2 : Int) (b2_0 : Bool) (b2_1 : Int) (b2_2 : Int) (b2_3 : Bool) (b2_4 : Int) (b2_5 : Int) (K : Ex → Env → Mem → Option (AV × Int)) : ∀ (n : Nat) (v42 : Int) (m3 : List (AV × AV)), iterD (den 0 (kret [(.cell 6 true 3), (.t 7)] dec_allocate_Address) a_allocate_Address_L27) n (envOf [(0, (.sl 8 v0)), (5, (.ptr 0 0)), (6, (.ptr 1 0)), (10, (.ptr 2 0)), (12, (.map 3)), (40, (.sl 5 v40)), (41, (.int .i64 v41)), (42, (.int .i64 v42))]) (memOf [(some (.box true [(.bool b0_0), (.int .u64 b0_1), (.int .u64 b0_2), (.int .i64 b0_3)])), (some (.box true [(.bool b1_0), (.int .u64 b1_1), (.int .u64 b1_2)])), (some (.box true [(.bool b2_0), (.int .u64 b2_1), (.int .u64 b2_2), (.bool b2_3), (.int .u64 b2_4), (.int .u64 b2_5)])), (some (.map m3))]) K = allocate_Address_L27 v0 v40 v41 b0_0 b0_1 b0_2 b0_3 b1_0 b1_1 b1_2 b2_0 b2_1 b2_2 b2_3 b2_4 b2_5 (fun z_m3 => K (.exit 1) (envOf [(0, (.sl 8 v0)), (5, (.ptr 0 0)), (6, (.ptr 1 0)), (10, (.ptr 2 0)), (12, (.map 3))]) (memOf [(some (.box true [(.bool b0_0), (.int .u64 b0_1), (.int .u64 b0_2), (.int .i64 b0_3)])), (some (.box true [(.bool b1_0), (.int .u64 b1_1), (.int .u64 b1_2)])), (some (.box true [(.bool b2_0), (.int .u64 b2_1), (.int .u64 b2_2), (.bool b2_3), (.int .u64 b2_4), (.int .u64 b2_5)])), (some (.map z_m3))])) n v42 m3 := by
  rw [allocate_Address_L27_eq]
  intro n
  induction n with
  | zero => intros; rfl
  | succ n ih =>
    intro v42 m3
    exact (t_allocate_Address_L27_b v0 v40 v41 v42 b0_0 b0_1 b0_2 b0_3 b1_0 b1_1 b1_2 b2_0 b2_1 b2_2 b2_3 b2_4 b2_5 m3 (itK (den 0 (kret [(.cell 6 true 3), (.t 7)] dec_allocate_Address) a_allocate_Address_L27) n K)).trans (congrArg (fun q => allocate_Address_L27_b v0 v40 v41 v42 b0_0 b0_1 b0_2 b0_3 b1_0 b1_1 b1_2 b2_0 b2_1 b2_2 b2_3 b2_4 b2_5 m3 q (fun z_m3 => K (.exit 1) (envOf [(0, (.sl 8 v0)), (5, (.ptr 0 0)), (6, (.ptr 1 0)), (10, (.ptr 2 0)), (12, (.map 3))]) (memOf [(some (.box true [(.bool b0_0), (.int .u64 b0_1), (.int .u64 b0_2), (.int .i64 b0_3)])), (some (.box true [(.bool b1_0), (.int .u64 b1_1), (.int .u64 b1_2)])), (some (.box true [(.bool b2_0), (.int .u64 b2_1), (.int .u64 b2_2), (.bool b2_3), (.int .u64 b2_4), (.int .u64 b2_5)])), (some (.map z_m3))]))) (funext fun v42 => funext fun m3 => ih v42 m3))
noncomputable def s_allocate_Address_L27 : Env → Mem → (Ex → Env → Mem → Option (AV × Int)) → Option (AV × Int) := fun t m K => chk (fitS0 shp_allocate_Address_L27 t m) (cond (hdS shp_allocate_Address_L27 t m) (allocate_Address_L27 (gL [t 0] 0) (gL [t 40] 0) (gI [t 41] 0) (gB (bxC (m.s 0)) 0) (gI (bxC (m.s 0)) 1) (gI (bxC (m.s 0)) 2) (gI (bxC (m.s 0)) 3) (gB (bxC (m.s 1)) 0) (gI (bxC (m.s 1)) 1) (gI (bxC (m.s 1)) 2) (gB (bxC (m.s 2)) 0) (gI (bxC (m.s 2)) 1) (gI (bxC (m.s 2)) 2) (gB (bxC (m.s 2)) 3) (gI (bxC (m.s 2)) 4) (gI (bxC (m.s 2)) 5) (fun z_m3 => K (.exit 1) (envOf [(0, (.sl 8 (gL [t 0] 0))), (5, (.ptr 0 0)), (6, (.ptr 1 0)), (10, (.ptr 2 0)), (12, (.map 3))]) (memOf [(some (.box true [(.bool (gB (bxC (m.s 0)) 0)), (.int .u64 (gI (bxC (m.s 0)) 1)), (.int .u64 (gI (bxC (m.s 0)) 2)), (.int .i64 (gI (bxC (m.s 0)) 3))])), (some (.box true [(.bool (gB (bxC (m.s 1)) 0)), (.int .u64 (gI (bxC (m.s 1)) 1)), (.int .u64 (gI (bxC (m.s 1)) 2))])), (some (.box true [(.bool (gB (bxC (m.s 2)) 0)), (.int .u64 (gI (bxC (m.s 2)) 1)), (.int .u64 (gI (bxC (m.s 2)) 2)), (.bool (gB (bxC (m.s 2)) 3)), (.int .u64 (gI (bxC (m.s 2)) 4)), (.int .u64 (gI (bxC (m.s 2)) 5))])), (some (.map z_m3))])) FU (gI [t 42] 0) (mpL (m.s 3))) none)
theorem o_allocate_Address_L27 : SubOk Try.prog (TIof Try.prog) 108 0 (kret [(.cell 6 true 3), (.t 7)] dec_allocate_Address) (.loop (scOf a_allocate_Address_L27)) s_allocate_Address_L27 :=
  loop_of tabOk follows ok_allocate_Address_L27 (er_of (by kernel_rfl)) shp_allocate_Address_L27 (fun t m K => congrArg (fun z => chk (fitS0 shp_allocate_Address_L27 t m) (cond (hdS shp_allocate_Address_L27 t m) z none)) (t_allocate_Address_L27 (gL [t 0] 0) (gL [t 40] 0) (gI [t 41] 0) (gB (bxC (m.s 0)) 0) (gI (bxC (m.s 0)) 1) (gI (bxC (m.s 0)) 2) (gI (bxC (m.s 0)) 3) (gB (bxC (m.s 1)) 0) (gI (bxC (m.s 1)) 1) (gI (bxC (m.s 1)) 2) (gB (bxC (m.s 2)) 0) (gI (bxC (m.s 2)) 1) (gI (bxC (m.s 2)) 2) (gB (bxC (m.s 2)) 3) (gI (bxC (m.s 2)) 4) (gI (bxC (m.s 2)) 5) K FU (gI [t 42] 0) (mpL (m.s 3))).symm)
def shp_allocate_Address_L44 : Shp := ⟨[(5, .one (.ptr 0 0)), (6, .one (.ptr 1 0)), (10, .one (.ptr 2 0)), (12, .one (.map 3)), (50, .one (.l (.sl 8))), (51, .one (.l (.i .i64))), (52, .one (.l (.i .i64)))], [.box true [(.l .b), (.l (.i .u64)), (.l (.i .u64)), (.l (.i .i64))], .box true [(.l .b), (.l (.i .u64)), (.l (.i .u64))], .box true [(.l .b), (.l (.i .u64)), (.l (.i .u64)), (.l .b), (.l (.i .u64)), (.l (.i .u64))], .map]⟩
noncomputable def allocate_Address_L44_b  (v50 : List AV) (v51 : Int) (v52 : Int) (b0_0 : Bool) (b0_1 : Int) (b0_2 : Int) (b0_3 : Int) (b1_0 : Bool) (b1_1 : Int) (b1_2 : Int) (b2_0 : Bool) (b2_1 : Int) (b2_2 : Int) (b2_3 : Bool) (b2_4 : Int) (b2_5 : Int) (m3 : List (AV × AV)) (next : Int → (List (AV × AV)) → Option (AV × Int)) (kx3 : (List (AV × AV)) → Option (AV × Int)) : Option (AV × Int) :=
  (bif (decide (v52 < v51)) then (oB (ixB v50 v52) fun y1 => (bif fitC T_api_Block y1.cells then (bif (!(((gB y1.cells 0) == b0_0) && (((gI y1.cells 1) == b0_1) && (((gI y1.cells 2) == b0_2) && (((gI y1.cells 3) == b0_3) && true))))) then (oB (prefix_Within (gB y1.cells 0) (gI y1.cells 1) (gI y1.cells 2) (gI y1.cells 3) b0_0 b0_1 b0_2 b0_3) fun r2 => (bif r2 then (oB (mputL (.mk true [.b, (.i .u64), (.i .u64)]) (.agg [(.bool (gB y1.cells 0)), (.int .u64 (gI y1.cells 1)), (.int .u64 (gI y1.cells 2))]) (.bool true) m3) fun mq3 => (next (IntKind.i64.wrap (v52 + (1 : Int))) mq3)) else (next (IntKind.i64.wrap (v52 + (1 : Int))) m3))) else (next (IntKind.i64.wrap (v52 + (1 : Int))) m3)) else none)) else (kx3 m3))
noncomputable def allocate_Address_L44_i  (v50 : List AV) (v51 : Int) (b0_0 : Bool) (b0_1 : Int) (b0_2 : Int) (b0_3 : Int) (b1_0 : Bool) (b1_1 : Int) (b1_2 : Int) (b2_0 : Bool) (b2_1 : Int) (b2_2 : Int) (b2_3 : Bool) (b2_4 : Int) (b2_5 : Int) (kx3 : (List (AV × AV)) → Option (AV × Int)) : Nat → Int → (List (AV × AV)) → Option (AV × Int)
  | 0 => (fun _ _ => none)
  | n + 1 => (fun v52 m3 => allocate_Address_L44_b v50 v51 v52 b0_0 b0_1 b0_2 b0_3 b1_0 b1_1 b1_2 b2_0 b2_1 b2_2 b2_3 b2_4 b2_5 m3 (allocate_Address_L44_i v50 v51 b0_0 b0_1 b0_2 b0_3 b1_0 b1_1 b1_2 b2_0 b2_1 b2_2 b2_3 b2_4 b2_5 kx3 n) kx3)
noncomputable def allocate_Address_L44 := hull (allocate_Address_L44_i)
theorem allocate_Address_L44_eq : allocate_Address_L44 = allocate_Address_L44_i := hull_eq _
noncomputable def a_allocate_Address_L44 : AC (AV × Int) :=
  .seq (.reg [.op ⟨(some 53), (.bin .lss (.t 52) (.t 51)), none⟩]) (.seq (.cond (.t 53) (.skip) (.seq (.view [.sel [5, 6, 10, 12] [0, 1, 2, 3]]) (.exit 3))) (.seq (.block 4 (.seq (.reg [.op ⟨(some 54), (.ia 8 (.t 50) (.t 52)), none⟩,
    .st (.etac 54 T_api_Block),
    .op ⟨(some 55), (.load true 8 (.t 54)), none⟩,
    .op ⟨(some 16), (.alloc [(.bool false), (.int .u64 0), (.int .u64 0), (.int .i64 0), (.int .i64 0), (.str []), (.str []), (.int .i64 0)]), none⟩,
    .op ⟨none, (.store 8 (.t 16) (.t 55)), none⟩]) (.seq (.reg [.op ⟨(some 56), (.fa 0 (.t 16)), none⟩,
    .op ⟨(some 57), (.load true 4 (.t 56)), none⟩,
    .op ⟨(some 58), (.load true 4 (.t 5)), none⟩,
    .op ⟨(some 59), (.eq true true [.b, (.i .u64), (.i .u64), (.i .i64)] (.t 57) (.t 58)), none⟩,
    .op ⟨(some 60), (.mv (.t 59)), none⟩,
    .op ⟨(some 61), (.fa 0 (.t 16)), (some (60, true))⟩,
    .op ⟨(some 62), (.load true 4 (.t 61)), (some (60, true))⟩,
    .op ⟨(some 63), (.load true 4 (.t 5)), (some (60, true))⟩,
    .call ⟨(some 64), (.call 23 [(.t 62), (.t 63)]), (some (60, true))⟩ 23 ent_prefix_Within,
    .op ⟨(some 65), (.pick (.t 60) (.t 64) (.c (.bool false))), none⟩]) (.cond (.t 65) (.reg [.op ⟨(some 66), (.mv (.t 12)), none⟩,
    .op ⟨(some 67), (.fa 0 (.t 16)), none⟩,
    .op ⟨(some 68), (.fa 0 (.t 67)), none⟩,
    .op ⟨(some 69), (.load true 3 (.t 68)), none⟩,
    .op ⟨none, (.mput (.mk true [.b, (.i .u64), (.i .u64)]) (.t 66) (.t 69) (.c (.bool true))), none⟩]) (.skip))))) (.seq (.reg [.op ⟨(some 70), (.bin .add (.t 52) (.c (.int .i64 1))), none⟩,
    .op ⟨(some 52), (.mv (.t 70)), none⟩]) (.view [.sel [5, 6, 10, 12, 50, 51, 52] [0, 1, 2, 3]]))))
theorem ok_allocate_Address_L44 : AC.ok Try.prog (TIof Try.prog) 108 0 (kret [(.cell 6 true 3), (.t 7)] dec_allocate_Address) a_allocate_Address_L44 := (And.intro True.intro (And.intro (And.intro True.intro (And.intro True.intro True.intro)) (And.intro (And.intro True.intro (And.intro (And.intro (EntOkB.ok k_prefix_Within) True.intro) (And.intro True.intro True.intro))) (And.intro True.intro True.intro))))
theorem t_allocate_Address_L44_b (v50 : List AV) (v51 : Int) (v52 : Int) (b0_0 : Bool) (b0_1 : Int) (b0_2 : Int) (b0_3 : Int) (b1_0 : Bool) (b1_1 : Int) (b1_2 : Int) (b2_0 : Bool) (b2_1 : Int) (b2_2 : Int) (b2_3 : Bool) (b2_4 : Int) (b2_5 : Int) (m3 : List (AV × AV)) (K : Ex → Env → Mem → Option (AV × Int)) : den 0 (kret [(.cell 6 true 3), (.t 7)] dec_allocate_Address) a_allocate_Address_L44 (envOf [(5, (.ptr 0 0)), (6, (.ptr 1 0)), (10, (.ptr 2 0)), (12, (.map 3)), (50, (.sl 8 v50)), (51, (.int .i64 v51)), (52, (.int .i64 v52))]) (memOf [(some (.box true [(.bool b0_0), (.int .u64 b0_1), (.int .u64 b0_2), (.int .i64 b0_3)])), (some (.box true [(.bool b1_0), (.int .u64 b1_1), (.int .u64 b1_2)])), (some (.box true [(.bool b2_0), (.int .u64 b2_1), (.int .u64 b2_2), (.bool b2_3), (.int .u64 b2_4), (.int .u64 b2_5)])), (some (.map m3))]) K = allocate_Address_L44_b v50 v51 v52 b0_0 b0_1 b0_2 b0_3 b1_0 b1_1 b1_2 b2_0 b2_1 b2_2 b2_3 b2_4 b2_5 m3 (fun z_v52 z_m3 => K .norm (envOf [(5, (.ptr 0 0)), (6, (.ptr 1 0)), (10, (.ptr 2 0)), (12, (.map 3)), (50, (.sl 8 v50)), (51, (.int .i64 v51)), (52, (.int .i64 z_v52))]) (memOf [(some (.box true [(.bool b0_0), (.int .u64 b0_1), (.int .u64 b0_2), (.int .i64 b0_3)])), (some (.box true [(.bool b1_0), (.int .u64 b1_1), (.int .u64 b1_2)])), (some (.box true [(.bool b2_0), (.int .u64 b2_1), (.int .u64 b2_2), (.bool b2_3), (.int .u64 b2_4), (.int .u64 b2_5)])), (some (.map z_m3))])) (fun z_m3 => K (.exit 3) (envOf [(5, (.ptr 0 0)), (6, (.ptr 1 0)), (10, (.ptr 2 0)), (12, (.map 3))]) (memOf [(some (.box true [(.bool b0_0), (.int .u64 b0_1), (.int .u64 b0_2), (.int .i64 b0_3)])), (some (.box true [(.bool b1_0), (.int .u64 b1_1), (.int .u64 b1_2)])), (some (.box true [(.bool b2_0), (.int .u64 b2_1), (.int .u64 b2_2), (.bool b2_3), (.int .u64 b2_4), (.int .u64 b2_5)])), (some (.map z_m3))])) := by kernel_rfl
theorem t_allocate_Address_L44 (v50 : List AV) (v51 : Int) (b0_0 : Bool) (b0_1 : Int) (b0_2 : Int) (b0_3 : Int) (b1_0 : Bool) (b1_1 : Int) (b1_2 : Int) (b2_0 : Bool) (b2_1 : Int) (b2_2 : Int) (b2_3 : Bool) (b2_4 : Int) (b2_5 : Int) (K : Ex → Env → Mem → Option (AV × Int)) : ∀ (n : Nat) (v52 : Int) (m3 : List (AV × AV)), iterD (den 0 (kret [(.cell 6 true 3), (.t 7)] dec_allocate_Address) a_allocate_Address_L44) n (envOf [(5, (.ptr 0 0)), (6, (.ptr 1 0)), (10, (.ptr 2 0)), (12, (.map 3)), (50, (.sl 8 v50)), (51, (.int .i64 v51)), (52, (.int .i64 v52))]) (memOf [(some (.box true [(.bool b0_0), (.int .u64 b0_1), (.int .u64 b0_2), (.int .i64 b0_3)])), (some (.box true [(.bool b1_0), (.int .u64 b1_1), (.int .u64 b1_2)])), (some (.box true [(.bool b2_0), (.int .u64 b2_1), (.int .u64 b2_2), (.bool b2_3), (.int .u64 b2_4), (.int .u64 b2_5)])), (some (.map m3))]) K = allocate_Address_L44 v50 v51 b0_0 b0_1 b0_2 b0_3 b1_0 b1_1 b1_2 b2_0 b2_1 b2_2 b2_3 b2_4 b2_5 (fun z_m3 => K (.exit 3) (envOf [(5, (.ptr 0 0)), (6, (.ptr 1 0)), (10, (.ptr 2 0)), (12, (.map 3))]) (memOf [(some (.box true [(.bool b0_0), (.int .u64 b0_1), (.int .u64 b0_2), (.int .i64 b0_3)])), (some (.box true [(.bool b1_0), (.int .u64 b1_1), (.int .u64 b1_2)])), (some (.box true [(.bool b2_0), (.int .u64 b2_1), (.int .u64 b2_2), (.bool b2_3), (.int .u64 b2_4), (.int .u64 b2_5)])), (some (.map z_m3))])) n v52 m3 := by
  rw [allocate_Address_L44_eq]
  intro n
  induction n with
  | zero => intros; rfl
  | succ n ih =>
    intro v52 m3
    exact (t_allocate_Address_L44_b v50 v51 v52 b0_0 b0_1 b0_2 b0_3 b1_0 b1_1 b1_2 b2_0 b2_1 b2_2 b2_3 b2_4 b2_5 m3 (itK (den 0 (kret [(.cell 6 true 3), (.t 7)] dec_allocate_Address) a_allocate_Address_L44) n K)).trans (congrArg (fun q => allocate_Address_L44_b v50 v51 v52 b0_0 b0_1 b0_2 b0_3 b1_0 b1_1 b1_2 b2_0 b2_1 b2_2 b2_3 b2_4 b2_5 m3 q (fun z_m3 => K (.exit 3) (envOf [(5, (.ptr 0 0)), (6, (.ptr 1 0)), (10, (.ptr 2 0)), (12, (.map 3))]) (memOf [(some (.box true [(.bool b0_0), (.int .u64 b0_1), (.int .u64 b0_2), (.int .i64 b0_3)])), (some (.box true [(.bool b1_0), (.int .u64 b1_1), (.int .u64 b1_2)])), (some (.box true [(.bool b2_0), (.int .u64 b2_1), (.int .u64 b2_2), (.bool b2_3), (.int .u64 b2_4), (.int .u64 b2_5)])), (some (.map z_m3))]))) (funext fun v52 => funext fun m3 => ih v52 m3))
noncomputable def s_allocate_Address_L44 : Env → Mem → (Ex → Env → Mem → Option (AV × Int)) → Option (AV × Int) := fun t m K => chk (fitS0 shp_allocate_Address_L44 t m) (cond (hdS shp_allocate_Address_L44 t m) (allocate_Address_L44 (gL [t 50] 0) (gI [t 51] 0) (gB (bxC (m.s 0)) 0) (gI (bxC (m.s 0)) 1) (gI (bxC (m.s 0)) 2) (gI (bxC (m.s 0)) 3) (gB (bxC (m.s 1)) 0) (gI (bxC (m.s 1)) 1) (gI (bxC (m.s 1)) 2) (gB (bxC (m.s 2)) 0) (gI (bxC (m.s 2)) 1) (gI (bxC (m.s 2)) 2) (gB (bxC (m.s 2)) 3) (gI (bxC (m.s 2)) 4) (gI (bxC (m.s 2)) 5) (fun z_m3 => K (.exit 3) (envOf [(5, (.ptr 0 0)), (6, (.ptr 1 0)), (10, (.ptr 2 0)), (12, (.map 3))]) (memOf [(some (.box true [(.bool (gB (bxC (m.s 0)) 0)), (.int .u64 (gI (bxC (m.s 0)) 1)), (.int .u64 (gI (bxC (m.s 0)) 2)), (.int .i64 (gI (bxC (m.s 0)) 3))])), (some (.box true [(.bool (gB (bxC (m.s 1)) 0)), (.int .u64 (gI (bxC (m.s 1)) 1)), (.int .u64 (gI (bxC (m.s 1)) 2))])), (some (.box true [(.bool (gB (bxC (m.s 2)) 0)), (.int .u64 (gI (bxC (m.s 2)) 1)), (.int .u64 (gI (bxC (m.s 2)) 2)), (.bool (gB (bxC (m.s 2)) 3)), (.int .u64 (gI (bxC (m.s 2)) 4)), (.int .u64 (gI (bxC (m.s 2)) 5))])), (some (.map z_m3))])) FU (gI [t 52] 0) (mpL (m.s 3))) none)
theorem o_allocate_Address_L44 : SubOk Try.prog (TIof Try.prog) 108 0 (kret [(.cell 6 true 3), (.t 7)] dec_allocate_Address) (.loop (scOf a_allocate_Address_L44)) s_allocate_Address_L44 :=
  loop_of tabOk follows ok_allocate_Address_L44 (er_of (by kernel_rfl)) shp_allocate_Address_L44 (fun t m K => congrArg (fun z => chk (fitS0 shp_allocate_Address_L44 t m) (cond (hdS shp_allocate_Address_L44 t m) z none)) (t_allocate_Address_L44 (gL [t 50] 0) (gI [t 51] 0) (gB (bxC (m.s 0)) 0) (gI (bxC (m.s 0)) 1) (gI (bxC (m.s 0)) 2) (gI (bxC (m.s 0)) 3) (gB (bxC (m.s 1)) 0) (gI (bxC (m.s 1)) 1) (gI (bxC (m.s 1)) 2) (gB (bxC (m.s 2)) 0) (gI (bxC (m.s 2)) 1) (gI (bxC (m.s 2)) 2) (gB (bxC (m.s 2)) 3) (gI (bxC (m.s 2)) 4) (gI (bxC (m.s 2)) 5) K FU (gI [t 52] 0) (mpL (m.s 3))).symm)
def shp_allocate_Address_J79 : Shp := ⟨[(5, .one (.ptr 0 0)), (6, .one (.ptr 1 0)), (10, .one (.ptr 2 0)), (12, .one (.map 3)), (17, .one (.ptr 4 0)), (18, .one (.l .b))], [.box true [(.l .b), (.l (.i .u64)), (.l (.i .u64)), (.l (.i .i64))], .box true [(.l .b), (.l (.i .u64)), (.l (.i .u64))], .box true [(.l .b), (.l (.i .u64)), (.l (.i .u64)), (.l .b), (.l (.i .u64)), (.l (.i .u64))], .map, .box true [(.l .b), (.l (.i .u64)), (.l (.i .u64))]]⟩
noncomputable def allocate_Address_J79_i  (v18 : Bool) (b0_0 : Bool) (b0_1 : Int) (b0_2 : Int) (b0_3 : Int) (b1_0 : Bool) (b1_1 : Int) (b1_2 : Int) (b2_0 : Bool) (b2_1 : Int) (b2_2 : Int) (b2_3 : Bool) (b2_4 : Int) (b2_5 : Int) (m3 : List (AV × AV)) (b4_0 : Bool) (b4_1 : Int) (b4_2 : Int) (kn : Bool → Option (AV × Int)) : Option (AV × Int) :=
  (bif (!v18) then (mgB (.mk true [.b, (.i .u64), (.i .u64)]) (.agg [(.bool b4_0), (.int .u64 b4_1), (.int .u64 b4_2)]) m3 (fun q1 => (bif fitV (.one .b) q1 then (kn (!(aB q1))) else none)) (kn true)) else (kn false))
noncomputable def allocate_Address_J79 := hull (allocate_Address_J79_i)
theorem allocate_Address_J79_eq : allocate_Address_J79 = allocate_Address_J79_i := hull_eq _
noncomputable def a_allocate_Address_J79 : AC (AV × Int) :=
  .seq (.reg [.op ⟨(some 97), (.mv (.t 18)), none⟩,
    .op ⟨(some 98), (.un .not (.t 97)), none⟩,
    .op ⟨(some 99), (.mv (.t 98)), none⟩,
    .op ⟨(some 100), (.mv (.t 12)), (some (99, true))⟩,
    .op ⟨(some 101), (.load true 3 (.t 17)), (some (99, true))⟩,
    .op ⟨(some 102), (.mget (.mk true [.b, (.i .u64), (.i .u64)]) (.bool false) false (.t 100) (.t 101)), (some (99, true))⟩,
    .stg 99 true (.eta 102 (.one .b)),
    .op ⟨(some 103), (.un .not (.t 102)), (some (99, true))⟩,
    .op ⟨(some 104), (.pick (.t 99) (.t 103) (.c (.bool false))), none⟩]) (.view [.sel [5, 6, 10, 12, 17, 104] [0, 1, 2, 3, 4]])
theorem ok_allocate_Address_J79 : AC.ok Try.prog (TIof Try.prog) 108 0 (kret [(.cell 6 true 3), (.t 7)] dec_allocate_Address) a_allocate_Address_J79 := (And.intro True.intro True.intro)
theorem t_allocate_Address_J79 (v18 : Bool) (b0_0 : Bool) (b0_1 : Int) (b0_2 : Int) (b0_3 : Int) (b1_0 : Bool) (b1_1 : Int) (b1_2 : Int) (b2_0 : Bool) (b2_1 : Int) (b2_2 : Int) (b2_3 : Bool) (b2_4 : Int) (b2_5 : Int) (m3 : List (AV × AV)) (b4_0 : Bool) (b4_1 : Int) (b4_2 : Int) (K : Ex → Env → Mem → Option (AV × Int)) : den 0 (kret [(.cell 6 true 3), (.t 7)] dec_allocate_Address) a_allocate_Address_J79 (envOf [(5, (.ptr 0 0)), (6, (.ptr 1 0)), (10, (.ptr 2 0)), (12, (.map 3)), (17, (.ptr 4 0)), (18, (.bool v18))]) (memOf [(some (.box true [(.bool b0_0), (.int .u64 b0_1), (.int .u64 b0_2), (.int .i64 b0_3)])), (some (.box true [(.bool b1_0), (.int .u64 b1_1), (.int .u64 b1_2)])), (some (.box true [(.bool b2_0), (.int .u64 b2_1), (.int .u64 b2_2), (.bool b2_3), (.int .u64 b2_4), (.int .u64 b2_5)])), (some (.map m3)), (some (.box true [(.bool b4_0), (.int .u64 b4_1), (.int .u64 b4_2)]))]) K = allocate_Address_J79 v18 b0_0 b0_1 b0_2 b0_3 b1_0 b1_1 b1_2 b2_0 b2_1 b2_2 b2_3 b2_4 b2_5 m3 b4_0 b4_1 b4_2 (fun z_v104 => K .norm (envOf [(5, (.ptr 0 0)), (6, (.ptr 1 0)), (10, (.ptr 2 0)), (12, (.map 3)), (17, (.ptr 4 0)), (104, (.bool z_v104))]) (memOf [(some (.box true [(.bool b0_0), (.int .u64 b0_1), (.int .u64 b0_2), (.int .i64 b0_3)])), (some (.box true [(.bool b1_0), (.int .u64 b1_1), (.int .u64 b1_2)])), (some (.box true [(.bool b2_0), (.int .u64 b2_1), (.int .u64 b2_2), (.bool b2_3), (.int .u64 b2_4), (.int .u64 b2_5)])), (some (.map m3)), (some (.box true [(.bool b4_0), (.int .u64 b4_1), (.int .u64 b4_2)]))])) := by
  rw [allocate_Address_J79_eq]; kernel_rfl
noncomputable def s_allocate_Address_J79 : Env → Mem → (Ex → Env → Mem → Option (AV × Int)) → Option (AV × Int) := fun t m K => chk (fitS0 shp_allocate_Address_J79 t m) (cond (hdS shp_allocate_Address_J79 t m) (allocate_Address_J79 (gB [t 18] 0) (gB (bxC (m.s 0)) 0) (gI (bxC (m.s 0)) 1) (gI (bxC (m.s 0)) 2) (gI (bxC (m.s 0)) 3) (gB (bxC (m.s 1)) 0) (gI (bxC (m.s 1)) 1) (gI (bxC (m.s 1)) 2) (gB (bxC (m.s 2)) 0) (gI (bxC (m.s 2)) 1) (gI (bxC (m.s 2)) 2) (gB (bxC (m.s 2)) 3) (gI (bxC (m.s 2)) 4) (gI (bxC (m.s 2)) 5) (mpL (m.s 3)) (gB (bxC (m.s 4)) 0) (gI (bxC (m.s 4)) 1) (gI (bxC (m.s 4)) 2) (fun z_v104 => K .norm (envOf [(5, (.ptr 0 0)), (6, (.ptr 1 0)), (10, (.ptr 2 0)), (12, (.map 3)), (17, (.ptr 4 0)), (104, (.bool z_v104))]) (memOf [(some (.box true [(.bool (gB (bxC (m.s 0)) 0)), (.int .u64 (gI (bxC (m.s 0)) 1)), (.int .u64 (gI (bxC (m.s 0)) 2)), (.int .i64 (gI (bxC (m.s 0)) 3))])), (some (.box true [(.bool (gB (bxC (m.s 1)) 0)), (.int .u64 (gI (bxC (m.s 1)) 1)), (.int .u64 (gI (bxC (m.s 1)) 2))])), (some (.box true [(.bool (gB (bxC (m.s 2)) 0)), (.int .u64 (gI (bxC (m.s 2)) 1)), (.int .u64 (gI (bxC (m.s 2)) 2)), (.bool (gB (bxC (m.s 2)) 3)), (.int .u64 (gI (bxC (m.s 2)) 4)), (.int .u64 (gI (bxC (m.s 2)) 5))])), (some (.map (mpL (m.s 3)))), (some (.box true [(.bool (gB (bxC (m.s 4)) 0)), (.int .u64 (gI (bxC (m.s 4)) 1)), (.int .u64 (gI (bxC (m.s 4)) 2))]))]))) none)
theorem o_allocate_Address_J79 : SubOk Try.prog (TIof Try.prog) 108 0 (kret [(.cell 6 true 3), (.t 7)] dec_allocate_Address) (scOf a_allocate_Address_J79) s_allocate_Address_J79 :=
  sub_of tabOk follows ok_allocate_Address_J79 (er_of (by kernel_rfl)) shp_allocate_Address_J79 (fun t m K => congrArg (fun z => chk (fitS0 shp_allocate_Address_J79 t m) (cond (hdS shp_allocate_Address_J79 t m) z none)) (t_allocate_Address_J79 (gB [t 18] 0) (gB (bxC (m.s 0)) 0) (gI (bxC (m.s 0)) 1) (gI (bxC (m.s 0)) 2) (gI (bxC (m.s 0)) 3) (gB (bxC (m.s 1)) 0) (gI (bxC (m.s 1)) 1) (gI (bxC (m.s 1)) 2) (gB (bxC (m.s 2)) 0) (gI (bxC (m.s 2)) 1) (gI (bxC (m.s 2)) 2) (gB (bxC (m.s 2)) 3) (gI (bxC (m.s 2)) 4) (gI (bxC (m.s 2)) 5) (mpL (m.s 3)) (gB (bxC (m.s 4)) 0) (gI (bxC (m.s 4)) 1) (gI (bxC (m.s 4)) 2) K).symm)
def shp_allocate_Address_L65 : Shp := ⟨[(5, .one (.ptr 0 0)), (6, .one (.ptr 1 0)), (10, .one (.ptr 2 0)), (12, .one (.map 3)), (17, .one (.ptr 4 0))], [.box true [(.l .b), (.l (.i .u64)), (.l (.i .u64)), (.l (.i .i64))], .box true [(.l .b), (.l (.i .u64)), (.l (.i .u64))], .box true [(.l .b), (.l (.i .u64)), (.l (.i .u64)), (.l .b), (.l (.i .u64)), (.l (.i .u64))], .map, .box true [(.l .b), (.l (.i .u64)), (.l (.i .u64))]]⟩
noncomputable def allocate_Address_L65_b  (b0_0 : Bool) (b0_1 : Int) (b0_2 : Int) (b0_3 : Int) (b1_0 : Bool) (b1_1 : Int) (b1_2 : Int) (b2_0 : Bool) (b2_1 : Int) (b2_2 : Int) (b2_3 : Bool) (b2_4 : Int) (b2_5 : Int) (m3 : List (AV × AV)) (b4_0 : Bool) (b4_1 : Int) (b4_2 : Int) (next : Bool → Int → Int → Option (AV × Int)) (kx5 : Unit → Option (AV × Int)) : Option (AV × Int) :=
  (bif (!((b4_0 == b2_3) && ((b4_1 == b2_4) && ((b4_2 == b2_5) && true)))) then (oB (addr_Add b4_0 b4_1 b4_2 (1 : Int)) fun r1 => (allocate_Address_J79 (((((gB r1.1.cells 0) == b2_3) && (((gI r1.1.cells 1) == b2_4) && (((gI r1.1.cells 2) == b2_5) && true))) && (!b0_0)) && (decide (b0_3 ≤ (30 : Int)))) b0_0 b0_1 b0_2 b0_3 b1_0 b1_1 b1_2 b2_0 b2_1 b2_2 b2_3 b2_4 b2_5 m3 (gB r1.1.cells 0) (gI r1.1.cells 1) (gI r1.1.cells 2) (fun v104 => (bif v104 then (some ((.agg [(.bool (gB r1.1.cells 0)), (.int .u64 (gI r1.1.cells 1)), (.int .u64 (gI r1.1.cells 2))]), (0 : Int))) else (next (gB r1.1.cells 0) (gI r1.1.cells 1) (gI r1.1.cells 2)))))) else (kx5 ()))
noncomputable def allocate_Address_L65_i  (b0_0 : Bool) (b0_1 : Int) (b0_2 : Int) (b0_3 : Int) (b1_0 : Bool) (b1_1 : Int) (b1_2 : Int) (b2_0 : Bool) (b2_1 : Int) (b2_2 : Int) (b2_3 : Bool) (b2_4 : Int) (b2_5 : Int) (m3 : List (AV × AV)) (kx5 : Unit → Option (AV × Int)) : Nat → Bool → Int → Int → Option (AV × Int)
  | 0 => (fun _ _ _ => none)
  | n + 1 => (fun b4_0 b4_1 b4_2 => allocate_Address_L65_b b0_0 b0_1 b0_2 b0_3 b1_0 b1_1 b1_2 b2_0 b2_1 b2_2 b2_3 b2_4 b2_5 m3 b4_0 b4_1 b4_2 (allocate_Address_L65_i b0_0 b0_1 b0_2 b0_3 b1_0 b1_1 b1_2 b2_0 b2_1 b2_2 b2_3 b2_4 b2_5 m3 kx5 n) kx5)
noncomputable def allocate_Address_L65 := hull (allocate_Address_L65_i)
theorem allocate_Address_L65_eq : allocate_Address_L65 = allocate_Address_L65_i := hull_eq _
noncomputable def a_allocate_Address_L65 : AC (AV × Int) :=
  .seq (.seq (.reg [.op ⟨(some 73), (.load true 3 (.t 17)), none⟩,
    .op ⟨(some 74), (.fa 3 (.t 10)), none⟩,
    .op ⟨(some 75), (.load true 3 (.t 74)), none⟩,
    .op ⟨(some 76), (.eq true true [.b, (.i .u64), (.i .u64)] (.t 73) (.t 75)), none⟩]) (.cond (.t 76) (.skip) (.seq (.view [.sel [6] [1]]) (.exit 5)))) (.seq (.block 6 (.seq (.reg [.op ⟨(some 78), (.load true 3 (.t 17)), none⟩,
    .call ⟨(some 79), (.call 32 [(.t 78), (.c (.int .u64 1))]), none⟩ 32 ent_addr_Add,
    .op ⟨(some 77), (.mv (.t 79)), none⟩,
    .op ⟨(some 80), (.ext (.t 77) 0), none⟩,
    .op ⟨(some 81), (.ext (.t 77) 1), none⟩,
    .op ⟨none, (.store 3 (.t 17) (.t 80)), none⟩]) (.seq (.reg [.op ⟨(some 82), (.load true 3 (.t 17)), none⟩,
    .op ⟨(some 83), (.fa 3 (.t 10)), none⟩,
    .op ⟨(some 84), (.load true 3 (.t 83)), none⟩,
    .op ⟨(some 85), (.eq false true [.b, (.i .u64), (.i .u64)] (.t 82) (.t 84)), none⟩,
    .op ⟨(some 86), (.mv (.t 85)), none⟩,
    .grp 86 true [⟨(some 87), (.fa 0 (.t 5)), (some (86, true))⟩, ⟨(some 88), (.fa 0 (.t 87)), (some (86, true))⟩, ⟨(some 89), (.load false 1 (.t 88)), (some (86, true))⟩, ⟨(some 90), (.un .not (.t 89)), (some (86, true))⟩] 91 (.t 90),
    .op ⟨(some 92), (.mv (.t 91)), none⟩,
    .grp 92 true [⟨(some 93), (.fa 3 (.t 5)), (some (92, true))⟩, ⟨(some 94), (.load false 1 (.t 93)), (some (92, true))⟩, ⟨(some 95), (.bin .leq (.t 94) (.c (.int .i64 30))), (some (92, true))⟩] 96 (.t 95),
    .op ⟨(some 18), (.mv (.t 96)), none⟩]) (.seq (.seq (.view [.sel [5, 6, 10, 12, 17, 18] [0, 1, 2, 3, 4]]) (.sub (scOf a_allocate_Address_J79) s_allocate_Address_J79)) (.cond (.t 104) (.seq (.reg [.op ⟨(some 105), (.load true 3 (.t 17)), none⟩,
    .op ⟨none, (.store 3 (.t 6) (.t 105)), none⟩,
    .op ⟨(some 7), (.mv (.c (.int .i64 0))), none⟩]) (.ret)) (.skip)))))) (.seq (.reg [.op ⟨(some 106), (.load true 3 (.t 17)), none⟩]) (.seq (.reg [.op ⟨(some 17), (.alloc [(.bool false), (.int .u64 0), (.int .u64 0)]), none⟩,
    .op ⟨none, (.store 3 (.t 17) (.t 106)), none⟩]) (.view [.sel [5, 6, 10, 12, 17] [0, 1, 2, 3, 5]]))))
theorem ok_allocate_Address_L65 : AC.ok Try.prog (TIof Try.prog) 108 0 (kret [(.cell 6 true 3), (.t 7)] dec_allocate_Address) a_allocate_Address_L65 := (And.intro (And.intro True.intro (And.intro True.intro (And.intro True.intro True.intro))) (And.intro (And.intro (And.intro (EntOkB.ok k_addr_Add) True.intro) (And.intro True.intro (And.intro (And.intro True.intro o_allocate_Address_J79) (And.intro (And.intro True.intro True.intro) True.intro)))) (And.intro True.intro (And.intro True.intro True.intro))))
theorem t_allocate_Address_L65_b (b0_0 : Bool) (b0_1 : Int) (b0_2 : Int) (b0_3 : Int) (b1_0 : Bool) (b1_1 : Int) (b1_2 : Int) (b2_0 : Bool) (b2_1 : Int) (b2_2 : Int) (b2_3 : Bool) (b2_4 : Int) (b2_5 : Int) (m3 : List (AV × AV)) (b4_0 : Bool) (b4_1 : Int) (b4_2 : Int) (K : Ex → Env → Mem → Option (AV × Int)) : den 0 (kret [(.cell 6 true 3), (.t 7)] dec_allocate_Address) a_allocate_Address_L65 (envOf [(5, (.ptr 0 0)), (6, (.ptr 1 0)), (10, (.ptr 2 0)), (12, (.map 3)), (17, (.ptr 4 0))]) (memOf [(some (.box true [(.bool b0_0), (.int .u64 b0_1), (.int .u64 b0_2), (.int .i64 b0_3)])), (some (.box true [(.bool b1_0), (.int .u64 b1_1), (.int .u64 b1_2)])), (some (.box true [(.bool b2_0), (.int .u64 b2_1), (.int .u64 b2_2), (.bool b2_3), (.int .u64 b2_4), (.int .u64 b2_5)])), (some (.map m3)), (some (.box true [(.bool b4_0), (.int .u64 b4_1), (.int .u64 b4_2)]))]) K = allocate_Address_L65_b b0_0 b0_1 b0_2 b0_3 b1_0 b1_1 b1_2 b2_0 b2_1 b2_2 b2_3 b2_4 b2_5 m3 b4_0 b4_1 b4_2 (fun z_b4_0 z_b4_1 z_b4_2 => K .norm (envOf [(5, (.ptr 0 0)), (6, (.ptr 1 0)), (10, (.ptr 2 0)), (12, (.map 3)), (17, (.ptr 4 0))]) (memOf [(some (.box true [(.bool b0_0), (.int .u64 b0_1), (.int .u64 b0_2), (.int .i64 b0_3)])), (some (.box true [(.bool b1_0), (.int .u64 b1_1), (.int .u64 b1_2)])), (some (.box true [(.bool b2_0), (.int .u64 b2_1), (.int .u64 b2_2), (.bool b2_3), (.int .u64 b2_4), (.int .u64 b2_5)])), (some (.map m3)), (some (.box true [(.bool z_b4_0), (.int .u64 z_b4_1), (.int .u64 z_b4_2)]))])) (fun _ => K (.exit 5) (envOf [(6, (.ptr 0 0))]) (memOf [(some (.box true [(.bool b1_0), (.int .u64 b1_1), (.int .u64 b1_2)]))])) := by kernel_rfl
theorem t_allocate_Address_L65 (b0_0 : Bool) (b0_1 : Int) (b0_2 : Int) (b0_3 : Int) (b1_0 : Bool) (b1_1 : Int) (b1_2 : Int) (b2_0 : Bool) (b2_1 : Int) (b2_2 : Int) (b2_3 : Bool) (b2_4 : Int) (b2_5 : Int) (m3 : List (AV × AV)) (K : Ex → Env → Mem → Option (AV × Int)) : ∀ (n : Nat) (b4_0 : Bool) (b4_1 : Int) (b4_2 : Int), iterD (den 0 (kret [(.cell 6 true 3), (.t 7)] dec_allocate_Address) a_allocate_Address_L65) n (envOf [(5, (.ptr 0 0)), (6, (.ptr 1 0)), (10, (.ptr 2 0)), (12, (.map 3)), (17, (.ptr 4 0))]) (memOf [(some (.box true [(.bool b0_0), (.int .u64 b0_1), (.int .u64 b0_2), (.int .i64 b0_3)])), (some (.box true [(.bool b1_0), (.int .u64 b1_1), (.int .u64 b1_2)])), (some (.box true [(.bool b2_0), (.int .u64 b2_1), (.int .u64 b2_2), (.bool b2_3), (.int .u64 b2_4), (.int .u64 b2_5)])), (some (.map m3)), (some (.box true [(.bool b4_0), (.int .u64 b4_1), (.int .u64 b4_2)]))]) K = allocate_Address_L65 b0_0 b0_1 b0_2 b0_3 b1_0 b1_1 b1_2 b2_0 b2_1 b2_2 b2_3 b2_4 b2_5 m3 (fun _ => K (.exit 5) (envOf [(6, (.ptr 0 0))]) (memOf [(some (.box true [(.bool b1_0), (.int .u64 b1_1), (.int .u64 b1_2)]))])) n b4_0 b4_1 b4_2 := by
  rw [allocate_Address_L65_eq]
  intro n
  induction n with
  | zero => intros; rfl
  | succ n ih =>
    intro b4_0 b4_1 b4_2
    exact (t_allocate_Address_L65_b b0_0 b0_1 b0_2 b0_3 b1_0 b1_1 b1_2 b2_0 b2_1 b2_2 b2_3 b2_4 b2_5 m3 b4_0 b4_1 b4_2 (itK (den 0 (kret [(.cell 6 true 3), (.t 7)] dec_allocate_Address) a_allocate_Address_L65) n K)).trans (congrArg (fun q => allocate_Address_L65_b b0_0 b0_1 b0_2 b0_3 b1_0 b1_1 b1_2 b2_0 b2_1 b2_2 b2_3 b2_4 b2_5 m3 b4_0 b4_1 b4_2 q (fun _ => K (.exit 5) (envOf [(6, (.ptr 0 0))]) (memOf [(some (.box true [(.bool b1_0), (.int .u64 b1_1), (.int .u64 b1_2)]))]))) (funext fun b4_0 => funext fun b4_1 => funext fun b4_2 => ih b4_0 b4_1 b4_2))
noncomputable def s_allocate_Address_L65 : Env → Mem → (Ex → Env → Mem → Option (AV × Int)) → Option (AV × Int) := fun t m K => chk (fitS0 shp_allocate_Address_L65 t m) (cond (hdS shp_allocate_Address_L65 t m) (allocate_Address_L65 (gB (bxC (m.s 0)) 0) (gI (bxC (m.s 0)) 1) (gI (bxC (m.s 0)) 2) (gI (bxC (m.s 0)) 3) (gB (bxC (m.s 1)) 0) (gI (bxC (m.s 1)) 1) (gI (bxC (m.s 1)) 2) (gB (bxC (m.s 2)) 0) (gI (bxC (m.s 2)) 1) (gI (bxC (m.s 2)) 2) (gB (bxC (m.s 2)) 3) (gI (bxC (m.s 2)) 4) (gI (bxC (m.s 2)) 5) (mpL (m.s 3)) (fun _ => K (.exit 5) (envOf [(6, (.ptr 0 0))]) (memOf [(some (.box true [(.bool (gB (bxC (m.s 1)) 0)), (.int .u64 (gI (bxC (m.s 1)) 1)), (.int .u64 (gI (bxC (m.s 1)) 2))]))])) FU (gB (bxC (m.s 4)) 0) (gI (bxC (m.s 4)) 1) (gI (bxC (m.s 4)) 2)) none)
theorem o_allocate_Address_L65 : SubOk Try.prog (TIof Try.prog) 108 0 (kret [(.cell 6 true 3), (.t 7)] dec_allocate_Address) (.loop (scOf a_allocate_Address_L65)) s_allocate_Address_L65 :=
  loop_of tabOk follows ok_allocate_Address_L65 (er_of (by kernel_rfl)) shp_allocate_Address_L65 (fun t m K => congrArg (fun z => chk (fitS0 shp_allocate_Address_L65 t m) (cond (hdS shp_allocate_Address_L65 t m) z none)) (t_allocate_Address_L65 (gB (bxC (m.s 0)) 0) (gI (bxC (m.s 0)) 1) (gI (bxC (m.s 0)) 2) (gI (bxC (m.s 0)) 3) (gB (bxC (m.s 1)) 0) (gI (bxC (m.s 1)) 1) (gI (bxC (m.s 1)) 2) (gB (bxC (m.s 2)) 0) (gI (bxC (m.s 2)) 1) (gI (bxC (m.s 2)) 2) (gB (bxC (m.s 2)) 3) (gI (bxC (m.s 2)) 4) (gI (bxC (m.s 2)) 5) (mpL (m.s 3)) K FU (gB (bxC (m.s 4)) 0) (gI (bxC (m.s 4)) 1) (gI (bxC (m.s 4)) 2)).symm)
def shp_allocate_Address : Shp := ⟨[(0, .one (.l (.sl 8))), (1, .one (.l (.sl 5))), (2, .st [(.l .b), (.l (.i .u64)), (.l (.i .u64)), (.l (.i .i64))])], []⟩
noncomputable def allocate_Address_i (v0 : List AV) (v1 : List AV) (v2_0 : Bool) (v2_1 : Int) (v2_2 : Int) (v2_3 : Int) : Option (AV × Int) :=
  (oB (blocks_Find v0 v2_0 v2_1 v2_2 v2_3) fun r1 => (bif (!r1.2) then (some ((.agg [(.bool false), (.int .u64 (0 : Int)), (.int .u64 (0 : Int))]), (11 : Int))) else (bif ((gI r1.1.cells 4) != (2 : Int)) then (some ((.agg [(.bool false), (.int .u64 (0 : Int)), (.int .u64 (0 : Int))]), (21 : Int))) else (oB (prefix_Bounds v2_0 v2_1 v2_2 v2_3) fun r2 => (allocate_Address_L27 v0 v1 (v1.length : Int) v2_0 v2_1 v2_2 v2_3 false (0 : Int) (0 : Int) (gB r2.1.cells 0) (gI r2.1.cells 1) (gI r2.1.cells 2) (gB r2.1.cells 3) (gI r2.1.cells 4) (gI r2.1.cells 5) (fun m3 => (allocate_Address_L44 v0 (v0.length : Int) v2_0 v2_1 v2_2 v2_3 false (0 : Int) (0 : Int) (gB r2.1.cells 0) (gI r2.1.cells 1) (gI r2.1.cells 2) (gB r2.1.cells 3) (gI r2.1.cells 4) (gI r2.1.cells 5) (fun m3 => (allocate_Address_L65 v2_0 v2_1 v2_2 v2_3 false (0 : Int) (0 : Int) (gB r2.1.cells 0) (gI r2.1.cells 1) (gI r2.1.cells 2) (gB r2.1.cells 3) (gI r2.1.cells 4) (gI r2.1.cells 5) m3 (fun (_ : Unit) => (some ((.agg [(.bool false), (.int .u64 (0 : Int)), (.int .u64 (0 : Int))]), (22 : Int)))) FU (gB r2.1.cells 0) (gI r2.1.cells 1) (gI r2.1.cells 2))) FU (0 : Int) m3)) FU (0 : Int) ([]))))))
noncomputable def allocate_Address := hull allocate_Address_i
theorem allocate_Address_eq : allocate_Address = allocate_Address_i := hull_eq _
noncomputable def a_allocate_Address : AC (AV × Int) :=
  .seq (.reg [.op ⟨(some 5), (.box (.t 2)), none⟩,
    .op ⟨(some 6), (.alloc [(.bool false), (.int .u64 0), (.int .u64 0)]), none⟩,
    .op ⟨(some 7), (.mv (.c (.int .i64 0))), none⟩]) (.seq (.reg [.op ⟨(some 20), (.mv (.t 0)), none⟩,
    .op ⟨(some 21), (.load true 4 (.t 5)), none⟩,
    .call ⟨(some 22), (.call 25 [(.t 20), (.t 21)]), none⟩ 25 ent_blocks_Find,
    .op ⟨(some 19), (.mv (.t 22)), none⟩,
    .op ⟨(some 23), (.ext (.t 19) 0), none⟩,
    .op ⟨(some 24), (.ext (.t 19) 1), none⟩,
    .op ⟨(some 8), (.alloc [(.bool false), (.int .u64 0), (.int .u64 0), (.int .i64 0), (.int .i64 0), (.str []), (.str []), (.int .i64 0)]), none⟩,
    .op ⟨none, (.store 8 (.t 8) (.t 23)), none⟩,
    .op ⟨(some 9), (.mv (.t 24)), none⟩]) (.seq (.block 0 (.seq (.reg [.op ⟨(some 26), (.mv (.t 9)), none⟩,
    .op ⟨(some 27), (.un .not (.t 26)), none⟩,
    .op ⟨(some 25), (.mv (.t 27)), none⟩]) (.cond (.t 25) (.seq (.reg [.op ⟨(some 28), (.build [(.bool false), (.int .u64 0), (.int .u64 0)] []), none⟩,
    .op ⟨none, (.store 3 (.t 6) (.t 28)), none⟩,
    .op ⟨(some 7), (.mv (.c (.int .i64 11))), none⟩]) (.ret)) (.seq (.reg [.op ⟨(some 30), (.fa 4 (.t 8)), none⟩,
    .op ⟨(some 31), (.load false 1 (.t 30)), none⟩,
    .op ⟨(some 32), (.bin .neq (.t 31) (.c (.int .i64 2))), none⟩,
    .op ⟨(some 29), (.mv (.t 32)), none⟩]) (.cond (.t 29) (.seq (.reg [.op ⟨(some 33), (.build [(.bool false), (.int .u64 0), (.int .u64 0)] []), none⟩,
    .op ⟨none, (.store 3 (.t 6) (.t 33)), none⟩,
    .op ⟨(some 7), (.mv (.c (.int .i64 21))), none⟩]) (.ret)) (.skip)))))) (.seq (.reg [.op ⟨(some 35), (.load true 4 (.t 5)), none⟩,
    .call ⟨(some 36), (.call 31 [(.t 35)]), none⟩ 31 ent_prefix_Bounds,
    .op ⟨(some 34), (.mv (.t 36)), none⟩,
    .op ⟨(some 37), (.ext (.t 34) 0), none⟩,
    .op ⟨(some 38), (.ext (.t 34) 1), none⟩,
    .op ⟨(some 10), (.alloc [(.bool false), (.int .u64 0), (.int .u64 0), (.bool false), (.int .u64 0), (.int .u64 0)]), none⟩,
    .op ⟨none, (.store 6 (.t 10) (.t 37)), none⟩,
    .op ⟨(some 11), (.mv (.t 38)), none⟩]) (.seq (.reg [.op ⟨(some 39), .mkmap, none⟩,
    .op ⟨(some 12), (.mv (.t 39)), none⟩]) (.seq (.seq (.reg [.op ⟨(some 40), (.mv (.t 1)), none⟩,
    .op ⟨(some 41), (.len false (.t 40)), none⟩,
    .op ⟨(some 42), (.mv (.c (.int .i64 0))), none⟩]) (.block 1 (.seq (.view [.sel [0, 5, 6, 10, 12, 40, 41, 42] [0, 1, 3, 4]]) (.sub (.loop (scOf a_allocate_Address_L27)) s_allocate_Address_L27)))) (.seq (.seq (.reg [.op ⟨(some 50), (.mv (.t 0)), none⟩,
    .op ⟨(some 51), (.len false (.t 50)), none⟩,
    .op ⟨(some 52), (.mv (.c (.int .i64 0))), none⟩]) (.block 3 (.seq (.view [.sel [5, 6, 10, 12, 50, 51, 52] [0, 1, 2, 3]]) (.sub (.loop (scOf a_allocate_Address_L44)) s_allocate_Address_L44)))) (.seq (.seq (.reg [.op ⟨(some 71), (.fa 0 (.t 10)), none⟩,
    .op ⟨(some 72), (.load true 3 (.t 71)), none⟩,
    .op ⟨(some 17), (.alloc [(.bool false), (.int .u64 0), (.int .u64 0)]), none⟩,
    .op ⟨none, (.store 3 (.t 17) (.t 72)), none⟩]) (.block 5 (.seq (.view [.sel [5, 6, 10, 12, 17] [0, 1, 2, 3, 4]]) (.sub (.loop (scOf a_allocate_Address_L65)) s_allocate_Address_L65)))) (.seq (.reg [.op ⟨(some 107), (.build [(.bool false), (.int .u64 0), (.int .u64 0)] []), none⟩,
    .op ⟨none, (.store 3 (.t 6) (.t 107)), none⟩,
    .op ⟨(some 7), (.mv (.c (.int .i64 22))), none⟩]) (.ret)))))))))
theorem ok_allocate_Address : AC.ok Try.prog (TIof Try.prog) 108 0 (kret [(.cell 6 true 3), (.t 7)] dec_allocate_Address) a_allocate_Address := (And.intro True.intro (And.intro (And.intro (EntOkB.ok k_blocks_Find) True.intro) (And.intro (And.intro True.intro (And.intro (And.intro True.intro True.intro) (And.intro True.intro (And.intro (And.intro True.intro True.intro) True.intro)))) (And.intro (And.intro (EntOkB.ok k_prefix_Bounds) True.intro) (And.intro True.intro (And.intro (And.intro True.intro (And.intro True.intro o_allocate_Address_L27)) (And.intro (And.intro True.intro (And.intro True.intro o_allocate_Address_L44)) (And.intro (And.intro True.intro (And.intro True.intro o_allocate_Address_L65)) (And.intro True.intro True.intro)))))))))
theorem t_allocate_Address (v0 : List AV) (v1 : List AV) (v2_0 : Bool) (v2_1 : Int) (v2_2 : Int) (v2_3 : Int) : den 0 (kret [(.cell 6 true 3), (.t 7)] dec_allocate_Address) a_allocate_Address (envOf [(0, (.sl 8 v0)), (1, (.sl 5 v1)), (2, (.agg [(.bool v2_0), (.int .u64 v2_1), (.int .u64 v2_2), (.int .i64 v2_3)]))]) (memOf []) (kend (kret [(.cell 6 true 3), (.t 7)] dec_allocate_Address)) = allocate_Address v0 v1 v2_0 v2_1 v2_2 v2_3 := by
  rw [allocate_Address_eq]; kernel_rfl
theorem c_allocate_Address : cFn (TIof Try.prog) Try.f9 = some ⟨108, [(.cell 6 true 3), (.t 7)], scOf a_allocate_Address⟩ := by kernel_rfl
noncomputable def ent_allocate_Address {R : Type} (xs : List AV) (K : AV → Option R) : Option R := chk (fitS shp_allocate_Address (entry xs) Mem.none) (oB (allocate_Address (gL [(entry xs) 0] 0) (gL [(entry xs) 1] 0) (gB ((entry xs) 2).cells 0) (gI ((entry xs) 2).cells 1) (gI ((entry xs) 2).cells 2) (gI ((entry xs) 2).cells 3)) fun r => K (enc_allocate_Address r))
theorem k_allocate_Address {R : Type} : EntOkB Try.prog 9 (ent_allocate_Address (R := R)) :=
  ent_of (F := fun xs => allocate_Address (gL [(entry xs) 0] 0) (gL [(entry xs) 1] 0) (gB ((entry xs) 2).cells 0) (gI ((entry xs) 2).cells 1) (gI ((entry xs) 2).cells 2) (gI ((entry xs) 2).cells 3)) (enc := enc_allocate_Address) tabOk follows Try.func9 (by kernel_rfl) c_allocate_Address (fun z r h => by
    obtain ⟨h1, h2⟩ := cond_some h
    cases h2
    exact (fitTup_eq h1).symm) ok_allocate_Address (er_of (by kernel_rfl)) shp_allocate_Address (fun xs => t_allocate_Address (gL [(entry xs) 0] 0) (gL [(entry xs) 1] 0) (gB ((entry xs) 2).cells 0) (gI ((entry xs) 2).cells 1) (gI ((entry xs) 2).cells 2) (gI ((entry xs) 2).cells 3)) (fun xs K r h => by
    unfold ent_allocate_Address at h
    exact ⟨(chk_some h).1, oB_some (chk_some h).2⟩)

/-! ddi/ddilaw47.small -/
def dec_ddilaw47_small (z : AV) : Option Bool := cond (fitRV (.one .b) z) (some (aB z)) none
def enc_ddilaw47_small (r : Bool) : AV := .bool r
def shp_ddilaw47_small_L14 : Shp := ⟨[(0, .one (.l (.sl 8))), (3, .one (.l (.i .i64)))], []⟩
noncomputable def ddilaw47_small_L14_b  (v0 : List AV) (v3 : Int) (next : Int → Option Bool) (kx0 : Unit → Option Bool) : Option Bool :=
  (bif (decide (v3 < (v0.length : Int))) then (oB (ixB v0 v3) fun y1 => (bif fitC T_api_Block y1.cells then (bif (decide (((gS y1.cells 5).length : Int) > (100 : Int))) then (some false) else (oB (ixB v0 v3) fun y2 => (bif fitC T_api_Block y2.cells then (bif (decide (((gS y2.cells 6).length : Int) > (100 : Int))) then (some false) else (next (IntKind.i64.wrap (v3 + (1 : Int))))) else none))) else none)) else (kx0 ()))
noncomputable def ddilaw47_small_L14_i  (v0 : List AV) (kx0 : Unit → Option Bool) : Nat → Int → Option Bool
  | 0 => (fun _ => none)
  | n + 1 => (fun v3 => ddilaw47_small_L14_b v0 v3 (ddilaw47_small_L14_i v0 kx0 n) kx0)
noncomputable def ddilaw47_small_L14 := hull (ddilaw47_small_L14_i)
theorem ddilaw47_small_L14_eq : ddilaw47_small_L14 = ddilaw47_small_L14_i := hull_eq _
noncomputable def a_ddilaw47_small_L14 : AC Bool :=
  .seq (.seq (.reg [.op ⟨(some 7), (.mv (.t 3)), none⟩,
    .op ⟨(some 8), (.mv (.t 0)), none⟩,
    .op ⟨(some 9), (.len false (.t 8)), none⟩,
    .op ⟨(some 10), (.bin .lss (.t 7) (.t 9)), none⟩]) (.cond (.t 10) (.skip) (.seq (.view [.sel [] []]) (.exit 0)))) (.seq (.block 1 (.seq (.reg [.op ⟨(some 13), (.mv (.t 0)), none⟩,
    .op ⟨(some 14), (.mv (.t 3)), none⟩,
    .op ⟨(some 15), (.ia 8 (.t 13) (.t 14)), none⟩,
    .st (.etac 15 T_api_Block),
    .op ⟨(some 16), (.fa 5 (.t 15)), none⟩,
    .op ⟨(some 17), (.load false 1 (.t 16)), none⟩,
    .op ⟨(some 18), (.len true (.t 17)), none⟩,
    .op ⟨(some 19), (.bin .gtr (.t 18) (.c (.int .i64 100))), none⟩,
    .op ⟨(some 20), (.mv (.t 19)), none⟩,
    .op ⟨(some 21), (.mv (.t 0)), (some (20, false))⟩,
    .op ⟨(some 22), (.mv (.t 3)), (some (20, false))⟩,
    .op ⟨(some 23), (.ia 8 (.t 21) (.t 22)), (some (20, false))⟩,
    .stg 20 false (.etac 23 T_api_Block),
    .op ⟨(some 24), (.fa 6 (.t 23)), (some (20, false))⟩,
    .op ⟨(some 25), (.load false 1 (.t 24)), (some (20, false))⟩,
    .op ⟨(some 26), (.len true (.t 25)), (some (20, false))⟩,
    .op ⟨(some 27), (.bin .gtr (.t 26) (.c (.int .i64 100))), (some (20, false))⟩,
    .op ⟨(some 28), (.pick (.t 20) (.c (.bool true)) (.t 27)), none⟩]) (.cond (.t 28) (.seq (.reg [.op ⟨(some 2), (.mv (.c (.bool false))), none⟩]) (.ret)) (.skip)))) (.seq (.reg [.op ⟨(some 11), (.mv (.t 3)), none⟩,
    .op ⟨(some 12), (.bin .add (.t 11) (.c (.int .i64 1))), none⟩,
    .op ⟨(some 3), (.mv (.t 12)), none⟩]) (.view [.sel [0, 3] []])))
theorem ok_ddilaw47_small_L14 : AC.ok Try.prog (TIof Try.prog) 29 0 (kret [(.t 2)] dec_ddilaw47_small) a_ddilaw47_small_L14 := (And.intro (And.intro True.intro (And.intro True.intro (And.intro True.intro True.intro))) (And.intro (And.intro True.intro (And.intro (And.intro True.intro True.intro) True.intro)) (And.intro True.intro True.intro)))
theorem t_ddilaw47_small_L14_b (v0 : List AV) (v3 : Int) (K : Ex → Env → Mem → Option Bool) : den 0 (kret [(.t 2)] dec_ddilaw47_small) a_ddilaw47_small_L14 (envOf [(0, (.sl 8 v0)), (3, (.int .i64 v3))]) (memOf []) K = ddilaw47_small_L14_b v0 v3 (fun z_v3 => K .norm (envOf [(0, (.sl 8 v0)), (3, (.int .i64 z_v3))]) (memOf [])) (fun _ => K (.exit 0) (envOf []) (memOf [])) := by kernel_rfl
theorem t_ddilaw47_small_L14 (v0 : List AV) (K : Ex → Env → Mem → Option Bool) : ∀ (n : Nat) (v3 : Int), iterD (den 0 (kret [(.t 2)] dec_ddilaw47_small) a_ddilaw47_small_L14) n (envOf [(0, (.sl 8 v0)), (3, (.int .i64 v3))]) (memOf []) K = ddilaw47_small_L14 v0 (fun _ => K (.exit 0) (envOf []) (memOf [])) n v3 := by
  rw [ddilaw47_small_L14_eq]
  intro n
  induction n with
  | zero => intros; rfl
  | succ n ih =>
    intro v3
    exact (t_ddilaw47_small_L14_b v0 v3 (itK (den 0 (kret [(.t 2)] dec_ddilaw47_small) a_ddilaw47_small_L14) n K)).trans (congrArg (fun q => ddilaw47_small_L14_b v0 v3 q (fun _ => K (.exit 0) (envOf []) (memOf []))) (funext fun v3 => ih v3))
noncomputable def s_ddilaw47_small_L14 : Env → Mem → (Ex → Env → Mem → Option Bool) → Option Bool := fun t m K => chk (fitS0 shp_ddilaw47_small_L14 t m) (cond (hdS shp_ddilaw47_small_L14 t m) (ddilaw47_small_L14 (gL [t 0] 0) (fun _ => K (.exit 0) (envOf []) (memOf [])) FU (gI [t 3] 0)) none)
theorem o_ddilaw47_small_L14 : SubOk Try.prog (TIof Try.prog) 29 0 (kret [(.t 2)] dec_ddilaw47_small) (.loop (scOf a_ddilaw47_small_L14)) s_ddilaw47_small_L14 :=
  loop_of tabOk follows ok_ddilaw47_small_L14 (er_of (by kernel_rfl)) shp_ddilaw47_small_L14 (fun t m K => congrArg (fun z => chk (fitS0 shp_ddilaw47_small_L14 t m) (cond (hdS shp_ddilaw47_small_L14 t m) z none)) (t_ddilaw47_small_L14 (gL [t 0] 0) K FU (gI [t 3] 0)).symm)
def shp_ddilaw47_small : Shp := ⟨[(0, .one (.l (.sl 8)))], []⟩
noncomputable def ddilaw47_small_i (v0 : List AV) : Option Bool :=
  (bif (decide ((v0.length : Int) > (40 : Int))) then (some false) else (ddilaw47_small_L14 v0 (fun (_ : Unit) => (some true)) FU (0 : Int)))
noncomputable def ddilaw47_small := hull ddilaw47_small_i
theorem ddilaw47_small_eq : ddilaw47_small = ddilaw47_small_i := hull_eq _
noncomputable def a_ddilaw47_small : AC Bool :=
  .seq (.reg [.op ⟨(some 2), (.mv (.c (.bool false))), none⟩]) (.seq (.seq (.reg [.op ⟨(some 4), (.mv (.t 0)), none⟩,
    .op ⟨(some 5), (.len false (.t 4)), none⟩,
    .op ⟨(some 6), (.bin .gtr (.t 5) (.c (.int .i64 40))), none⟩]) (.cond (.t 6) (.seq (.reg [.op ⟨(some 2), (.mv (.c (.bool false))), none⟩]) (.ret)) (.skip))) (.seq (.seq (.reg [.op ⟨(some 3), (.mv (.c (.int .i64 0))), none⟩]) (.block 0 (.seq (.view [.sel [0, 3] []]) (.sub (.loop (scOf a_ddilaw47_small_L14)) s_ddilaw47_small_L14)))) (.seq (.reg [.op ⟨(some 2), (.mv (.c (.bool true))), none⟩]) (.ret))))
theorem ok_ddilaw47_small : AC.ok Try.prog (TIof Try.prog) 29 0 (kret [(.t 2)] dec_ddilaw47_small) a_ddilaw47_small := (And.intro True.intro (And.intro (And.intro True.intro (And.intro (And.intro True.intro True.intro) True.intro)) (And.intro (And.intro True.intro (And.intro True.intro o_ddilaw47_small_L14)) (And.intro True.intro True.intro))))
theorem t_ddilaw47_small (v0 : List AV) : den 0 (kret [(.t 2)] dec_ddilaw47_small) a_ddilaw47_small (envOf [(0, (.sl 8 v0))]) (memOf []) (kend (kret [(.t 2)] dec_ddilaw47_small)) = ddilaw47_small v0 := by
  rw [ddilaw47_small_eq]; kernel_rfl
theorem c_ddilaw47_small : cFn (TIof Try.prog) Try.f11 = some ⟨29, [(.t 2)], scOf a_ddilaw47_small⟩ := by kernel_rfl
noncomputable def ent_ddilaw47_small {R : Type} (xs : List AV) (K : AV → Option R) : Option R := chk (fitS shp_ddilaw47_small (entry xs) Mem.none) (oB (ddilaw47_small (gL [(entry xs) 0] 0)) fun r => K (enc_ddilaw47_small r))
theorem k_ddilaw47_small {R : Type} : EntOkB Try.prog 11 (ent_ddilaw47_small (R := R)) :=
  ent_of (F := fun xs => ddilaw47_small (gL [(entry xs) 0] 0)) (enc := enc_ddilaw47_small) tabOk follows Try.func11 (by kernel_rfl) c_ddilaw47_small (fun z r h => by
    obtain ⟨h1, h2⟩ := cond_some h
    cases h2
    exact (etaRV_eq h1).symm) ok_ddilaw47_small (er_of (by kernel_rfl)) shp_ddilaw47_small (fun xs => t_ddilaw47_small (gL [(entry xs) 0] 0)) (fun xs K r h => by
    unfold ent_ddilaw47_small at h
    exact ⟨(chk_some h).1, oB_some (chk_some h).2⟩)

/-! ddi/ddiref02.Valid -/
def dec_ddiref02_Valid (z : AV) : Option Bool := cond (fitRV (.one .b) z) (some (aB z)) none
def enc_ddiref02_Valid (r : Bool) : AV := .bool r
def shp_ddiref02_Valid : Shp := ⟨[(0, .st [(.l .b), (.l (.i .u64)), (.l (.i .u64))])], []⟩
noncomputable def ddiref02_Valid_i (v0_0 : Bool) (v0_1 : Int) (v0_2 : Int) : Option Bool :=
  (bif v0_0 then (some true) else (bif (v0_1 == (0 : Int)) then (some (decide (v0_2 < (4294967296 : Int)))) else (some false)))
noncomputable def ddiref02_Valid := hull ddiref02_Valid_i
theorem ddiref02_Valid_eq : ddiref02_Valid = ddiref02_Valid_i := hull_eq _
noncomputable def a_ddiref02_Valid : AC Bool :=
  .seq (.reg [.op ⟨(some 1), (.box (.t 0)), none⟩,
    .op ⟨(some 2), (.mv (.c (.bool false))), none⟩]) (.seq (.reg [.op ⟨(some 3), (.fa 0 (.t 1)), none⟩,
    .op ⟨(some 4), (.load false 1 (.t 3)), none⟩,
    .op ⟨(some 5), (.mv (.t 4)), none⟩,
    .op ⟨(some 6), (.fa 1 (.t 1)), (some (5, false))⟩,
    .op ⟨(some 7), (.load false 1 (.t 6)), (some (5, false))⟩,
    .op ⟨(some 8), (.bin .eql (.t 7) (.c (.int .u64 0))), (some (5, false))⟩,
    .op ⟨(some 9), (.mv (.t 8)), (some (5, false))⟩,
    .op ⟨(some 10), (.fa 2 (.t 1)), (some (9, true))⟩,
    .op ⟨(some 11), (.load false 1 (.t 10)), (some (9, true))⟩,
    .op ⟨(some 12), (.bin .lss (.t 11) (.c (.int .u64 4294967296))), (some (9, true))⟩,
    .op ⟨(some 13), (.pick (.t 9) (.t 12) (.c (.bool false))), (some (5, false))⟩,
    .op ⟨(some 14), (.pick (.t 5) (.c (.bool true)) (.t 13)), none⟩,
    .op ⟨(some 2), (.mv (.t 14)), none⟩]) (.ret))
theorem ok_ddiref02_Valid : AC.ok Try.prog (TIof Try.prog) 15 0 (kret [(.t 2)] dec_ddiref02_Valid) a_ddiref02_Valid := (And.intro True.intro (And.intro True.intro True.intro))
theorem t_ddiref02_Valid (v0_0 : Bool) (v0_1 : Int) (v0_2 : Int) : den 0 (kret [(.t 2)] dec_ddiref02_Valid) a_ddiref02_Valid (envOf [(0, (.agg [(.bool v0_0), (.int .u64 v0_1), (.int .u64 v0_2)]))]) (memOf []) (kend (kret [(.t 2)] dec_ddiref02_Valid)) = ddiref02_Valid v0_0 v0_1 v0_2 := by
  rw [ddiref02_Valid_eq]; kernel_rfl
theorem c_ddiref02_Valid : cFn (TIof Try.prog) Try.f74 = some ⟨15, [(.t 2)], scOf a_ddiref02_Valid⟩ := by kernel_rfl
noncomputable def ent_ddiref02_Valid {R : Type} (xs : List AV) (K : AV → Option R) : Option R := chk (fitS shp_ddiref02_Valid (entry xs) Mem.none) (oB (ddiref02_Valid (gB ((entry xs) 0).cells 0) (gI ((entry xs) 0).cells 1) (gI ((entry xs) 0).cells 2)) fun r => K (enc_ddiref02_Valid r))
theorem k_ddiref02_Valid {R : Type} : EntOkB Try.prog 74 (ent_ddiref02_Valid (R := R)) :=
  ent_of (F := fun xs => ddiref02_Valid (gB ((entry xs) 0).cells 0) (gI ((entry xs) 0).cells 1) (gI ((entry xs) 0).cells 2)) (enc := enc_ddiref02_Valid) tabOk follows Try.func74 (by kernel_rfl) c_ddiref02_Valid (fun z r h => by
    obtain ⟨h1, h2⟩ := cond_some h
    cases h2
    exact (etaRV_eq h1).symm) ok_ddiref02_Valid (er_of (by kernel_rfl)) shp_ddiref02_Valid (fun xs => t_ddiref02_Valid (gB ((entry xs) 0).cells 0) (gI ((entry xs) 0).cells 1) (gI ((entry xs) 0).cells 2)) (fun xs K r h => by
    unfold ent_ddiref02_Valid at h
    exact ⟨(chk_some h).1, oB_some (chk_some h).2⟩)

/-! ddi/ddiref03.Long -/
def dec_ddiref03_Long (z : AV) : Option Int := cond (fitRV (.one (.i .i64)) z) (some (aI z)) none
def enc_ddiref03_Long (r : Int) : AV := .int .i64 r
def shp_ddiref03_Long : Shp := ⟨[(0, .one (.l .b))], []⟩
noncomputable def ddiref03_Long_i (v0 : Bool) : Option Int :=
  (bif v0 then (some (128 : Int)) else (some (32 : Int)))
noncomputable def ddiref03_Long := hull ddiref03_Long_i
theorem ddiref03_Long_eq : ddiref03_Long = ddiref03_Long_i := hull_eq _
noncomputable def a_ddiref03_Long : AC Int :=
  .seq (.reg [.op ⟨(some 2), (.mv (.c (.int .i64 0))), none⟩]) (.seq (.seq (.reg [.op ⟨(some 3), (.mv (.t 0)), none⟩]) (.cond (.t 3) (.seq (.reg [.op ⟨(some 2), (.mv (.c (.int .i64 128))), none⟩]) (.ret)) (.skip))) (.seq (.reg [.op ⟨(some 2), (.mv (.c (.int .i64 32))), none⟩]) (.ret)))
theorem ok_ddiref03_Long : AC.ok Try.prog (TIof Try.prog) 4 0 (kret [(.t 2)] dec_ddiref03_Long) a_ddiref03_Long := (And.intro True.intro (And.intro (And.intro True.intro (And.intro (And.intro True.intro True.intro) True.intro)) (And.intro True.intro True.intro)))
theorem t_ddiref03_Long (v0 : Bool) : den 0 (kret [(.t 2)] dec_ddiref03_Long) a_ddiref03_Long (envOf [(0, (.bool v0))]) (memOf []) (kend (kret [(.t 2)] dec_ddiref03_Long)) = ddiref03_Long v0 := by
  rw [ddiref03_Long_eq]; kernel_rfl
theorem c_ddiref03_Long : cFn (TIof Try.prog) Try.f75 = some ⟨4, [(.t 2)], scOf a_ddiref03_Long⟩ := by kernel_rfl
noncomputable def ent_ddiref03_Long {R : Type} (xs : List AV) (K : AV → Option R) : Option R := chk (fitS shp_ddiref03_Long (entry xs) Mem.none) (oB (ddiref03_Long (gB [(entry xs) 0] 0)) fun r => K (enc_ddiref03_Long r))
theorem k_ddiref03_Long {R : Type} : EntOkB Try.prog 75 (ent_ddiref03_Long (R := R)) :=
  ent_of (F := fun xs => ddiref03_Long (gB [(entry xs) 0] 0)) (enc := enc_ddiref03_Long) tabOk follows Try.func75 (by kernel_rfl) c_ddiref03_Long (fun z r h => by
    obtain ⟨h1, h2⟩ := cond_some h
    cases h2
    exact (etaRV_eq h1).symm) ok_ddiref03_Long (er_of (by kernel_rfl)) shp_ddiref03_Long (fun xs => t_ddiref03_Long (gB [(entry xs) 0] 0)) (fun xs K r h => by
    unfold ent_ddiref03_Long at h
    exact ⟨(chk_some h).1, oB_some (chk_some h).2⟩)

/-! ddi/ddiref03.ones -/
def dec_ddiref03_ones (z : AV) : Option (Int × Int) := cond (fitTup [(.one (.i .u64)), (.one (.i .u64))] z) (some (aI (gC (tpL z) 0), aI (gC (tpL z) 1))) none
def enc_ddiref03_ones (r : Int × Int) : AV := .tup [.int .u64 r.1, .int .u64 r.2]
def shp_ddiref03_ones_L8 : Shp := ⟨[(0, .one (.l (.i .i64))), (4, .one (.l (.i .u64))), (5, .one (.l (.i .u64))), (6, .one (.l (.i .i64)))], []⟩
noncomputable def ddiref03_ones_L8_b  (v0 : Int) (v4 : Int) (v5 : Int) (v6 : Int) (next : Int → Int → Int → Option (Int × Int)) (kx0 : Int → Int → Option (Int × Int)) : Option (Int × Int) :=
  (bif ((decide (v6 < v0)) && (decide (v6 < (128 : Int)))) then (next (IntKind.u64.wrap ((IntKind.u64.wrap (v4 * (2 : Int))) + (IntKind.u64.wrap (v5.tdiv (9223372036854775808 : Int))))) (IntKind.u64.wrap ((IntKind.u64.wrap (v5 * (2 : Int))) + (1 : Int))) (IntKind.i64.wrap (v6 + (1 : Int)))) else (kx0 v4 v5))
noncomputable def ddiref03_ones_L8_i  (v0 : Int) (kx0 : Int → Int → Option (Int × Int)) : Nat → Int → Int → Int → Option (Int × Int)
  | 0 => (fun _ _ _ => none)
  | n + 1 => (fun v4 v5 v6 => ddiref03_ones_L8_b v0 v4 v5 v6 (ddiref03_ones_L8_i v0 kx0 n) kx0)
noncomputable def ddiref03_ones_L8 := hull (ddiref03_ones_L8_i)
theorem ddiref03_ones_L8_eq : ddiref03_ones_L8 = ddiref03_ones_L8_i := hull_eq _
noncomputable def a_ddiref03_ones_L8 : AC (Int × Int) :=
  .seq (.seq (.reg [.op ⟨(some 7), (.mv (.t 6)), none⟩,
    .op ⟨(some 8), (.mv (.t 0)), none⟩,
    .op ⟨(some 9), (.bin .lss (.t 7) (.t 8)), none⟩,
    .op ⟨(some 10), (.mv (.t 9)), none⟩,
    .grp 10 true [⟨(some 11), (.mv (.t 6)), (some (10, true))⟩, ⟨(some 12), (.bin .lss (.t 11) (.c (.int .i64 128))), (some (10, true))⟩] 13 (.t 12)]) (.cond (.t 13) (.skip) (.seq (.view [.sel [4, 5] []]) (.exit 0)))) (.seq (.block 1 (.seq (.reg [.op ⟨(some 16), (.mv (.t 4)), none⟩,
    .op ⟨(some 17), (.bin .mul (.t 16) (.c (.int .u64 2))), none⟩,
    .op ⟨(some 18), (.mv (.t 5)), none⟩,
    .op ⟨(some 19), (.bin .quo (.t 18) (.c (.int .u64 9223372036854775808))), none⟩,
    .op ⟨(some 20), (.bin .add (.t 17) (.t 19)), none⟩,
    .op ⟨(some 4), (.mv (.t 20)), none⟩]) (.reg [.op ⟨(some 21), (.mv (.t 5)), none⟩,
    .op ⟨(some 22), (.bin .mul (.t 21) (.c (.int .u64 2))), none⟩,
    .op ⟨(some 23), (.bin .add (.t 22) (.c (.int .u64 1))), none⟩,
    .op ⟨(some 5), (.mv (.t 23)), none⟩]))) (.seq (.reg [.op ⟨(some 14), (.mv (.t 6)), none⟩,
    .op ⟨(some 15), (.bin .add (.t 14) (.c (.int .i64 1))), none⟩,
    .op ⟨(some 6), (.mv (.t 15)), none⟩]) (.view [.sel [0, 4, 5, 6] []])))
theorem ok_ddiref03_ones_L8 : AC.ok Try.prog (TIof Try.prog) 26 0 (kret [(.t 2), (.t 3)] dec_ddiref03_ones) a_ddiref03_ones_L8 := (And.intro (And.intro True.intro (And.intro True.intro (And.intro True.intro True.intro))) (And.intro (And.intro True.intro True.intro) (And.intro True.intro True.intro)))
theorem t_ddiref03_ones_L8_b (v0 : Int) (v4 : Int) (v5 : Int) (v6 : Int) (K : Ex → Env → Mem → Option (Int × Int)) : den 0 (kret [(.t 2), (.t 3)] dec_ddiref03_ones) a_ddiref03_ones_L8 (envOf [(0, (.int .i64 v0)), (4, (.int .u64 v4)), (5, (.int .u64 v5)), (6, (.int .i64 v6))]) (memOf []) K = ddiref03_ones_L8_b v0 v4 v5 v6 (fun z_v4 z_v5 z_v6 => K .norm (envOf [(0, (.int .i64 v0)), (4, (.int .u64 z_v4)), (5, (.int .u64 z_v5)), (6, (.int .i64 z_v6))]) (memOf [])) (fun z_v4 z_v5 => K (.exit 0) (envOf [(4, (.int .u64 z_v4)), (5, (.int .u64 z_v5))]) (memOf [])) := by kernel_rfl
theorem t_ddiref03_ones_L8 (v0 : Int) (K : Ex → Env → Mem → Option (Int × Int)) : ∀ (n : Nat) (v4 : Int) (v5 : Int) (v6 : Int), iterD (den 0 (kret [(.t 2), (.t 3)] dec_ddiref03_ones) a_ddiref03_ones_L8) n (envOf [(0, (.int .i64 v0)), (4, (.int .u64 v4)), (5, (.int .u64 v5)), (6, (.int .i64 v6))]) (memOf []) K = ddiref03_ones_L8 v0 (fun z_v4 z_v5 => K (.exit 0) (envOf [(4, (.int .u64 z_v4)), (5, (.int .u64 z_v5))]) (memOf [])) n v4 v5 v6 := by
  rw [ddiref03_ones_L8_eq]
  intro n
  induction n with
  | zero => intros; rfl
  | succ n ih =>
    intro v4 v5 v6
    exact (t_ddiref03_ones_L8_b v0 v4 v5 v6 (itK (den 0 (kret [(.t 2), (.t 3)] dec_ddiref03_ones) a_ddiref03_ones_L8) n K)).trans (congrArg (fun q => ddiref03_ones_L8_b v0 v4 v5 v6 q (fun z_v4 z_v5 => K (.exit 0) (envOf [(4, (.int .u64 z_v4)), (5, (.int .u64 z_v5))]) (memOf []))) (funext fun v4 => funext fun v5 => funext fun v6 => ih v4 v5 v6))
noncomputable def s_ddiref03_ones_L8 : Env → Mem → (Ex → Env → Mem → Option (Int × Int)) → Option (Int × Int) := fun t m K => chk (fitS0 shp_ddiref03_ones_L8 t m) (cond (hdS shp_ddiref03_ones_L8 t m) (ddiref03_ones_L8 (gI [t 0] 0) (fun z_v4 z_v5 => K (.exit 0) (envOf [(4, (.int .u64 z_v4)), (5, (.int .u64 z_v5))]) (memOf [])) FU (gI [t 4] 0) (gI [t 5] 0) (gI [t 6] 0)) none)
theorem o_ddiref03_ones_L8 : SubOk Try.prog (TIof Try.prog) 26 0 (kret [(.t 2), (.t 3)] dec_ddiref03_ones) (.loop (scOf a_ddiref03_ones_L8)) s_ddiref03_ones_L8 :=
  loop_of tabOk follows ok_ddiref03_ones_L8 (er_of (by kernel_rfl)) shp_ddiref03_ones_L8 (fun t m K => congrArg (fun z => chk (fitS0 shp_ddiref03_ones_L8 t m) (cond (hdS shp_ddiref03_ones_L8 t m) z none)) (t_ddiref03_ones_L8 (gI [t 0] 0) K FU (gI [t 4] 0) (gI [t 5] 0) (gI [t 6] 0)).symm)
def shp_ddiref03_ones : Shp := ⟨[(0, .one (.l (.i .i64)))], []⟩
noncomputable def ddiref03_ones_i (v0 : Int) : Option (Int × Int) :=
  (ddiref03_ones_L8 v0 (fun v4 v5 => (some (v4, v5))) FU (0 : Int) (0 : Int) (0 : Int))
noncomputable def ddiref03_ones := hull ddiref03_ones_i
theorem ddiref03_ones_eq : ddiref03_ones = ddiref03_ones_i := hull_eq _
noncomputable def a_ddiref03_ones : AC (Int × Int) :=
  .seq (.reg [.op ⟨(some 2), (.mv (.c (.int .u64 0))), none⟩,
    .op ⟨(some 3), (.mv (.c (.int .u64 0))), none⟩]) (.seq (.reg [.op ⟨(some 4), (.mv (.c (.int .u64 0))), none⟩,
    .op ⟨(some 5), (.mv (.c (.int .u64 0))), none⟩]) (.seq (.seq (.reg [.op ⟨(some 6), (.mv (.c (.int .i64 0))), none⟩]) (.block 0 (.seq (.view [.sel [0, 4, 5, 6] []]) (.sub (.loop (scOf a_ddiref03_ones_L8)) s_ddiref03_ones_L8)))) (.seq (.reg [.op ⟨(some 24), (.mv (.t 4)), none⟩,
    .op ⟨(some 25), (.mv (.t 5)), none⟩,
    .op ⟨(some 2), (.mv (.t 24)), none⟩,
    .op ⟨(some 3), (.mv (.t 25)), none⟩]) (.ret))))
theorem ok_ddiref03_ones : AC.ok Try.prog (TIof Try.prog) 26 0 (kret [(.t 2), (.t 3)] dec_ddiref03_ones) a_ddiref03_ones := (And.intro True.intro (And.intro True.intro (And.intro (And.intro True.intro (And.intro True.intro o_ddiref03_ones_L8)) (And.intro True.intro True.intro))))
theorem t_ddiref03_ones (v0 : Int) : den 0 (kret [(.t 2), (.t 3)] dec_ddiref03_ones) a_ddiref03_ones (envOf [(0, (.int .i64 v0))]) (memOf []) (kend (kret [(.t 2), (.t 3)] dec_ddiref03_ones)) = ddiref03_ones v0 := by
  rw [ddiref03_ones_eq]; kernel_rfl
theorem c_ddiref03_ones : cFn (TIof Try.prog) Try.f76 = some ⟨26, [(.t 2), (.t 3)], scOf a_ddiref03_ones⟩ := by kernel_rfl
noncomputable def ent_ddiref03_ones {R : Type} (xs : List AV) (K : AV → Option R) : Option R := chk (fitS shp_ddiref03_ones (entry xs) Mem.none) (oB (ddiref03_ones (gI [(entry xs) 0] 0)) fun r => K (enc_ddiref03_ones r))
theorem k_ddiref03_ones {R : Type} : EntOkB Try.prog 76 (ent_ddiref03_ones (R := R)) :=
  ent_of (F := fun xs => ddiref03_ones (gI [(entry xs) 0] 0)) (enc := enc_ddiref03_ones) tabOk follows Try.func76 (by kernel_rfl) c_ddiref03_ones (fun z r h => by
    obtain ⟨h1, h2⟩ := cond_some h
    cases h2
    exact (fitTup_eq h1).symm) ok_ddiref03_ones (er_of (by kernel_rfl)) shp_ddiref03_ones (fun xs => t_ddiref03_ones (gI [(entry xs) 0] 0)) (fun xs K r h => by
    unfold ent_ddiref03_ones at h
    exact ⟨(chk_some h).1, oB_some (chk_some h).2⟩)

/-! ddi/ddiref03.Valid -/
def dec_ddiref03_Valid (z : AV) : Option Bool := cond (fitRV (.one .b) z) (some (aB z)) none
def enc_ddiref03_Valid (r : Bool) : AV := .bool r
def shp_ddiref03_Valid_J4 : Shp := ⟨[(1, .one (.ptr 0 0))], [.box true [(.l .b), (.l (.i .u64)), (.l (.i .u64)), (.l (.i .i64))]]⟩
noncomputable def ddiref03_Valid_J4_i  (b0_0 : Bool) (b0_1 : Int) (b0_2 : Int) (b0_3 : Int) (kn : Bool → Option Bool) : Option Bool :=
  (oB (ddiref02_Valid b0_0 b0_1 b0_2) fun r1 => (bif (!r1) then (kn true) else (bif (decide (b0_3 < (0 : Int))) then (kn true) else (oB (ddiref03_Long b0_0) fun r2 => (kn (decide (b0_3 > r2)))))))
noncomputable def ddiref03_Valid_J4 := hull (ddiref03_Valid_J4_i)
theorem ddiref03_Valid_J4_eq : ddiref03_Valid_J4 = ddiref03_Valid_J4_i := hull_eq _
noncomputable def a_ddiref03_Valid_J4 : AC Bool :=
  .seq (.draw [] [.op ⟨(some 5), (.fa 0 (.t 1)), none⟩,
    .op ⟨(some 6), (.load true 3 (.t 5)), none⟩,
    .call ⟨(some 7), (.call 74 [(.t 6)]), none⟩ 74 ent_ddiref02_Valid,
    .op ⟨(some 8), (.un .not (.t 7)), none⟩,
    .op ⟨(some 9), (.mv (.t 8)), none⟩,
    .op ⟨(some 10), (.fa 3 (.t 1)), (some (9, false))⟩,
    .op ⟨(some 11), (.load false 1 (.t 10)), (some (9, false))⟩,
    .op ⟨(some 12), (.bin .lss (.t 11) (.c (.int .i64 0))), (some (9, false))⟩,
    .op ⟨(some 13), (.pick (.t 9) (.c (.bool true)) (.t 12)), none⟩,
    .op ⟨(some 14), (.mv (.t 13)), none⟩,
    .op ⟨(some 15), (.fa 3 (.t 1)), (some (14, false))⟩,
    .op ⟨(some 16), (.load false 1 (.t 15)), (some (14, false))⟩,
    .op ⟨(some 17), (.fa 0 (.t 1)), (some (14, false))⟩,
    .op ⟨(some 18), (.fa 0 (.t 17)), (some (14, false))⟩,
    .op ⟨(some 19), (.load false 1 (.t 18)), (some (14, false))⟩,
    .call ⟨(some 20), (.call 75 [(.t 19)]), (some (14, false))⟩ 75 ent_ddiref03_Long] [.op ⟨(some 21), (.bin .gtr (.t 16) (.t 20)), (some (14, false))⟩,
    .op ⟨(some 22), (.pick (.t 14) (.c (.bool true)) (.t 21)), none⟩]) (.view [.sel [1, 22] [0]])
theorem ok_ddiref03_Valid_J4 : AC.ok Try.prog (TIof Try.prog) 48 0 (kret [(.t 2)] dec_ddiref03_Valid) a_ddiref03_Valid_J4 := (And.intro (And.intro (And.intro (EntOkB.ok k_ddiref02_Valid) (And.intro (EntOkB.ok k_ddiref03_Long) True.intro)) True.intro) True.intro)
theorem t_ddiref03_Valid_J4 (b0_0 : Bool) (b0_1 : Int) (b0_2 : Int) (b0_3 : Int) (K : Ex → Env → Mem → Option Bool) : den 0 (kret [(.t 2)] dec_ddiref03_Valid) a_ddiref03_Valid_J4 (envOf [(1, (.ptr 0 0))]) (memOf [(some (.box true [(.bool b0_0), (.int .u64 b0_1), (.int .u64 b0_2), (.int .i64 b0_3)]))]) K = ddiref03_Valid_J4 b0_0 b0_1 b0_2 b0_3 (fun z_v22 => K .norm (envOf [(1, (.ptr 0 0)), (22, (.bool z_v22))]) (memOf [(some (.box true [(.bool b0_0), (.int .u64 b0_1), (.int .u64 b0_2), (.int .i64 b0_3)]))])) := by
  rw [ddiref03_Valid_J4_eq]; kernel_rfl
noncomputable def s_ddiref03_Valid_J4 : Env → Mem → (Ex → Env → Mem → Option Bool) → Option Bool := fun t m K => chk (fitS0 shp_ddiref03_Valid_J4 t m) (cond (hdS shp_ddiref03_Valid_J4 t m) (ddiref03_Valid_J4 (gB (bxC (m.s 0)) 0) (gI (bxC (m.s 0)) 1) (gI (bxC (m.s 0)) 2) (gI (bxC (m.s 0)) 3) (fun z_v22 => K .norm (envOf [(1, (.ptr 0 0)), (22, (.bool z_v22))]) (memOf [(some (.box true [(.bool (gB (bxC (m.s 0)) 0)), (.int .u64 (gI (bxC (m.s 0)) 1)), (.int .u64 (gI (bxC (m.s 0)) 2)), (.int .i64 (gI (bxC (m.s 0)) 3))]))]))) none)
theorem o_ddiref03_Valid_J4 : SubOk Try.prog (TIof Try.prog) 48 0 (kret [(.t 2)] dec_ddiref03_Valid) (scOf a_ddiref03_Valid_J4) s_ddiref03_Valid_J4 :=
  sub_of tabOk follows ok_ddiref03_Valid_J4 (er_of (by kernel_rfl)) shp_ddiref03_Valid_J4 (fun t m K => congrArg (fun z => chk (fitS0 shp_ddiref03_Valid_J4 t m) (cond (hdS shp_ddiref03_Valid_J4 t m) z none)) (t_ddiref03_Valid_J4 (gB (bxC (m.s 0)) 0) (gI (bxC (m.s 0)) 1) (gI (bxC (m.s 0)) 2) (gI (bxC (m.s 0)) 3) K).symm)
def shp_ddiref03_Valid : Shp := ⟨[(0, .st [(.l .b), (.l (.i .u64)), (.l (.i .u64)), (.l (.i .i64))])], []⟩
noncomputable def ddiref03_Valid_i (v0_0 : Bool) (v0_1 : Int) (v0_2 : Int) (v0_3 : Int) : Option Bool :=
  (ddiref03_Valid_J4 v0_0 v0_1 v0_2 v0_3 (fun v22 => (bif v22 then (some false) else (oB (ddiref03_Long v0_0) fun r1 => (oB (ddiref03_ones (IntKind.i64.wrap (r1 - v0_3))) fun r2 => (some (((ibits .and .u64 v0_1 r2.1) == (0 : Int)) && ((ibits .and .u64 v0_2 r2.2) == (0 : Int)))))))))
noncomputable def ddiref03_Valid := hull ddiref03_Valid_i
theorem ddiref03_Valid_eq : ddiref03_Valid = ddiref03_Valid_i := hull_eq _
noncomputable def a_ddiref03_Valid : AC Bool :=
  .seq (.reg [.op ⟨(some 1), (.box (.t 0)), none⟩,
    .op ⟨(some 2), (.mv (.c (.bool false))), none⟩]) (.seq (.seq (.seq (.view [.sel [1] [0]]) (.sub (scOf a_ddiref03_Valid_J4) s_ddiref03_Valid_J4)) (.cond (.t 22) (.seq (.reg [.op ⟨(some 2), (.mv (.c (.bool false))), none⟩]) (.ret)) (.skip))) (.seq (.draw [] [.op ⟨(some 24), (.fa 0 (.t 1)), none⟩,
    .op ⟨(some 25), (.fa 0 (.t 24)), none⟩,
    .op ⟨(some 26), (.load false 1 (.t 25)), none⟩,
    .call ⟨(some 27), (.call 75 [(.t 26)]), none⟩ 75 ent_ddiref03_Long,
    .op ⟨(some 28), (.fa 3 (.t 1)), none⟩,
    .op ⟨(some 29), (.load false 1 (.t 28)), none⟩,
    .op ⟨(some 30), (.bin .sub (.t 27) (.t 29)), none⟩,
    .call ⟨(some 31), (.call 76 [(.t 30)]), none⟩ 76 ent_ddiref03_ones,
    .op ⟨(some 23), (.mv (.t 31)), none⟩,
    .op ⟨(some 32), (.ext (.t 23) 0), none⟩,
    .op ⟨(some 33), (.ext (.t 23) 1), none⟩,
    .op ⟨(some 3), (.mv (.t 32)), none⟩] [.op ⟨(some 4), (.mv (.t 33)), none⟩]) (.seq (.reg [.op ⟨(some 34), (.fa 0 (.t 1)), none⟩,
    .op ⟨(some 35), (.fa 1 (.t 34)), none⟩,
    .op ⟨(some 36), (.load false 1 (.t 35)), none⟩,
    .op ⟨(some 37), (.mv (.t 3)), none⟩,
    .op ⟨(some 38), (.bin .and (.t 36) (.t 37)), none⟩,
    .op ⟨(some 39), (.bin .eql (.t 38) (.c (.int .u64 0))), none⟩,
    .op ⟨(some 40), (.mv (.t 39)), none⟩,
    .grp 40 true [⟨(some 41), (.fa 0 (.t 1)), (some (40, true))⟩, ⟨(some 42), (.fa 2 (.t 41)), (some (40, true))⟩, ⟨(some 43), (.load false 1 (.t 42)), (some (40, true))⟩, ⟨(some 44), (.mv (.t 4)), (some (40, true))⟩, ⟨(some 45), (.bin .and (.t 43) (.t 44)), (some (40, true))⟩, ⟨(some 46), (.bin .eql (.t 45) (.c (.int .u64 0))), (some (40, true))⟩] 47 (.t 46),
    .op ⟨(some 2), (.mv (.t 47)), none⟩]) (.ret))))
theorem ok_ddiref03_Valid : AC.ok Try.prog (TIof Try.prog) 48 0 (kret [(.t 2)] dec_ddiref03_Valid) a_ddiref03_Valid := (And.intro True.intro (And.intro (And.intro (And.intro True.intro o_ddiref03_Valid_J4) (And.intro (And.intro True.intro True.intro) True.intro)) (And.intro (And.intro (And.intro (EntOkB.ok k_ddiref03_Long) (And.intro (EntOkB.ok k_ddiref03_ones) True.intro)) True.intro) (And.intro True.intro True.intro))))
theorem t_ddiref03_Valid (v0_0 : Bool) (v0_1 : Int) (v0_2 : Int) (v0_3 : Int) : den 0 (kret [(.t 2)] dec_ddiref03_Valid) a_ddiref03_Valid (envOf [(0, (.agg [(.bool v0_0), (.int .u64 v0_1), (.int .u64 v0_2), (.int .i64 v0_3)]))]) (memOf []) (kend (kret [(.t 2)] dec_ddiref03_Valid)) = ddiref03_Valid v0_0 v0_1 v0_2 v0_3 := by
  rw [ddiref03_Valid_eq]; kernel_rfl
theorem c_ddiref03_Valid : cFn (TIof Try.prog) Try.f33 = some ⟨48, [(.t 2)], scOf a_ddiref03_Valid⟩ := by kernel_rfl
noncomputable def ent_ddiref03_Valid {R : Type} (xs : List AV) (K : AV → Option R) : Option R := chk (fitS shp_ddiref03_Valid (entry xs) Mem.none) (oB (ddiref03_Valid (gB ((entry xs) 0).cells 0) (gI ((entry xs) 0).cells 1) (gI ((entry xs) 0).cells 2) (gI ((entry xs) 0).cells 3)) fun r => K (enc_ddiref03_Valid r))
theorem k_ddiref03_Valid {R : Type} : EntOkB Try.prog 33 (ent_ddiref03_Valid (R := R)) :=
  ent_of (F := fun xs => ddiref03_Valid (gB ((entry xs) 0).cells 0) (gI ((entry xs) 0).cells 1) (gI ((entry xs) 0).cells 2) (gI ((entry xs) 0).cells 3)) (enc := enc_ddiref03_Valid) tabOk follows Try.func33 (by kernel_rfl) c_ddiref03_Valid (fun z r h => by
    obtain ⟨h1, h2⟩ := cond_some h
    cases h2
    exact (etaRV_eq h1).symm) ok_ddiref03_Valid (er_of (by kernel_rfl)) shp_ddiref03_Valid (fun xs => t_ddiref03_Valid (gB ((entry xs) 0).cells 0) (gI ((entry xs) 0).cells 1) (gI ((entry xs) 0).cells 2) (gI ((entry xs) 0).cells 3)) (fun xs K r h => by
    unfold ent_ddiref03_Valid at h
    exact ⟨(chk_some h).1, oB_some (chk_some h).2⟩)

/-! ddi/ddiref46.whole -/
def dec_ddiref46_whole (z : AV) : Option Int := cond (fitRV (.one (.i .i64)) z) (some (aI z)) none
def enc_ddiref46_whole (r : Int) : AV := .int .i64 r
def shp_ddiref46_whole : Shp := ⟨[(0, .st [(.l .b), (.l (.i .u64)), (.l (.i .u64)), (.l (.i .i64))])], []⟩
noncomputable def ddiref46_whole_i (v0_0 : Bool) (v0_1 : Int) (v0_2 : Int) (v0_3 : Int) : Option Int :=
  (bif v0_0 then (some (128 : Int)) else (some (32 : Int)))
noncomputable def ddiref46_whole := hull ddiref46_whole_i
theorem ddiref46_whole_eq : ddiref46_whole = ddiref46_whole_i := hull_eq _
noncomputable def a_ddiref46_whole : AC Int :=
  .seq (.reg [.op ⟨(some 1), (.box (.t 0)), none⟩,
    .op ⟨(some 2), (.mv (.c (.int .i64 0))), none⟩]) (.seq (.seq (.reg [.op ⟨(some 3), (.fa 0 (.t 1)), none⟩,
    .op ⟨(some 4), (.fa 0 (.t 3)), none⟩,
    .op ⟨(some 5), (.load false 1 (.t 4)), none⟩]) (.cond (.t 5) (.seq (.reg [.op ⟨(some 2), (.mv (.c (.int .i64 128))), none⟩]) (.ret)) (.skip))) (.seq (.reg [.op ⟨(some 2), (.mv (.c (.int .i64 32))), none⟩]) (.ret)))
theorem ok_ddiref46_whole : AC.ok Try.prog (TIof Try.prog) 6 0 (kret [(.t 2)] dec_ddiref46_whole) a_ddiref46_whole := (And.intro True.intro (And.intro (And.intro True.intro (And.intro (And.intro True.intro True.intro) True.intro)) (And.intro True.intro True.intro)))
theorem t_ddiref46_whole (v0_0 : Bool) (v0_1 : Int) (v0_2 : Int) (v0_3 : Int) : den 0 (kret [(.t 2)] dec_ddiref46_whole) a_ddiref46_whole (envOf [(0, (.agg [(.bool v0_0), (.int .u64 v0_1), (.int .u64 v0_2), (.int .i64 v0_3)]))]) (memOf []) (kend (kret [(.t 2)] dec_ddiref46_whole)) = ddiref46_whole v0_0 v0_1 v0_2 v0_3 := by
  rw [ddiref46_whole_eq]; kernel_rfl
theorem c_ddiref46_whole : cFn (TIof Try.prog) Try.f77 = some ⟨6, [(.t 2)], scOf a_ddiref46_whole⟩ := by kernel_rfl
noncomputable def ent_ddiref46_whole {R : Type} (xs : List AV) (K : AV → Option R) : Option R := chk (fitS shp_ddiref46_whole (entry xs) Mem.none) (oB (ddiref46_whole (gB ((entry xs) 0).cells 0) (gI ((entry xs) 0).cells 1) (gI ((entry xs) 0).cells 2) (gI ((entry xs) 0).cells 3)) fun r => K (enc_ddiref46_whole r))
theorem k_ddiref46_whole {R : Type} : EntOkB Try.prog 77 (ent_ddiref46_whole (R := R)) :=
  ent_of (F := fun xs => ddiref46_whole (gB ((entry xs) 0).cells 0) (gI ((entry xs) 0).cells 1) (gI ((entry xs) 0).cells 2) (gI ((entry xs) 0).cells 3)) (enc := enc_ddiref46_whole) tabOk follows Try.func77 (by kernel_rfl) c_ddiref46_whole (fun z r h => by
    obtain ⟨h1, h2⟩ := cond_some h
    cases h2
    exact (etaRV_eq h1).symm) ok_ddiref46_whole (er_of (by kernel_rfl)) shp_ddiref46_whole (fun xs => t_ddiref46_whole (gB ((entry xs) 0).cells 0) (gI ((entry xs) 0).cells 1) (gI ((entry xs) 0).cells 2) (gI ((entry xs) 0).cells 3)) (fun xs K r h => by
    unfold ent_ddiref46_whole at h
    exact ⟨(chk_some h).1, oB_some (chk_some h).2⟩)

/-! ddi/ddiref46.printable -/
def dec_ddiref46_printable (z : AV) : Option Bool := cond (fitRV (.one .b) z) (some (aB z)) none
def enc_ddiref46_printable (r : Bool) : AV := .bool r
def shp_ddiref46_printable_L6 : Shp := ⟨[(0, .one (.l .s)), (3, .one (.l (.i .i64)))], []⟩
noncomputable def ddiref46_printable_L6_b  (v0 : List UInt8) (v3 : Int) (next : Int → Option Bool) (kx0 : Unit → Option Bool) : Option Bool :=
  (bif (decide (v3 < (v0.length : Int))) then (oB (ixB v0 v3) fun c1 => (bif (decide ((c1.toNat : Int) < (33 : Int))) then (some false) else (oB (ixB v0 v3) fun c2 => (bif (decide ((c2.toNat : Int) > (126 : Int))) then (some false) else (next (IntKind.i64.wrap (v3 + (1 : Int)))))))) else (kx0 ()))
noncomputable def ddiref46_printable_L6_i  (v0 : List UInt8) (kx0 : Unit → Option Bool) : Nat → Int → Option Bool
  | 0 => (fun _ => none)
  | n + 1 => (fun v3 => ddiref46_printable_L6_b v0 v3 (ddiref46_printable_L6_i v0 kx0 n) kx0)
noncomputable def ddiref46_printable_L6 := hull (ddiref46_printable_L6_i)
theorem ddiref46_printable_L6_eq : ddiref46_printable_L6 = ddiref46_printable_L6_i := hull_eq _
noncomputable def a_ddiref46_printable_L6 : AC Bool :=
  .seq (.seq (.reg [.op ⟨(some 4), (.mv (.t 3)), none⟩,
    .op ⟨(some 5), (.mv (.t 0)), none⟩,
    .op ⟨(some 6), (.len true (.t 5)), none⟩,
    .op ⟨(some 7), (.bin .lss (.t 4) (.t 6)), none⟩]) (.cond (.t 7) (.skip) (.seq (.view [.sel [] []]) (.exit 0)))) (.seq (.block 1 (.seq (.reg [.op ⟨(some 10), (.mv (.t 0)), none⟩,
    .op ⟨(some 11), (.mv (.t 3)), none⟩,
    .op ⟨(some 12), (.ixs (.t 10) (.t 11)), none⟩,
    .op ⟨(some 13), (.bin .lss (.t 12) (.c (.int .u8 33))), none⟩,
    .op ⟨(some 14), (.mv (.t 13)), none⟩,
    .op ⟨(some 15), (.mv (.t 0)), (some (14, false))⟩,
    .op ⟨(some 16), (.mv (.t 3)), (some (14, false))⟩,
    .op ⟨(some 17), (.ixs (.t 15) (.t 16)), (some (14, false))⟩,
    .op ⟨(some 18), (.bin .gtr (.t 17) (.c (.int .u8 126))), (some (14, false))⟩,
    .op ⟨(some 19), (.pick (.t 14) (.c (.bool true)) (.t 18)), none⟩]) (.cond (.t 19) (.seq (.reg [.op ⟨(some 2), (.mv (.c (.bool false))), none⟩]) (.ret)) (.skip)))) (.seq (.reg [.op ⟨(some 8), (.mv (.t 3)), none⟩,
    .op ⟨(some 9), (.bin .add (.t 8) (.c (.int .i64 1))), none⟩,
    .op ⟨(some 3), (.mv (.t 9)), none⟩]) (.view [.sel [0, 3] []])))
theorem ok_ddiref46_printable_L6 : AC.ok Try.prog (TIof Try.prog) 20 0 (kret [(.t 2)] dec_ddiref46_printable) a_ddiref46_printable_L6 := (And.intro (And.intro True.intro (And.intro True.intro (And.intro True.intro True.intro))) (And.intro (And.intro True.intro (And.intro (And.intro True.intro True.intro) True.intro)) (And.intro True.intro True.intro)))
theorem t_ddiref46_printable_L6_b (v0 : List UInt8) (v3 : Int) (K : Ex → Env → Mem → Option Bool) : den 0 (kret [(.t 2)] dec_ddiref46_printable) a_ddiref46_printable_L6 (envOf [(0, (.str v0)), (3, (.int .i64 v3))]) (memOf []) K = ddiref46_printable_L6_b v0 v3 (fun z_v3 => K .norm (envOf [(0, (.str v0)), (3, (.int .i64 z_v3))]) (memOf [])) (fun _ => K (.exit 0) (envOf []) (memOf [])) := by kernel_rfl
theorem t_ddiref46_printable_L6 (v0 : List UInt8) (K : Ex → Env → Mem → Option Bool) : ∀ (n : Nat) (v3 : Int), iterD (den 0 (kret [(.t 2)] dec_ddiref46_printable) a_ddiref46_printable_L6) n (envOf [(0, (.str v0)), (3, (.int .i64 v3))]) (memOf []) K = ddiref46_printable_L6 v0 (fun _ => K (.exit 0) (envOf []) (memOf [])) n v3 := by
  rw [ddiref46_printable_L6_eq]
  intro n
  induction n with
  | zero => intros; rfl
  | succ n ih =>
    intro v3
    exact (t_ddiref46_printable_L6_b v0 v3 (itK (den 0 (kret [(.t 2)] dec_ddiref46_printable) a_ddiref46_printable_L6) n K)).trans (congrArg (fun q => ddiref46_printable_L6_b v0 v3 q (fun _ => K (.exit 0) (envOf []) (memOf []))) (funext fun v3 => ih v3))
noncomputable def s_ddiref46_printable_L6 : Env → Mem → (Ex → Env → Mem → Option Bool) → Option Bool := fun t m K => chk (fitS0 shp_ddiref46_printable_L6 t m) (cond (hdS shp_ddiref46_printable_L6 t m) (ddiref46_printable_L6 (gS [t 0] 0) (fun _ => K (.exit 0) (envOf []) (memOf [])) FU (gI [t 3] 0)) none)
theorem o_ddiref46_printable_L6 : SubOk Try.prog (TIof Try.prog) 20 0 (kret [(.t 2)] dec_ddiref46_printable) (.loop (scOf a_ddiref46_printable_L6)) s_ddiref46_printable_L6 :=
  loop_of tabOk follows ok_ddiref46_printable_L6 (er_of (by kernel_rfl)) shp_ddiref46_printable_L6 (fun t m K => congrArg (fun z => chk (fitS0 shp_ddiref46_printable_L6 t m) (cond (hdS shp_ddiref46_printable_L6 t m) z none)) (t_ddiref46_printable_L6 (gS [t 0] 0) K FU (gI [t 3] 0)).symm)
def shp_ddiref46_printable : Shp := ⟨[(0, .one (.l .s))], []⟩
noncomputable def ddiref46_printable_i (v0 : List UInt8) : Option Bool :=
  (ddiref46_printable_L6 v0 (fun (_ : Unit) => (some true)) FU (0 : Int))
noncomputable def ddiref46_printable := hull ddiref46_printable_i
theorem ddiref46_printable_eq : ddiref46_printable = ddiref46_printable_i := hull_eq _
noncomputable def a_ddiref46_printable : AC Bool :=
  .seq (.reg [.op ⟨(some 2), (.mv (.c (.bool false))), none⟩]) (.seq (.seq (.reg [.op ⟨(some 3), (.mv (.c (.int .i64 0))), none⟩]) (.block 0 (.seq (.view [.sel [0, 3] []]) (.sub (.loop (scOf a_ddiref46_printable_L6)) s_ddiref46_printable_L6)))) (.seq (.reg [.op ⟨(some 2), (.mv (.c (.bool true))), none⟩]) (.ret)))
theorem ok_ddiref46_printable : AC.ok Try.prog (TIof Try.prog) 20 0 (kret [(.t 2)] dec_ddiref46_printable) a_ddiref46_printable := (And.intro True.intro (And.intro (And.intro True.intro (And.intro True.intro o_ddiref46_printable_L6)) (And.intro True.intro True.intro)))
theorem t_ddiref46_printable (v0 : List UInt8) : den 0 (kret [(.t 2)] dec_ddiref46_printable) a_ddiref46_printable (envOf [(0, (.str v0))]) (memOf []) (kend (kret [(.t 2)] dec_ddiref46_printable)) = ddiref46_printable v0 := by
  rw [ddiref46_printable_eq]; kernel_rfl
theorem c_ddiref46_printable : cFn (TIof Try.prog) Try.f78 = some ⟨20, [(.t 2)], scOf a_ddiref46_printable⟩ := by kernel_rfl
noncomputable def ent_ddiref46_printable {R : Type} (xs : List AV) (K : AV → Option R) : Option R := chk (fitS shp_ddiref46_printable (entry xs) Mem.none) (oB (ddiref46_printable (gS [(entry xs) 0] 0)) fun r => K (enc_ddiref46_printable r))
theorem k_ddiref46_printable {R : Type} : EntOkB Try.prog 78 (ent_ddiref46_printable (R := R)) :=
  ent_of (F := fun xs => ddiref46_printable (gS [(entry xs) 0] 0)) (enc := enc_ddiref46_printable) tabOk follows Try.func78 (by kernel_rfl) c_ddiref46_printable (fun z r h => by
    obtain ⟨h1, h2⟩ := cond_some h
    cases h2
    exact (etaRV_eq h1).symm) ok_ddiref46_printable (er_of (by kernel_rfl)) shp_ddiref46_printable (fun xs => t_ddiref46_printable (gS [(entry xs) 0] 0)) (fun xs K r h => by
    unfold ent_ddiref46_printable at h
    exact ⟨(chk_some h).1, oB_some (chk_some h).2⟩)

/-! ddi/ddiref46.may -/
def dec_ddiref46_may (z : AV) : Option Bool := cond (fitRV (.one .b) z) (some (aB z)) none
def enc_ddiref46_may (r : Bool) : AV := .bool r
def shp_ddiref46_may_J4 : Shp := ⟨[(1, .one (.ptr 0 0))], [.box true [(.l .b), (.l (.i .u64)), (.l (.i .u64)), (.l (.i .i64)), (.l (.i .i64)), (.l .s), (.l .s), (.l (.i .i64))]]⟩
noncomputable def ddiref46_may_J4_i  (b0_0 : Bool) (b0_1 : Int) (b0_2 : Int) (b0_3 : Int) (b0_4 : Int) (b0_5 : List UInt8) (b0_6 : List UInt8) (b0_7 : Int) (kn : Bool → Option Bool) : Option Bool :=
  (bif (decide (b0_4 < (1 : Int))) then (kn true) else (bif (decide (b0_4 > (3 : Int))) then (kn true) else (bif (b0_4 == (3 : Int)) then (oB (ddiref46_whole b0_0 b0_1 b0_2 b0_3) fun r1 => (kn (b0_3 != r1))) else (kn false))))
noncomputable def ddiref46_may_J4 := hull (ddiref46_may_J4_i)
theorem ddiref46_may_J4_eq : ddiref46_may_J4 = ddiref46_may_J4_i := hull_eq _
noncomputable def a_ddiref46_may_J4 : AC Bool :=
  .seq (.draw [] [.op ⟨(some 3), (.fa 4 (.t 1)), none⟩,
    .op ⟨(some 4), (.load false 1 (.t 3)), none⟩,
    .op ⟨(some 5), (.bin .lss (.t 4) (.c (.int .i64 1))), none⟩,
    .op ⟨(some 6), (.mv (.t 5)), none⟩,
    .op ⟨(some 7), (.fa 4 (.t 1)), (some (6, false))⟩,
    .op ⟨(some 8), (.load false 1 (.t 7)), (some (6, false))⟩,
    .op ⟨(some 9), (.bin .gtr (.t 8) (.c (.int .i64 3))), (some (6, false))⟩,
    .op ⟨(some 10), (.pick (.t 6) (.c (.bool true)) (.t 9)), none⟩,
    .op ⟨(some 11), (.mv (.t 10)), none⟩,
    .op ⟨(some 12), (.fa 4 (.t 1)), (some (11, false))⟩,
    .op ⟨(some 13), (.load false 1 (.t 12)), (some (11, false))⟩,
    .op ⟨(some 14), (.bin .eql (.t 13) (.c (.int .i64 3))), (some (11, false))⟩,
    .op ⟨(some 15), (.mv (.t 14)), (some (11, false))⟩,
    .op ⟨(some 16), (.fa 0 (.t 1)), (some (15, true))⟩,
    .op ⟨(some 17), (.fa 3 (.t 16)), (some (15, true))⟩,
    .op ⟨(some 18), (.load false 1 (.t 17)), (some (15, true))⟩,
    .op ⟨(some 19), (.fa 0 (.t 1)), (some (15, true))⟩,
    .op ⟨(some 20), (.load true 4 (.t 19)), (some (15, true))⟩,
    .call ⟨(some 21), (.call 77 [(.t 20)]), (some (15, true))⟩ 77 ent_ddiref46_whole] [.op ⟨(some 22), (.bin .neq (.t 18) (.t 21)), (some (15, true))⟩,
    .op ⟨(some 23), (.pick (.t 15) (.t 22) (.c (.bool false))), (some (11, false))⟩,
    .op ⟨(some 24), (.pick (.t 11) (.c (.bool true)) (.t 23)), none⟩]) (.view [.sel [1, 24] [0]])
theorem ok_ddiref46_may_J4 : AC.ok Try.prog (TIof Try.prog) 61 0 (kret [(.t 2)] dec_ddiref46_may) a_ddiref46_may_J4 := (And.intro (And.intro (And.intro (EntOkB.ok k_ddiref46_whole) True.intro) True.intro) True.intro)
theorem t_ddiref46_may_J4 (b0_0 : Bool) (b0_1 : Int) (b0_2 : Int) (b0_3 : Int) (b0_4 : Int) (b0_5 : List UInt8) (b0_6 : List UInt8) (b0_7 : Int) (K : Ex → Env → Mem → Option Bool) : den 0 (kret [(.t 2)] dec_ddiref46_may) a_ddiref46_may_J4 (envOf [(1, (.ptr 0 0))]) (memOf [(some (.box true [(.bool b0_0), (.int .u64 b0_1), (.int .u64 b0_2), (.int .i64 b0_3), (.int .i64 b0_4), (.str b0_5), (.str b0_6), (.int .i64 b0_7)]))]) K = ddiref46_may_J4 b0_0 b0_1 b0_2 b0_3 b0_4 b0_5 b0_6 b0_7 (fun z_v24 => K .norm (envOf [(1, (.ptr 0 0)), (24, (.bool z_v24))]) (memOf [(some (.box true [(.bool b0_0), (.int .u64 b0_1), (.int .u64 b0_2), (.int .i64 b0_3), (.int .i64 b0_4), (.str b0_5), (.str b0_6), (.int .i64 b0_7)]))])) := by
  rw [ddiref46_may_J4_eq]; kernel_rfl
noncomputable def s_ddiref46_may_J4 : Env → Mem → (Ex → Env → Mem → Option Bool) → Option Bool := fun t m K => chk (fitS0 shp_ddiref46_may_J4 t m) (cond (hdS shp_ddiref46_may_J4 t m) (ddiref46_may_J4 (gB (bxC (m.s 0)) 0) (gI (bxC (m.s 0)) 1) (gI (bxC (m.s 0)) 2) (gI (bxC (m.s 0)) 3) (gI (bxC (m.s 0)) 4) (gS (bxC (m.s 0)) 5) (gS (bxC (m.s 0)) 6) (gI (bxC (m.s 0)) 7) (fun z_v24 => K .norm (envOf [(1, (.ptr 0 0)), (24, (.bool z_v24))]) (memOf [(some (.box true [(.bool (gB (bxC (m.s 0)) 0)), (.int .u64 (gI (bxC (m.s 0)) 1)), (.int .u64 (gI (bxC (m.s 0)) 2)), (.int .i64 (gI (bxC (m.s 0)) 3)), (.int .i64 (gI (bxC (m.s 0)) 4)), (.str (gS (bxC (m.s 0)) 5)), (.str (gS (bxC (m.s 0)) 6)), (.int .i64 (gI (bxC (m.s 0)) 7))]))]))) none)
theorem o_ddiref46_may_J4 : SubOk Try.prog (TIof Try.prog) 61 0 (kret [(.t 2)] dec_ddiref46_may) (scOf a_ddiref46_may_J4) s_ddiref46_may_J4 :=
  sub_of tabOk follows ok_ddiref46_may_J4 (er_of (by kernel_rfl)) shp_ddiref46_may_J4 (fun t m K => congrArg (fun z => chk (fitS0 shp_ddiref46_may_J4 t m) (cond (hdS shp_ddiref46_may_J4 t m) z none)) (t_ddiref46_may_J4 (gB (bxC (m.s 0)) 0) (gI (bxC (m.s 0)) 1) (gI (bxC (m.s 0)) 2) (gI (bxC (m.s 0)) 3) (gI (bxC (m.s 0)) 4) (gS (bxC (m.s 0)) 5) (gS (bxC (m.s 0)) 6) (gI (bxC (m.s 0)) 7) K).symm)
def shp_ddiref46_may : Shp := ⟨[(0, .st [(.l .b), (.l (.i .u64)), (.l (.i .u64)), (.l (.i .i64)), (.l (.i .i64)), (.l .s), (.l .s), (.l (.i .i64))])], []⟩
noncomputable def ddiref46_may_i (v0_0 : Bool) (v0_1 : Int) (v0_2 : Int) (v0_3 : Int) (v0_4 : Int) (v0_5 : List UInt8) (v0_6 : List UInt8) (v0_7 : Int) : Option Bool :=
  (ddiref46_may_J4 v0_0 v0_1 v0_2 v0_3 v0_4 v0_5 v0_6 v0_7 (fun v24 => (bif v24 then (some false) else (bif ((decide ((v0_5.length : Int) ≥ (1 : Int))) && (decide ((v0_5.length : Int) ≤ (63 : Int)))) then (oB (ddiref46_printable v0_5) fun r1 => (bif (r1 && (decide ((v0_6.length : Int) ≤ (32 : Int)))) then (oB (ddiref46_printable v0_6) fun r2 => (some ((r2 && (decide (v0_7 ≥ (0 : Int)))) && (decide (v0_7 ≤ (4294967295 : Int)))))) else (some false))) else (some false)))))
noncomputable def ddiref46_may := hull ddiref46_may_i
theorem ddiref46_may_eq : ddiref46_may = ddiref46_may_i := hull_eq _
noncomputable def a_ddiref46_may : AC Bool :=
  .seq (.reg [.op ⟨(some 1), (.box (.t 0)), none⟩,
    .op ⟨(some 2), (.mv (.c (.bool false))), none⟩]) (.seq (.seq (.seq (.view [.sel [1] [0]]) (.sub (scOf a_ddiref46_may_J4) s_ddiref46_may_J4)) (.cond (.t 24) (.seq (.reg [.op ⟨(some 2), (.mv (.c (.bool false))), none⟩]) (.ret)) (.skip))) (.seq (.reg [.op ⟨(some 25), (.fa 5 (.t 1)), none⟩,
    .op ⟨(some 26), (.load false 1 (.t 25)), none⟩,
    .op ⟨(some 27), (.len true (.t 26)), none⟩,
    .op ⟨(some 28), (.bin .geq (.t 27) (.c (.int .i64 1))), none⟩,
    .op ⟨(some 29), (.mv (.t 28)), none⟩,
    .grp 29 true [⟨(some 30), (.fa 5 (.t 1)), (some (29, true))⟩, ⟨(some 31), (.load false 1 (.t 30)), (some (29, true))⟩, ⟨(some 32), (.len true (.t 31)), (some (29, true))⟩, ⟨(some 33), (.bin .leq (.t 32) (.c (.int .i64 63))), (some (29, true))⟩] 34 (.t 33),
    .op ⟨(some 35), (.mv (.t 34)), none⟩,
    .op ⟨(some 36), (.fa 5 (.t 1)), (some (35, true))⟩,
    .op ⟨(some 37), (.load false 1 (.t 36)), (some (35, true))⟩,
    .call ⟨(some 38), (.call 78 [(.t 37)]), (some (35, true))⟩ 78 ent_ddiref46_printable,
    .op ⟨(some 39), (.pick (.t 35) (.t 38) (.c (.bool false))), none⟩,
    .op ⟨(some 40), (.mv (.t 39)), none⟩,
    .grp 40 true [⟨(some 41), (.fa 6 (.t 1)), (some (40, true))⟩, ⟨(some 42), (.load false 1 (.t 41)), (some (40, true))⟩, ⟨(some 43), (.len true (.t 42)), (some (40, true))⟩, ⟨(some 44), (.bin .leq (.t 43) (.c (.int .i64 32))), (some (40, true))⟩] 45 (.t 44),
    .op ⟨(some 46), (.mv (.t 45)), none⟩,
    .op ⟨(some 47), (.fa 6 (.t 1)), (some (46, true))⟩,
    .op ⟨(some 48), (.load false 1 (.t 47)), (some (46, true))⟩,
    .call ⟨(some 49), (.call 78 [(.t 48)]), (some (46, true))⟩ 78 ent_ddiref46_printable,
    .op ⟨(some 50), (.pick (.t 46) (.t 49) (.c (.bool false))), none⟩,
    .op ⟨(some 51), (.mv (.t 50)), none⟩,
    .grp 51 true [⟨(some 52), (.fa 7 (.t 1)), (some (51, true))⟩, ⟨(some 53), (.load false 1 (.t 52)), (some (51, true))⟩, ⟨(some 54), (.bin .geq (.t 53) (.c (.int .i64 0))), (some (51, true))⟩] 55 (.t 54),
    .op ⟨(some 56), (.mv (.t 55)), none⟩,
    .grp 56 true [⟨(some 57), (.fa 7 (.t 1)), (some (56, true))⟩, ⟨(some 58), (.load false 1 (.t 57)), (some (56, true))⟩, ⟨(some 59), (.bin .leq (.t 58) (.c (.int .i64 4294967295))), (some (56, true))⟩] 60 (.t 59),
    .op ⟨(some 2), (.mv (.t 60)), none⟩]) (.ret)))
theorem ok_ddiref46_may : AC.ok Try.prog (TIof Try.prog) 61 0 (kret [(.t 2)] dec_ddiref46_may) a_ddiref46_may := (And.intro True.intro (And.intro (And.intro (And.intro True.intro o_ddiref46_may_J4) (And.intro (And.intro True.intro True.intro) True.intro)) (And.intro (And.intro (EntOkB.ok k_ddiref46_printable) (And.intro (EntOkB.ok k_ddiref46_printable) True.intro)) True.intro)))
theorem t_ddiref46_may (v0_0 : Bool) (v0_1 : Int) (v0_2 : Int) (v0_3 : Int) (v0_4 : Int) (v0_5 : List UInt8) (v0_6 : List UInt8) (v0_7 : Int) : den 0 (kret [(.t 2)] dec_ddiref46_may) a_ddiref46_may (envOf [(0, (.agg [(.bool v0_0), (.int .u64 v0_1), (.int .u64 v0_2), (.int .i64 v0_3), (.int .i64 v0_4), (.str v0_5), (.str v0_6), (.int .i64 v0_7)]))]) (memOf []) (kend (kret [(.t 2)] dec_ddiref46_may)) = ddiref46_may v0_0 v0_1 v0_2 v0_3 v0_4 v0_5 v0_6 v0_7 := by
  rw [ddiref46_may_eq]; kernel_rfl
theorem c_ddiref46_may : cFn (TIof Try.prog) Try.f34 = some ⟨61, [(.t 2)], scOf a_ddiref46_may⟩ := by kernel_rfl
noncomputable def ent_ddiref46_may {R : Type} (xs : List AV) (K : AV → Option R) : Option R := chk (fitS shp_ddiref46_may (entry xs) Mem.none) (oB (ddiref46_may (gB ((entry xs) 0).cells 0) (gI ((entry xs) 0).cells 1) (gI ((entry xs) 0).cells 2) (gI ((entry xs) 0).cells 3) (gI ((entry xs) 0).cells 4) (gS ((entry xs) 0).cells 5) (gS ((entry xs) 0).cells 6) (gI ((entry xs) 0).cells 7)) fun r => K (enc_ddiref46_may r))
theorem k_ddiref46_may {R : Type} : EntOkB Try.prog 34 (ent_ddiref46_may (R := R)) :=
  ent_of (F := fun xs => ddiref46_may (gB ((entry xs) 0).cells 0) (gI ((entry xs) 0).cells 1) (gI ((entry xs) 0).cells 2) (gI ((entry xs) 0).cells 3) (gI ((entry xs) 0).cells 4) (gS ((entry xs) 0).cells 5) (gS ((entry xs) 0).cells 6) (gI ((entry xs) 0).cells 7)) (enc := enc_ddiref46_may) tabOk follows Try.func34 (by kernel_rfl) c_ddiref46_may (fun z r h => by
    obtain ⟨h1, h2⟩ := cond_some h
    cases h2
    exact (etaRV_eq h1).symm) ok_ddiref46_may (er_of (by kernel_rfl)) shp_ddiref46_may (fun xs => t_ddiref46_may (gB ((entry xs) 0).cells 0) (gI ((entry xs) 0).cells 1) (gI ((entry xs) 0).cells 2) (gI ((entry xs) 0).cells 3) (gI ((entry xs) 0).cells 4) (gS ((entry xs) 0).cells 5) (gS ((entry xs) 0).cells 6) (gI ((entry xs) 0).cells 7)) (fun xs K r h => by
    unfold ent_ddiref46_may at h
    exact ⟨(chk_some h).1, oB_some (chk_some h).2⟩)

/-! ddi/ddiref02.Compare -/
def dec_ddiref02_Compare (z : AV) : Option Int := cond (fitRV (.one (.i .i64)) z) (some (aI z)) none
def enc_ddiref02_Compare (r : Int) : AV := .int .i64 r
def shp_ddiref02_Compare : Shp := ⟨[(0, .st [(.l .b), (.l (.i .u64)), (.l (.i .u64))]), (1, .st [(.l .b), (.l (.i .u64)), (.l (.i .u64))])], []⟩
noncomputable def ddiref02_Compare_i (v0_0 : Bool) (v0_1 : Int) (v0_2 : Int) (v1_0 : Bool) (v1_1 : Int) (v1_2 : Int) : Option Int :=
  (bif (!((v0_0 == v1_0) && true)) then (bif v1_0 then (some (-1 : Int)) else (some (1 : Int))) else (bif (v0_1 != v1_1) then (bif (decide (v0_1 < v1_1)) then (some (-1 : Int)) else (some (1 : Int))) else (bif (decide (v0_2 < v1_2)) then (some (-1 : Int)) else (bif (decide (v0_2 > v1_2)) then (some (1 : Int)) else (some (0 : Int))))))
noncomputable def ddiref02_Compare := hull ddiref02_Compare_i
theorem ddiref02_Compare_eq : ddiref02_Compare = ddiref02_Compare_i := hull_eq _
noncomputable def a_ddiref02_Compare : AC Int :=
  .seq (.reg [.op ⟨(some 2), (.box (.t 0)), none⟩,
    .op ⟨(some 3), (.box (.t 1)), none⟩,
    .op ⟨(some 4), (.mv (.c (.int .i64 0))), none⟩]) (.seq (.seq (.reg [.op ⟨(some 5), (.fa 0 (.t 2)), none⟩,
    .op ⟨(some 6), (.load false 1 (.t 5)), none⟩,
    .op ⟨(some 7), (.fa 0 (.t 3)), none⟩,
    .op ⟨(some 8), (.load false 1 (.t 7)), none⟩,
    .op ⟨(some 9), (.eq true false [.b] (.t 6) (.t 8)), none⟩]) (.cond (.t 9) (.seq (.seq (.reg [.op ⟨(some 10), (.fa 0 (.t 3)), none⟩,
    .op ⟨(some 11), (.load false 1 (.t 10)), none⟩]) (.cond (.t 11) (.seq (.reg [.op ⟨(some 4), (.mv (.c (.int .i64 (-1)))), none⟩]) (.ret)) (.skip))) (.seq (.reg [.op ⟨(some 4), (.mv (.c (.int .i64 1))), none⟩]) (.ret))) (.skip))) (.seq (.seq (.reg [.op ⟨(some 12), (.fa 1 (.t 2)), none⟩,
    .op ⟨(some 13), (.load false 1 (.t 12)), none⟩,
    .op ⟨(some 14), (.fa 1 (.t 3)), none⟩,
    .op ⟨(some 15), (.load false 1 (.t 14)), none⟩,
    .op ⟨(some 16), (.bin .neq (.t 13) (.t 15)), none⟩]) (.cond (.t 16) (.seq (.seq (.reg [.op ⟨(some 17), (.fa 1 (.t 2)), none⟩,
    .op ⟨(some 18), (.load false 1 (.t 17)), none⟩,
    .op ⟨(some 19), (.fa 1 (.t 3)), none⟩,
    .op ⟨(some 20), (.load false 1 (.t 19)), none⟩,
    .op ⟨(some 21), (.bin .lss (.t 18) (.t 20)), none⟩]) (.cond (.t 21) (.seq (.reg [.op ⟨(some 4), (.mv (.c (.int .i64 (-1)))), none⟩]) (.ret)) (.skip))) (.seq (.reg [.op ⟨(some 4), (.mv (.c (.int .i64 1))), none⟩]) (.ret))) (.skip))) (.seq (.seq (.reg [.op ⟨(some 22), (.fa 2 (.t 2)), none⟩,
    .op ⟨(some 23), (.load false 1 (.t 22)), none⟩,
    .op ⟨(some 24), (.fa 2 (.t 3)), none⟩,
    .op ⟨(some 25), (.load false 1 (.t 24)), none⟩,
    .op ⟨(some 26), (.bin .lss (.t 23) (.t 25)), none⟩]) (.cond (.t 26) (.seq (.reg [.op ⟨(some 4), (.mv (.c (.int .i64 (-1)))), none⟩]) (.ret)) (.skip))) (.seq (.seq (.reg [.op ⟨(some 27), (.fa 2 (.t 2)), none⟩,
    .op ⟨(some 28), (.load false 1 (.t 27)), none⟩,
    .op ⟨(some 29), (.fa 2 (.t 3)), none⟩,
    .op ⟨(some 30), (.load false 1 (.t 29)), none⟩,
    .op ⟨(some 31), (.bin .gtr (.t 28) (.t 30)), none⟩]) (.cond (.t 31) (.seq (.reg [.op ⟨(some 4), (.mv (.c (.int .i64 1))), none⟩]) (.ret)) (.skip))) (.seq (.reg [.op ⟨(some 4), (.mv (.c (.int .i64 0))), none⟩]) (.ret))))))
theorem ok_ddiref02_Compare : AC.ok Try.prog (TIof Try.prog) 32 0 (kret [(.t 4)] dec_ddiref02_Compare) a_ddiref02_Compare := (And.intro True.intro (And.intro (And.intro True.intro (And.intro (And.intro (And.intro True.intro (And.intro (And.intro True.intro True.intro) True.intro)) (And.intro True.intro True.intro)) True.intro)) (And.intro (And.intro True.intro (And.intro (And.intro (And.intro True.intro (And.intro (And.intro True.intro True.intro) True.intro)) (And.intro True.intro True.intro)) True.intro)) (And.intro (And.intro True.intro (And.intro (And.intro True.intro True.intro) True.intro)) (And.intro (And.intro True.intro (And.intro (And.intro True.intro True.intro) True.intro)) (And.intro True.intro True.intro))))))
theorem t_ddiref02_Compare (v0_0 : Bool) (v0_1 : Int) (v0_2 : Int) (v1_0 : Bool) (v1_1 : Int) (v1_2 : Int) : den 0 (kret [(.t 4)] dec_ddiref02_Compare) a_ddiref02_Compare (envOf [(0, (.agg [(.bool v0_0), (.int .u64 v0_1), (.int .u64 v0_2)])), (1, (.agg [(.bool v1_0), (.int .u64 v1_1), (.int .u64 v1_2)]))]) (memOf []) (kend (kret [(.t 4)] dec_ddiref02_Compare)) = ddiref02_Compare v0_0 v0_1 v0_2 v1_0 v1_1 v1_2 := by
  rw [ddiref02_Compare_eq]; kernel_rfl
theorem c_ddiref02_Compare : cFn (TIof Try.prog) Try.f79 = some ⟨32, [(.t 4)], scOf a_ddiref02_Compare⟩ := by kernel_rfl
noncomputable def ent_ddiref02_Compare {R : Type} (xs : List AV) (K : AV → Option R) : Option R := chk (fitS shp_ddiref02_Compare (entry xs) Mem.none) (oB (ddiref02_Compare (gB ((entry xs) 0).cells 0) (gI ((entry xs) 0).cells 1) (gI ((entry xs) 0).cells 2) (gB ((entry xs) 1).cells 0) (gI ((entry xs) 1).cells 1) (gI ((entry xs) 1).cells 2)) fun r => K (enc_ddiref02_Compare r))
theorem k_ddiref02_Compare {R : Type} : EntOkB Try.prog 79 (ent_ddiref02_Compare (R := R)) :=
  ent_of (F := fun xs => ddiref02_Compare (gB ((entry xs) 0).cells 0) (gI ((entry xs) 0).cells 1) (gI ((entry xs) 0).cells 2) (gB ((entry xs) 1).cells 0) (gI ((entry xs) 1).cells 1) (gI ((entry xs) 1).cells 2)) (enc := enc_ddiref02_Compare) tabOk follows Try.func79 (by kernel_rfl) c_ddiref02_Compare (fun z r h => by
    obtain ⟨h1, h2⟩ := cond_some h
    cases h2
    exact (etaRV_eq h1).symm) ok_ddiref02_Compare (er_of (by kernel_rfl)) shp_ddiref02_Compare (fun xs => t_ddiref02_Compare (gB ((entry xs) 0).cells 0) (gI ((entry xs) 0).cells 1) (gI ((entry xs) 0).cells 2) (gB ((entry xs) 1).cells 0) (gI ((entry xs) 1).cells 1) (gI ((entry xs) 1).cells 2)) (fun xs K r h => by
    unfold ent_ddiref02_Compare at h
    exact ⟨(chk_some h).1, oB_some (chk_some h).2⟩)

/-! ddi/ddiref03.Compare -/
def dec_ddiref03_Compare (z : AV) : Option Int := cond (fitRV (.one (.i .i64)) z) (some (aI z)) none
def enc_ddiref03_Compare (r : Int) : AV := .int .i64 r
def shp_ddiref03_Compare : Shp := ⟨[(0, .st [(.l .b), (.l (.i .u64)), (.l (.i .u64)), (.l (.i .i64))]), (1, .st [(.l .b), (.l (.i .u64)), (.l (.i .u64)), (.l (.i .i64))])], []⟩
noncomputable def ddiref03_Compare_i (v0_0 : Bool) (v0_1 : Int) (v0_2 : Int) (v0_3 : Int) (v1_0 : Bool) (v1_1 : Int) (v1_2 : Int) (v1_3 : Int) : Option Int :=
  (oB (ddiref02_Compare v0_0 v0_1 v0_2 v1_0 v1_1 v1_2) fun r1 => (bif (r1 != (0 : Int)) then (some r1) else (bif (decide (v0_3 < v1_3)) then (some (-1 : Int)) else (bif (decide (v0_3 > v1_3)) then (some (1 : Int)) else (some (0 : Int))))))
noncomputable def ddiref03_Compare := hull ddiref03_Compare_i
theorem ddiref03_Compare_eq : ddiref03_Compare = ddiref03_Compare_i := hull_eq _
noncomputable def a_ddiref03_Compare : AC Int :=
  .seq (.reg [.op ⟨(some 2), (.box (.t 0)), none⟩,
    .op ⟨(some 3), (.box (.t 1)), none⟩,
    .op ⟨(some 4), (.mv (.c (.int .i64 0))), none⟩]) (.seq (.reg [.op ⟨(some 6), (.fa 0 (.t 2)), none⟩,
    .op ⟨(some 7), (.load true 3 (.t 6)), none⟩,
    .op ⟨(some 8), (.fa 0 (.t 3)), none⟩,
    .op ⟨(some 9), (.load true 3 (.t 8)), none⟩,
    .call ⟨(some 10), (.call 79 [(.t 7), (.t 9)]), none⟩ 79 ent_ddiref02_Compare,
    .op ⟨(some 5), (.mv (.t 10)), none⟩]) (.seq (.seq (.reg [.op ⟨(some 11), (.mv (.t 5)), none⟩,
    .op ⟨(some 12), (.bin .neq (.t 11) (.c (.int .i64 0))), none⟩]) (.cond (.t 12) (.seq (.reg [.op ⟨(some 13), (.mv (.t 5)), none⟩,
    .op ⟨(some 4), (.mv (.t 13)), none⟩]) (.ret)) (.skip))) (.seq (.seq (.reg [.op ⟨(some 14), (.fa 3 (.t 2)), none⟩,
    .op ⟨(some 15), (.load false 1 (.t 14)), none⟩,
    .op ⟨(some 16), (.fa 3 (.t 3)), none⟩,
    .op ⟨(some 17), (.load false 1 (.t 16)), none⟩,
    .op ⟨(some 18), (.bin .lss (.t 15) (.t 17)), none⟩]) (.cond (.t 18) (.seq (.reg [.op ⟨(some 4), (.mv (.c (.int .i64 (-1)))), none⟩]) (.ret)) (.skip))) (.seq (.seq (.reg [.op ⟨(some 19), (.fa 3 (.t 2)), none⟩,
    .op ⟨(some 20), (.load false 1 (.t 19)), none⟩,
    .op ⟨(some 21), (.fa 3 (.t 3)), none⟩,
    .op ⟨(some 22), (.load false 1 (.t 21)), none⟩,
    .op ⟨(some 23), (.bin .gtr (.t 20) (.t 22)), none⟩]) (.cond (.t 23) (.seq (.reg [.op ⟨(some 4), (.mv (.c (.int .i64 1))), none⟩]) (.ret)) (.skip))) (.seq (.reg [.op ⟨(some 4), (.mv (.c (.int .i64 0))), none⟩]) (.ret))))))
theorem ok_ddiref03_Compare : AC.ok Try.prog (TIof Try.prog) 24 0 (kret [(.t 4)] dec_ddiref03_Compare) a_ddiref03_Compare := (And.intro True.intro (And.intro (And.intro (EntOkB.ok k_ddiref02_Compare) True.intro) (And.intro (And.intro True.intro (And.intro (And.intro True.intro True.intro) True.intro)) (And.intro (And.intro True.intro (And.intro (And.intro True.intro True.intro) True.intro)) (And.intro (And.intro True.intro (And.intro (And.intro True.intro True.intro) True.intro)) (And.intro True.intro True.intro))))))
theorem t_ddiref03_Compare (v0_0 : Bool) (v0_1 : Int) (v0_2 : Int) (v0_3 : Int) (v1_0 : Bool) (v1_1 : Int) (v1_2 : Int) (v1_3 : Int) : den 0 (kret [(.t 4)] dec_ddiref03_Compare) a_ddiref03_Compare (envOf [(0, (.agg [(.bool v0_0), (.int .u64 v0_1), (.int .u64 v0_2), (.int .i64 v0_3)])), (1, (.agg [(.bool v1_0), (.int .u64 v1_1), (.int .u64 v1_2), (.int .i64 v1_3)]))]) (memOf []) (kend (kret [(.t 4)] dec_ddiref03_Compare)) = ddiref03_Compare v0_0 v0_1 v0_2 v0_3 v1_0 v1_1 v1_2 v1_3 := by
  rw [ddiref03_Compare_eq]; kernel_rfl
theorem c_ddiref03_Compare : cFn (TIof Try.prog) Try.f35 = some ⟨24, [(.t 4)], scOf a_ddiref03_Compare⟩ := by kernel_rfl
noncomputable def ent_ddiref03_Compare {R : Type} (xs : List AV) (K : AV → Option R) : Option R := chk (fitS shp_ddiref03_Compare (entry xs) Mem.none) (oB (ddiref03_Compare (gB ((entry xs) 0).cells 0) (gI ((entry xs) 0).cells 1) (gI ((entry xs) 0).cells 2) (gI ((entry xs) 0).cells 3) (gB ((entry xs) 1).cells 0) (gI ((entry xs) 1).cells 1) (gI ((entry xs) 1).cells 2) (gI ((entry xs) 1).cells 3)) fun r => K (enc_ddiref03_Compare r))
theorem k_ddiref03_Compare {R : Type} : EntOkB Try.prog 35 (ent_ddiref03_Compare (R := R)) :=
  ent_of (F := fun xs => ddiref03_Compare (gB ((entry xs) 0).cells 0) (gI ((entry xs) 0).cells 1) (gI ((entry xs) 0).cells 2) (gI ((entry xs) 0).cells 3) (gB ((entry xs) 1).cells 0) (gI ((entry xs) 1).cells 1) (gI ((entry xs) 1).cells 2) (gI ((entry xs) 1).cells 3)) (enc := enc_ddiref03_Compare) tabOk follows Try.func35 (by kernel_rfl) c_ddiref03_Compare (fun z r h => by
    obtain ⟨h1, h2⟩ := cond_some h
    cases h2
    exact (etaRV_eq h1).symm) ok_ddiref03_Compare (er_of (by kernel_rfl)) shp_ddiref03_Compare (fun xs => t_ddiref03_Compare (gB ((entry xs) 0).cells 0) (gI ((entry xs) 0).cells 1) (gI ((entry xs) 0).cells 2) (gI ((entry xs) 0).cells 3) (gB ((entry xs) 1).cells 0) (gI ((entry xs) 1).cells 1) (gI ((entry xs) 1).cells 2) (gI ((entry xs) 1).cells 3)) (fun xs K r h => by
    unfold ent_ddiref03_Compare at h
    exact ⟨(chk_some h).1, oB_some (chk_some h).2⟩)

/-! ddi/ddiref03.Of -/
def dec_ddiref03_Of (z : AV) : Option (AV × Bool) := cond (fitTup [(.st [.b, (.i .u64), (.i .u64), (.i .i64)]), (.one .b)] z) (some ((gC (tpL z) 0), aB (gC (tpL z) 1))) none
def enc_ddiref03_Of (r : AV × Bool) : AV := .tup [etaRV (.st [.b, (.i .u64), (.i .u64), (.i .i64)]) r.1, .bool r.2]
def shp_ddiref03_Of_J4 : Shp := ⟨[(1, .one (.l (.i .i64))), (2, .one (.ptr 0 0)), (4, .one (.ptr 1 0))], [.box true [(.l .b), (.l (.i .u64)), (.l (.i .u64))], .box true [(.l .b), (.l (.i .u64)), (.l (.i .u64)), (.l (.i .i64))]]⟩
noncomputable def ddiref03_Of_J4_i  (v1 : Int) (b0_0 : Bool) (b0_1 : Int) (b0_2 : Int) (b1_0 : Bool) (b1_1 : Int) (b1_2 : Int) (b1_3 : Int) (kn : Bool → Option (AV × Bool)) : Option (AV × Bool) :=
  (oB (ddiref02_Valid b0_0 b0_1 b0_2) fun r1 => (bif ((!r1) || (decide (v1 < (0 : Int)))) then (kn true) else (oB (ddiref03_Long b0_0) fun r2 => (kn (decide (v1 > r2))))))
noncomputable def ddiref03_Of_J4 := hull (ddiref03_Of_J4_i)
theorem ddiref03_Of_J4_eq : ddiref03_Of_J4 = ddiref03_Of_J4_i := hull_eq _
noncomputable def a_ddiref03_Of_J4 : AC (AV × Bool) :=
  .seq (.reg [.op ⟨(some 9), (.load true 3 (.t 2)), none⟩,
    .call ⟨(some 10), (.call 74 [(.t 9)]), none⟩ 74 ent_ddiref02_Valid,
    .op ⟨(some 11), (.un .not (.t 10)), none⟩,
    .op ⟨(some 12), (.mv (.t 11)), none⟩,
    .grp 12 false [⟨(some 13), (.mv (.t 1)), (some (12, false))⟩, ⟨(some 14), (.bin .lss (.t 13) (.c (.int .i64 0))), (some (12, false))⟩] 15 (.t 14),
    .op ⟨(some 16), (.mv (.t 15)), none⟩,
    .op ⟨(some 17), (.mv (.t 1)), (some (16, false))⟩,
    .op ⟨(some 18), (.fa 0 (.t 2)), (some (16, false))⟩,
    .op ⟨(some 19), (.load false 1 (.t 18)), (some (16, false))⟩,
    .call ⟨(some 20), (.call 75 [(.t 19)]), (some (16, false))⟩ 75 ent_ddiref03_Long,
    .op ⟨(some 21), (.bin .gtr (.t 17) (.t 20)), (some (16, false))⟩,
    .op ⟨(some 22), (.pick (.t 16) (.c (.bool true)) (.t 21)), none⟩]) (.view [.sel [1, 2, 4, 22] [0, 1]])
theorem ok_ddiref03_Of_J4 : AC.ok Try.prog (TIof Try.prog) 53 0 (kret [(.cell 4 true 4), (.t 5)] dec_ddiref03_Of) a_ddiref03_Of_J4 := (And.intro (And.intro (EntOkB.ok k_ddiref02_Valid) (And.intro (EntOkB.ok k_ddiref03_Long) True.intro)) True.intro)
theorem t_ddiref03_Of_J4 (v1 : Int) (b0_0 : Bool) (b0_1 : Int) (b0_2 : Int) (b1_0 : Bool) (b1_1 : Int) (b1_2 : Int) (b1_3 : Int) (K : Ex → Env → Mem → Option (AV × Bool)) : den 0 (kret [(.cell 4 true 4), (.t 5)] dec_ddiref03_Of) a_ddiref03_Of_J4 (envOf [(1, (.int .i64 v1)), (2, (.ptr 0 0)), (4, (.ptr 1 0))]) (memOf [(some (.box true [(.bool b0_0), (.int .u64 b0_1), (.int .u64 b0_2)])), (some (.box true [(.bool b1_0), (.int .u64 b1_1), (.int .u64 b1_2), (.int .i64 b1_3)]))]) K = ddiref03_Of_J4 v1 b0_0 b0_1 b0_2 b1_0 b1_1 b1_2 b1_3 (fun z_v22 => K .norm (envOf [(1, (.int .i64 v1)), (2, (.ptr 0 0)), (4, (.ptr 1 0)), (22, (.bool z_v22))]) (memOf [(some (.box true [(.bool b0_0), (.int .u64 b0_1), (.int .u64 b0_2)])), (some (.box true [(.bool b1_0), (.int .u64 b1_1), (.int .u64 b1_2), (.int .i64 b1_3)]))])) := by
  rw [ddiref03_Of_J4_eq]; kernel_rfl
noncomputable def s_ddiref03_Of_J4 : Env → Mem → (Ex → Env → Mem → Option (AV × Bool)) → Option (AV × Bool) := fun t m K => chk (fitS0 shp_ddiref03_Of_J4 t m) (cond (hdS shp_ddiref03_Of_J4 t m) (ddiref03_Of_J4 (gI [t 1] 0) (gB (bxC (m.s 0)) 0) (gI (bxC (m.s 0)) 1) (gI (bxC (m.s 0)) 2) (gB (bxC (m.s 1)) 0) (gI (bxC (m.s 1)) 1) (gI (bxC (m.s 1)) 2) (gI (bxC (m.s 1)) 3) (fun z_v22 => K .norm (envOf [(1, (.int .i64 (gI [t 1] 0))), (2, (.ptr 0 0)), (4, (.ptr 1 0)), (22, (.bool z_v22))]) (memOf [(some (.box true [(.bool (gB (bxC (m.s 0)) 0)), (.int .u64 (gI (bxC (m.s 0)) 1)), (.int .u64 (gI (bxC (m.s 0)) 2))])), (some (.box true [(.bool (gB (bxC (m.s 1)) 0)), (.int .u64 (gI (bxC (m.s 1)) 1)), (.int .u64 (gI (bxC (m.s 1)) 2)), (.int .i64 (gI (bxC (m.s 1)) 3))]))]))) none)
theorem o_ddiref03_Of_J4 : SubOk Try.prog (TIof Try.prog) 53 0 (kret [(.cell 4 true 4), (.t 5)] dec_ddiref03_Of) (scOf a_ddiref03_Of_J4) s_ddiref03_Of_J4 :=
  sub_of tabOk follows ok_ddiref03_Of_J4 (er_of (by kernel_rfl)) shp_ddiref03_Of_J4 (fun t m K => congrArg (fun z => chk (fitS0 shp_ddiref03_Of_J4 t m) (cond (hdS shp_ddiref03_Of_J4 t m) z none)) (t_ddiref03_Of_J4 (gI [t 1] 0) (gB (bxC (m.s 0)) 0) (gI (bxC (m.s 0)) 1) (gI (bxC (m.s 0)) 2) (gB (bxC (m.s 1)) 0) (gI (bxC (m.s 1)) 1) (gI (bxC (m.s 1)) 2) (gI (bxC (m.s 1)) 3) K).symm)
def shp_ddiref03_Of : Shp := ⟨[(0, .st [(.l .b), (.l (.i .u64)), (.l (.i .u64))]), (1, .one (.l (.i .i64)))], []⟩
noncomputable def ddiref03_Of_i (v0_0 : Bool) (v0_1 : Int) (v0_2 : Int) (v1 : Int) : Option (AV × Bool) :=
  (ddiref03_Of_J4 v1 v0_0 v0_1 v0_2 false (0 : Int) (0 : Int) (0 : Int) (fun v22 => (bif v22 then (some ((.agg [(.bool false), (.int .u64 (0 : Int)), (.int .u64 (0 : Int)), (.int .i64 (0 : Int))]), false)) else (oB (ddiref03_Long v0_0) fun r1 => (oB (ddiref03_ones (IntKind.i64.wrap (r1 - v1))) fun r2 => (some ((.agg [(.bool v0_0), (.int .u64 (IntKind.u64.wrap (v0_1 - (ibits .and .u64 v0_1 r2.1)))), (.int .u64 (IntKind.u64.wrap (v0_2 - (ibits .and .u64 v0_2 r2.2)))), (.int .i64 v1)]), true)))))))
noncomputable def ddiref03_Of := hull ddiref03_Of_i
theorem ddiref03_Of_eq : ddiref03_Of = ddiref03_Of_i := hull_eq _
noncomputable def a_ddiref03_Of : AC (AV × Bool) :=
  .seq (.reg [.op ⟨(some 2), (.box (.t 0)), none⟩,
    .op ⟨(some 4), (.alloc [(.bool false), (.int .u64 0), (.int .u64 0), (.int .i64 0)]), none⟩,
    .op ⟨(some 5), (.mv (.c (.bool false))), none⟩]) (.seq (.seq (.seq (.view [.sel [1, 2, 4] [0, 1]]) (.sub (scOf a_ddiref03_Of_J4) s_ddiref03_Of_J4)) (.cond (.t 22) (.seq (.reg [.op ⟨(some 23), (.build [(.bool false), (.int .u64 0), (.int .u64 0), (.int .i64 0)] []), none⟩,
    .op ⟨none, (.store 4 (.t 4) (.t 23)), none⟩,
    .op ⟨(some 5), (.mv (.c (.bool false))), none⟩]) (.ret)) (.skip))) (.seq (.reg [.op ⟨(some 25), (.fa 0 (.t 2)), none⟩,
    .op ⟨(some 26), (.load false 1 (.t 25)), none⟩,
    .call ⟨(some 27), (.call 75 [(.t 26)]), none⟩ 75 ent_ddiref03_Long,
    .op ⟨(some 28), (.mv (.t 1)), none⟩,
    .op ⟨(some 29), (.bin .sub (.t 27) (.t 28)), none⟩,
    .call ⟨(some 30), (.call 76 [(.t 29)]), none⟩ 76 ent_ddiref03_ones,
    .op ⟨(some 24), (.mv (.t 30)), none⟩,
    .op ⟨(some 31), (.ext (.t 24) 0), none⟩,
    .op ⟨(some 32), (.ext (.t 24) 1), none⟩,
    .op ⟨(some 6), (.mv (.t 31)), none⟩,
    .op ⟨(some 7), (.mv (.t 32)), none⟩]) (.seq (.reg [.op ⟨(some 33), (.fa 0 (.t 2)), none⟩,
    .op ⟨(some 34), (.load false 1 (.t 33)), none⟩,
    .op ⟨(some 35), (.fa 1 (.t 2)), none⟩,
    .op ⟨(some 36), (.load false 1 (.t 35)), none⟩,
    .op ⟨(some 37), (.fa 1 (.t 2)), none⟩,
    .op ⟨(some 38), (.load false 1 (.t 37)), none⟩,
    .op ⟨(some 39), (.mv (.t 6)), none⟩,
    .op ⟨(some 40), (.bin .and (.t 38) (.t 39)), none⟩,
    .op ⟨(some 41), (.bin .sub (.t 36) (.t 40)), none⟩,
    .op ⟨(some 42), (.fa 2 (.t 2)), none⟩,
    .op ⟨(some 43), (.load false 1 (.t 42)), none⟩,
    .op ⟨(some 44), (.fa 2 (.t 2)), none⟩,
    .op ⟨(some 45), (.load false 1 (.t 44)), none⟩,
    .op ⟨(some 46), (.mv (.t 7)), none⟩,
    .op ⟨(some 47), (.bin .and (.t 45) (.t 46)), none⟩,
    .op ⟨(some 48), (.bin .sub (.t 43) (.t 47)), none⟩,
    .op ⟨(some 49), (.build [(.bool false), (.int .u64 0), (.int .u64 0)] [(0, (1, (.t 34))), (1, (1, (.t 41))), (2, (1, (.t 48)))]), none⟩,
    .op ⟨(some 8), (.alloc [(.bool false), (.int .u64 0), (.int .u64 0)]), none⟩,
    .op ⟨none, (.store 3 (.t 8) (.t 49)), none⟩]) (.seq (.reg [.op ⟨(some 50), (.load true 3 (.t 8)), none⟩,
    .op ⟨(some 51), (.mv (.t 1)), none⟩,
    .op ⟨(some 52), (.build [(.bool false), (.int .u64 0), (.int .u64 0), (.int .i64 0)] [(0, (3, (.t 50))), (3, (1, (.t 51)))]), none⟩,
    .op ⟨none, (.store 4 (.t 4) (.t 52)), none⟩,
    .op ⟨(some 5), (.mv (.c (.bool true))), none⟩]) (.ret)))))
theorem ok_ddiref03_Of : AC.ok Try.prog (TIof Try.prog) 53 0 (kret [(.cell 4 true 4), (.t 5)] dec_ddiref03_Of) a_ddiref03_Of := (And.intro True.intro (And.intro (And.intro (And.intro True.intro o_ddiref03_Of_J4) (And.intro (And.intro True.intro True.intro) True.intro)) (And.intro (And.intro (EntOkB.ok k_ddiref03_Long) (And.intro (EntOkB.ok k_ddiref03_ones) True.intro)) (And.intro True.intro (And.intro True.intro True.intro)))))
theorem t_ddiref03_Of (v0_0 : Bool) (v0_1 : Int) (v0_2 : Int) (v1 : Int) : den 0 (kret [(.cell 4 true 4), (.t 5)] dec_ddiref03_Of) a_ddiref03_Of (envOf [(0, (.agg [(.bool v0_0), (.int .u64 v0_1), (.int .u64 v0_2)])), (1, (.int .i64 v1))]) (memOf []) (kend (kret [(.cell 4 true 4), (.t 5)] dec_ddiref03_Of)) = ddiref03_Of v0_0 v0_1 v0_2 v1 := by
  rw [ddiref03_Of_eq]; kernel_rfl
theorem c_ddiref03_Of : cFn (TIof Try.prog) Try.f106 = some ⟨53, [(.cell 4 true 4), (.t 5)], scOf a_ddiref03_Of⟩ := by kernel_rfl
noncomputable def ent_ddiref03_Of {R : Type} (xs : List AV) (K : AV → Option R) : Option R := chk (fitS shp_ddiref03_Of (entry xs) Mem.none) (oB (ddiref03_Of (gB ((entry xs) 0).cells 0) (gI ((entry xs) 0).cells 1) (gI ((entry xs) 0).cells 2) (gI [(entry xs) 1] 0)) fun r => K (enc_ddiref03_Of r))
theorem k_ddiref03_Of {R : Type} : EntOkB Try.prog 106 (ent_ddiref03_Of (R := R)) :=
  ent_of (F := fun xs => ddiref03_Of (gB ((entry xs) 0).cells 0) (gI ((entry xs) 0).cells 1) (gI ((entry xs) 0).cells 2) (gI [(entry xs) 1] 0)) (enc := enc_ddiref03_Of) tabOk follows Try.func106 (by kernel_rfl) c_ddiref03_Of (fun z r h => by
    obtain ⟨h1, h2⟩ := cond_some h
    cases h2
    exact (fitTup_eq h1).symm) ok_ddiref03_Of (er_of (by kernel_rfl)) shp_ddiref03_Of (fun xs => t_ddiref03_Of (gB ((entry xs) 0).cells 0) (gI ((entry xs) 0).cells 1) (gI ((entry xs) 0).cells 2) (gI [(entry xs) 1] 0)) (fun xs K r h => by
    unfold ent_ddiref03_Of at h
    exact ⟨(chk_some h).1, oB_some (chk_some h).2⟩)

/-! ddi/ddiref03.Contains -/
def dec_ddiref03_Contains (z : AV) : Option Bool := cond (fitRV (.one .b) z) (some (aB z)) none
def enc_ddiref03_Contains (r : Bool) : AV := .bool r
def shp_ddiref03_Contains_J4 : Shp := ⟨[(2, .one (.ptr 0 0)), (3, .one (.ptr 1 0))], [.box true [(.l .b), (.l (.i .u64)), (.l (.i .u64)), (.l (.i .i64))], .box true [(.l .b), (.l (.i .u64)), (.l (.i .u64))]]⟩
noncomputable def ddiref03_Contains_J4_i  (b0_0 : Bool) (b0_1 : Int) (b0_2 : Int) (b0_3 : Int) (b1_0 : Bool) (b1_1 : Int) (b1_2 : Int) (kn : Bool → Option Bool) : Option Bool :=
  (oB (ddiref03_Valid b0_0 b0_1 b0_2 b0_3) fun r1 => (bif (!r1) then (kn true) else (oB (ddiref02_Valid b1_0 b1_1 b1_2) fun r2 => (kn ((!r2) || (!((b0_0 == b1_0) && true)))))))
noncomputable def ddiref03_Contains_J4 := hull (ddiref03_Contains_J4_i)
theorem ddiref03_Contains_J4_eq : ddiref03_Contains_J4 = ddiref03_Contains_J4_i := hull_eq _
noncomputable def a_ddiref03_Contains_J4 : AC Bool :=
  .seq (.reg [.op ⟨(some 7), (.load true 4 (.t 2)), none⟩,
    .call ⟨(some 8), (.call 33 [(.t 7)]), none⟩ 33 ent_ddiref03_Valid,
    .op ⟨(some 9), (.un .not (.t 8)), none⟩,
    .op ⟨(some 10), (.mv (.t 9)), none⟩,
    .op ⟨(some 11), (.load true 3 (.t 3)), (some (10, false))⟩,
    .call ⟨(some 12), (.call 74 [(.t 11)]), (some (10, false))⟩ 74 ent_ddiref02_Valid,
    .op ⟨(some 13), (.un .not (.t 12)), (some (10, false))⟩,
    .op ⟨(some 14), (.pick (.t 10) (.c (.bool true)) (.t 13)), none⟩,
    .op ⟨(some 15), (.mv (.t 14)), none⟩,
    .grp 15 false [⟨(some 16), (.fa 0 (.t 2)), (some (15, false))⟩, ⟨(some 17), (.fa 0 (.t 16)), (some (15, false))⟩, ⟨(some 18), (.load false 1 (.t 17)), (some (15, false))⟩, ⟨(some 19), (.fa 0 (.t 3)), (some (15, false))⟩, ⟨(some 20), (.load false 1 (.t 19)), (some (15, false))⟩, ⟨(some 21), (.eq true false [.b] (.t 18) (.t 20)), (some (15, false))⟩] 22 (.t 21)]) (.view [.sel [2, 3, 22] [0, 1]])
theorem ok_ddiref03_Contains_J4 : AC.ok Try.prog (TIof Try.prog) 33 0 (kret [(.t 4)] dec_ddiref03_Contains) a_ddiref03_Contains_J4 := (And.intro (And.intro (EntOkB.ok k_ddiref03_Valid) (And.intro (EntOkB.ok k_ddiref02_Valid) True.intro)) True.intro)
theorem t_ddiref03_Contains_J4 (b0_0 : Bool) (b0_1 : Int) (b0_2 : Int) (b0_3 : Int) (b1_0 : Bool) (b1_1 : Int) (b1_2 : Int) (K : Ex → Env → Mem → Option Bool) : den 0 (kret [(.t 4)] dec_ddiref03_Contains) a_ddiref03_Contains_J4 (envOf [(2, (.ptr 0 0)), (3, (.ptr 1 0))]) (memOf [(some (.box true [(.bool b0_0), (.int .u64 b0_1), (.int .u64 b0_2), (.int .i64 b0_3)])), (some (.box true [(.bool b1_0), (.int .u64 b1_1), (.int .u64 b1_2)]))]) K = ddiref03_Contains_J4 b0_0 b0_1 b0_2 b0_3 b1_0 b1_1 b1_2 (fun z_v22 => K .norm (envOf [(2, (.ptr 0 0)), (3, (.ptr 1 0)), (22, (.bool z_v22))]) (memOf [(some (.box true [(.bool b0_0), (.int .u64 b0_1), (.int .u64 b0_2), (.int .i64 b0_3)])), (some (.box true [(.bool b1_0), (.int .u64 b1_1), (.int .u64 b1_2)]))])) := by
  rw [ddiref03_Contains_J4_eq]; kernel_rfl
noncomputable def s_ddiref03_Contains_J4 : Env → Mem → (Ex → Env → Mem → Option Bool) → Option Bool := fun t m K => chk (fitS0 shp_ddiref03_Contains_J4 t m) (cond (hdS shp_ddiref03_Contains_J4 t m) (ddiref03_Contains_J4 (gB (bxC (m.s 0)) 0) (gI (bxC (m.s 0)) 1) (gI (bxC (m.s 0)) 2) (gI (bxC (m.s 0)) 3) (gB (bxC (m.s 1)) 0) (gI (bxC (m.s 1)) 1) (gI (bxC (m.s 1)) 2) (fun z_v22 => K .norm (envOf [(2, (.ptr 0 0)), (3, (.ptr 1 0)), (22, (.bool z_v22))]) (memOf [(some (.box true [(.bool (gB (bxC (m.s 0)) 0)), (.int .u64 (gI (bxC (m.s 0)) 1)), (.int .u64 (gI (bxC (m.s 0)) 2)), (.int .i64 (gI (bxC (m.s 0)) 3))])), (some (.box true [(.bool (gB (bxC (m.s 1)) 0)), (.int .u64 (gI (bxC (m.s 1)) 1)), (.int .u64 (gI (bxC (m.s 1)) 2))]))]))) none)
theorem o_ddiref03_Contains_J4 : SubOk Try.prog (TIof Try.prog) 33 0 (kret [(.t 4)] dec_ddiref03_Contains) (scOf a_ddiref03_Contains_J4) s_ddiref03_Contains_J4 :=
  sub_of tabOk follows ok_ddiref03_Contains_J4 (er_of (by kernel_rfl)) shp_ddiref03_Contains_J4 (fun t m K => congrArg (fun z => chk (fitS0 shp_ddiref03_Contains_J4 t m) (cond (hdS shp_ddiref03_Contains_J4 t m) z none)) (t_ddiref03_Contains_J4 (gB (bxC (m.s 0)) 0) (gI (bxC (m.s 0)) 1) (gI (bxC (m.s 0)) 2) (gI (bxC (m.s 0)) 3) (gB (bxC (m.s 1)) 0) (gI (bxC (m.s 1)) 1) (gI (bxC (m.s 1)) 2) K).symm)
def shp_ddiref03_Contains : Shp := ⟨[(0, .st [(.l .b), (.l (.i .u64)), (.l (.i .u64)), (.l (.i .i64))]), (1, .st [(.l .b), (.l (.i .u64)), (.l (.i .u64))])], []⟩
noncomputable def ddiref03_Contains_i (v0_0 : Bool) (v0_1 : Int) (v0_2 : Int) (v0_3 : Int) (v1_0 : Bool) (v1_1 : Int) (v1_2 : Int) : Option Bool :=
  (ddiref03_Contains_J4 v0_0 v0_1 v0_2 v0_3 v1_0 v1_1 v1_2 (fun v22 => (bif v22 then (some false) else (oB (ddiref03_Of v1_0 v1_1 v1_2 v0_3) fun r1 => (some (((gB r1.1.cells 0) == v0_0) && (((gI r1.1.cells 1) == v0_1) && (((gI r1.1.cells 2) == v0_2) && (((gI r1.1.cells 3) == v0_3) && true)))))))))
noncomputable def ddiref03_Contains := hull ddiref03_Contains_i
theorem ddiref03_Contains_eq : ddiref03_Contains = ddiref03_Contains_i := hull_eq _
noncomputable def a_ddiref03_Contains : AC Bool :=
  .seq (.reg [.op ⟨(some 2), (.box (.t 0)), none⟩,
    .op ⟨(some 3), (.box (.t 1)), none⟩,
    .op ⟨(some 4), (.mv (.c (.bool false))), none⟩]) (.seq (.seq (.seq (.view [.sel [2, 3] [0, 1]]) (.sub (scOf a_ddiref03_Contains_J4) s_ddiref03_Contains_J4)) (.cond (.t 22) (.seq (.reg [.op ⟨(some 4), (.mv (.c (.bool false))), none⟩]) (.ret)) (.skip))) (.seq (.reg [.op ⟨(some 24), (.load true 3 (.t 3)), none⟩,
    .op ⟨(some 25), (.fa 3 (.t 2)), none⟩,
    .op ⟨(some 26), (.load false 1 (.t 25)), none⟩,
    .call ⟨(some 27), (.call 106 [(.t 24), (.t 26)]), none⟩ 106 ent_ddiref03_Of,
    .op ⟨(some 23), (.mv (.t 27)), none⟩,
    .op ⟨(some 28), (.ext (.t 23) 0), none⟩,
    .op ⟨(some 29), (.ext (.t 23) 1), none⟩,
    .op ⟨(some 5), (.alloc [(.bool false), (.int .u64 0), (.int .u64 0), (.int .i64 0)]), none⟩,
    .op ⟨none, (.store 4 (.t 5) (.t 28)), none⟩,
    .op ⟨(some 6), (.mv (.t 29)), none⟩]) (.seq (.reg [.op ⟨(some 30), (.load true 4 (.t 5)), none⟩,
    .op ⟨(some 31), (.load true 4 (.t 2)), none⟩,
    .op ⟨(some 32), (.eq false true [.b, (.i .u64), (.i .u64), (.i .i64)] (.t 30) (.t 31)), none⟩,
    .op ⟨(some 4), (.mv (.t 32)), none⟩]) (.ret))))
theorem ok_ddiref03_Contains : AC.ok Try.prog (TIof Try.prog) 33 0 (kret [(.t 4)] dec_ddiref03_Contains) a_ddiref03_Contains := (And.intro True.intro (And.intro (And.intro (And.intro True.intro o_ddiref03_Contains_J4) (And.intro (And.intro True.intro True.intro) True.intro)) (And.intro (And.intro (EntOkB.ok k_ddiref03_Of) True.intro) (And.intro True.intro True.intro))))
theorem t_ddiref03_Contains (v0_0 : Bool) (v0_1 : Int) (v0_2 : Int) (v0_3 : Int) (v1_0 : Bool) (v1_1 : Int) (v1_2 : Int) : den 0 (kret [(.t 4)] dec_ddiref03_Contains) a_ddiref03_Contains (envOf [(0, (.agg [(.bool v0_0), (.int .u64 v0_1), (.int .u64 v0_2), (.int .i64 v0_3)])), (1, (.agg [(.bool v1_0), (.int .u64 v1_1), (.int .u64 v1_2)]))]) (memOf []) (kend (kret [(.t 4)] dec_ddiref03_Contains)) = ddiref03_Contains v0_0 v0_1 v0_2 v0_3 v1_0 v1_1 v1_2 := by
  rw [ddiref03_Contains_eq]; kernel_rfl
theorem c_ddiref03_Contains : cFn (TIof Try.prog) Try.f82 = some ⟨33, [(.t 4)], scOf a_ddiref03_Contains⟩ := by kernel_rfl
noncomputable def ent_ddiref03_Contains {R : Type} (xs : List AV) (K : AV → Option R) : Option R := chk (fitS shp_ddiref03_Contains (entry xs) Mem.none) (oB (ddiref03_Contains (gB ((entry xs) 0).cells 0) (gI ((entry xs) 0).cells 1) (gI ((entry xs) 0).cells 2) (gI ((entry xs) 0).cells 3) (gB ((entry xs) 1).cells 0) (gI ((entry xs) 1).cells 1) (gI ((entry xs) 1).cells 2)) fun r => K (enc_ddiref03_Contains r))
theorem k_ddiref03_Contains {R : Type} : EntOkB Try.prog 82 (ent_ddiref03_Contains (R := R)) :=
  ent_of (F := fun xs => ddiref03_Contains (gB ((entry xs) 0).cells 0) (gI ((entry xs) 0).cells 1) (gI ((entry xs) 0).cells 2) (gI ((entry xs) 0).cells 3) (gB ((entry xs) 1).cells 0) (gI ((entry xs) 1).cells 1) (gI ((entry xs) 1).cells 2)) (enc := enc_ddiref03_Contains) tabOk follows Try.func82 (by kernel_rfl) c_ddiref03_Contains (fun z r h => by
    obtain ⟨h1, h2⟩ := cond_some h
    cases h2
    exact (etaRV_eq h1).symm) ok_ddiref03_Contains (er_of (by kernel_rfl)) shp_ddiref03_Contains (fun xs => t_ddiref03_Contains (gB ((entry xs) 0).cells 0) (gI ((entry xs) 0).cells 1) (gI ((entry xs) 0).cells 2) (gI ((entry xs) 0).cells 3) (gB ((entry xs) 1).cells 0) (gI ((entry xs) 1).cells 1) (gI ((entry xs) 1).cells 2)) (fun xs K r h => by
    unfold ent_ddiref03_Contains at h
    exact ⟨(chk_some h).1, oB_some (chk_some h).2⟩)

/-! ddi/ddiref03.Within -/
def dec_ddiref03_Within (z : AV) : Option Bool := cond (fitRV (.one .b) z) (some (aB z)) none
def enc_ddiref03_Within (r : Bool) : AV := .bool r
def shp_ddiref03_Within : Shp := ⟨[(0, .st [(.l .b), (.l (.i .u64)), (.l (.i .u64)), (.l (.i .i64))]), (1, .st [(.l .b), (.l (.i .u64)), (.l (.i .u64)), (.l (.i .i64))])], []⟩
noncomputable def ddiref03_Within_i (v0_0 : Bool) (v0_1 : Int) (v0_2 : Int) (v0_3 : Int) (v1_0 : Bool) (v1_1 : Int) (v1_2 : Int) (v1_3 : Int) : Option Bool :=
  (oB (ddiref03_Valid v0_0 v0_1 v0_2 v0_3) fun r1 => (bif (r1 && (decide (v0_3 ≥ v1_3))) then (oB (ddiref03_Contains v1_0 v1_1 v1_2 v1_3 v0_0 v0_1 v0_2) fun r2 => (some r2)) else (some false)))
noncomputable def ddiref03_Within := hull ddiref03_Within_i
theorem ddiref03_Within_eq : ddiref03_Within = ddiref03_Within_i := hull_eq _
noncomputable def a_ddiref03_Within : AC Bool :=
  .seq (.reg [.op ⟨(some 2), (.box (.t 0)), none⟩,
    .op ⟨(some 3), (.box (.t 1)), none⟩,
    .op ⟨(some 4), (.mv (.c (.bool false))), none⟩]) (.seq (.reg [.op ⟨(some 5), (.load true 4 (.t 2)), none⟩,
    .call ⟨(some 6), (.call 33 [(.t 5)]), none⟩ 33 ent_ddiref03_Valid,
    .op ⟨(some 7), (.mv (.t 6)), none⟩,
    .grp 7 true [⟨(some 8), (.fa 3 (.t 2)), (some (7, true))⟩, ⟨(some 9), (.load false 1 (.t 8)), (some (7, true))⟩, ⟨(some 10), (.fa 3 (.t 3)), (some (7, true))⟩, ⟨(some 11), (.load false 1 (.t 10)), (some (7, true))⟩, ⟨(some 12), (.bin .geq (.t 9) (.t 11)), (some (7, true))⟩] 13 (.t 12),
    .op ⟨(some 14), (.mv (.t 13)), none⟩,
    .op ⟨(some 15), (.load true 4 (.t 3)), (some (14, true))⟩,
    .op ⟨(some 16), (.fa 0 (.t 2)), (some (14, true))⟩,
    .op ⟨(some 17), (.load true 3 (.t 16)), (some (14, true))⟩,
    .call ⟨(some 18), (.call 82 [(.t 15), (.t 17)]), (some (14, true))⟩ 82 ent_ddiref03_Contains,
    .op ⟨(some 19), (.pick (.t 14) (.t 18) (.c (.bool false))), none⟩,
    .op ⟨(some 4), (.mv (.t 19)), none⟩]) (.ret))
theorem ok_ddiref03_Within : AC.ok Try.prog (TIof Try.prog) 20 0 (kret [(.t 4)] dec_ddiref03_Within) a_ddiref03_Within := (And.intro True.intro (And.intro (And.intro (EntOkB.ok k_ddiref03_Valid) (And.intro (EntOkB.ok k_ddiref03_Contains) True.intro)) True.intro))
theorem t_ddiref03_Within (v0_0 : Bool) (v0_1 : Int) (v0_2 : Int) (v0_3 : Int) (v1_0 : Bool) (v1_1 : Int) (v1_2 : Int) (v1_3 : Int) : den 0 (kret [(.t 4)] dec_ddiref03_Within) a_ddiref03_Within (envOf [(0, (.agg [(.bool v0_0), (.int .u64 v0_1), (.int .u64 v0_2), (.int .i64 v0_3)])), (1, (.agg [(.bool v1_0), (.int .u64 v1_1), (.int .u64 v1_2), (.int .i64 v1_3)]))]) (memOf []) (kend (kret [(.t 4)] dec_ddiref03_Within)) = ddiref03_Within v0_0 v0_1 v0_2 v0_3 v1_0 v1_1 v1_2 v1_3 := by
  rw [ddiref03_Within_eq]; kernel_rfl
theorem c_ddiref03_Within : cFn (TIof Try.prog) Try.f81 = some ⟨20, [(.t 4)], scOf a_ddiref03_Within⟩ := by kernel_rfl
noncomputable def ent_ddiref03_Within {R : Type} (xs : List AV) (K : AV → Option R) : Option R := chk (fitS shp_ddiref03_Within (entry xs) Mem.none) (oB (ddiref03_Within (gB ((entry xs) 0).cells 0) (gI ((entry xs) 0).cells 1) (gI ((entry xs) 0).cells 2) (gI ((entry xs) 0).cells 3) (gB ((entry xs) 1).cells 0) (gI ((entry xs) 1).cells 1) (gI ((entry xs) 1).cells 2) (gI ((entry xs) 1).cells 3)) fun r => K (enc_ddiref03_Within r))
theorem k_ddiref03_Within {R : Type} : EntOkB Try.prog 81 (ent_ddiref03_Within (R := R)) :=
  ent_of (F := fun xs => ddiref03_Within (gB ((entry xs) 0).cells 0) (gI ((entry xs) 0).cells 1) (gI ((entry xs) 0).cells 2) (gI ((entry xs) 0).cells 3) (gB ((entry xs) 1).cells 0) (gI ((entry xs) 1).cells 1) (gI ((entry xs) 1).cells 2) (gI ((entry xs) 1).cells 3)) (enc := enc_ddiref03_Within) tabOk follows Try.func81 (by kernel_rfl) c_ddiref03_Within (fun z r h => by
    obtain ⟨h1, h2⟩ := cond_some h
    cases h2
    exact (etaRV_eq h1).symm) ok_ddiref03_Within (er_of (by kernel_rfl)) shp_ddiref03_Within (fun xs => t_ddiref03_Within (gB ((entry xs) 0).cells 0) (gI ((entry xs) 0).cells 1) (gI ((entry xs) 0).cells 2) (gI ((entry xs) 0).cells 3) (gB ((entry xs) 1).cells 0) (gI ((entry xs) 1).cells 1) (gI ((entry xs) 1).cells 2) (gI ((entry xs) 1).cells 3)) (fun xs K r h => by
    unfold ent_ddiref03_Within at h
    exact ⟨(chk_some h).1, oB_some (chk_some h).2⟩)

/-! ddi/ddiref46.in -/
def dec_ddiref46_in (z : AV) : Option Bool := cond (fitRV (.one .b) z) (some (aB z)) none
def enc_ddiref46_in (r : Bool) : AV := .bool r
def shp_ddiref46_in : Shp := ⟨[(0, .st [(.l .b), (.l (.i .u64)), (.l (.i .u64)), (.l (.i .i64))]), (1, .st [(.l .b), (.l (.i .u64)), (.l (.i .u64)), (.l (.i .i64))])], []⟩
noncomputable def ddiref46_in_i (v0_0 : Bool) (v0_1 : Int) (v0_2 : Int) (v0_3 : Int) (v1_0 : Bool) (v1_1 : Int) (v1_2 : Int) (v1_3 : Int) : Option Bool :=
  (oB (ddiref03_Within v0_0 v0_1 v0_2 v0_3 v1_0 v1_1 v1_2 v1_3) fun r1 => (some (r1 && (decide (v0_3 > v1_3)))))
noncomputable def ddiref46_in := hull ddiref46_in_i
theorem ddiref46_in_eq : ddiref46_in = ddiref46_in_i := hull_eq _
noncomputable def a_ddiref46_in : AC Bool :=
  .seq (.reg [.op ⟨(some 2), (.box (.t 0)), none⟩,
    .op ⟨(some 3), (.box (.t 1)), none⟩,
    .op ⟨(some 4), (.mv (.c (.bool false))), none⟩]) (.seq (.reg [.op ⟨(some 5), (.load true 4 (.t 2)), none⟩,
    .op ⟨(some 6), (.load true 4 (.t 3)), none⟩,
    .call ⟨(some 7), (.call 81 [(.t 5), (.t 6)]), none⟩ 81 ent_ddiref03_Within,
    .op ⟨(some 8), (.mv (.t 7)), none⟩,
    .grp 8 true [⟨(some 9), (.fa 3 (.t 2)), (some (8, true))⟩, ⟨(some 10), (.load false 1 (.t 9)), (some (8, true))⟩, ⟨(some 11), (.fa 3 (.t 3)), (some (8, true))⟩, ⟨(some 12), (.load false 1 (.t 11)), (some (8, true))⟩, ⟨(some 13), (.bin .gtr (.t 10) (.t 12)), (some (8, true))⟩] 14 (.t 13),
    .op ⟨(some 4), (.mv (.t 14)), none⟩]) (.ret))
theorem ok_ddiref46_in : AC.ok Try.prog (TIof Try.prog) 15 0 (kret [(.t 4)] dec_ddiref46_in) a_ddiref46_in := (And.intro True.intro (And.intro (And.intro (EntOkB.ok k_ddiref03_Within) True.intro) True.intro))
theorem t_ddiref46_in (v0_0 : Bool) (v0_1 : Int) (v0_2 : Int) (v0_3 : Int) (v1_0 : Bool) (v1_1 : Int) (v1_2 : Int) (v1_3 : Int) : den 0 (kret [(.t 4)] dec_ddiref46_in) a_ddiref46_in (envOf [(0, (.agg [(.bool v0_0), (.int .u64 v0_1), (.int .u64 v0_2), (.int .i64 v0_3)])), (1, (.agg [(.bool v1_0), (.int .u64 v1_1), (.int .u64 v1_2), (.int .i64 v1_3)]))]) (memOf []) (kend (kret [(.t 4)] dec_ddiref46_in)) = ddiref46_in v0_0 v0_1 v0_2 v0_3 v1_0 v1_1 v1_2 v1_3 := by
  rw [ddiref46_in_eq]; kernel_rfl
theorem c_ddiref46_in : cFn (TIof Try.prog) Try.f80 = some ⟨15, [(.t 4)], scOf a_ddiref46_in⟩ := by kernel_rfl
noncomputable def ent_ddiref46_in {R : Type} (xs : List AV) (K : AV → Option R) : Option R := chk (fitS shp_ddiref46_in (entry xs) Mem.none) (oB (ddiref46_in (gB ((entry xs) 0).cells 0) (gI ((entry xs) 0).cells 1) (gI ((entry xs) 0).cells 2) (gI ((entry xs) 0).cells 3) (gB ((entry xs) 1).cells 0) (gI ((entry xs) 1).cells 1) (gI ((entry xs) 1).cells 2) (gI ((entry xs) 1).cells 3)) fun r => K (enc_ddiref46_in r))
theorem k_ddiref46_in {R : Type} : EntOkB Try.prog 80 (ent_ddiref46_in (R := R)) :=
  ent_of (F := fun xs => ddiref46_in (gB ((entry xs) 0).cells 0) (gI ((entry xs) 0).cells 1) (gI ((entry xs) 0).cells 2) (gI ((entry xs) 0).cells 3) (gB ((entry xs) 1).cells 0) (gI ((entry xs) 1).cells 1) (gI ((entry xs) 1).cells 2) (gI ((entry xs) 1).cells 3)) (enc := enc_ddiref46_in) tabOk follows Try.func80 (by kernel_rfl) c_ddiref46_in (fun z r h => by
    obtain ⟨h1, h2⟩ := cond_some h
    cases h2
    exact (etaRV_eq h1).symm) ok_ddiref46_in (er_of (by kernel_rfl)) shp_ddiref46_in (fun xs => t_ddiref46_in (gB ((entry xs) 0).cells 0) (gI ((entry xs) 0).cells 1) (gI ((entry xs) 0).cells 2) (gI ((entry xs) 0).cells 3) (gB ((entry xs) 1).cells 0) (gI ((entry xs) 1).cells 1) (gI ((entry xs) 1).cells 2) (gI ((entry xs) 1).cells 3)) (fun xs K r h => by
    unfold ent_ddiref46_in at h
    exact ⟨(chk_some h).1, oB_some (chk_some h).2⟩)

/-! ddi/ddiref46.barred -/
def dec_ddiref46_barred (z : AV) : Option Bool := cond (fitRV (.one .b) z) (some (aB z)) none
def enc_ddiref46_barred (r : Bool) : AV := .bool r
def shp_ddiref46_barred : Shp := ⟨[(0, .st [(.l .b), (.l (.i .u64)), (.l (.i .u64)), (.l (.i .i64)), (.l (.i .i64)), (.l .s), (.l .s), (.l (.i .i64))]), (1, .st [(.l .b), (.l (.i .u64)), (.l (.i .u64)), (.l (.i .i64)), (.l (.i .i64)), (.l .s), (.l .s), (.l (.i .i64))])], []⟩
noncomputable def ddiref46_barred_i (v0_0 : Bool) (v0_1 : Int) (v0_2 : Int) (v0_3 : Int) (v0_4 : Int) (v0_5 : List UInt8) (v0_6 : List UInt8) (v0_7 : Int) (v1_0 : Bool) (v1_1 : Int) (v1_2 : Int) (v1_3 : Int) (v1_4 : Int) (v1_5 : List UInt8) (v1_6 : List UInt8) (v1_7 : Int) : Option Bool :=
  (oB (ddiref46_in v0_0 v0_1 v0_2 v0_3 v1_0 v1_1 v1_2 v1_3) fun r1 => (bif r1 then (bif (v1_4 == (3 : Int)) then (some true) else (bif (v1_4 == (2 : Int)) then (some (v0_4 != (3 : Int))) else (some false))) else (some false)))
noncomputable def ddiref46_barred := hull ddiref46_barred_i
theorem ddiref46_barred_eq : ddiref46_barred = ddiref46_barred_i := hull_eq _
noncomputable def a_ddiref46_barred : AC Bool :=
  .seq (.reg [.op ⟨(some 2), (.box (.t 0)), none⟩,
    .op ⟨(some 3), (.box (.t 1)), none⟩,
    .op ⟨(some 4), (.mv (.c (.bool false))), none⟩]) (.seq (.reg [.op ⟨(some 5), (.fa 0 (.t 2)), none⟩,
    .op ⟨(some 6), (.load true 4 (.t 5)), none⟩,
    .op ⟨(some 7), (.fa 0 (.t 3)), none⟩,
    .op ⟨(some 8), (.load true 4 (.t 7)), none⟩,
    .call ⟨(some 9), (.call 80 [(.t 6), (.t 8)]), none⟩ 80 ent_ddiref46_in,
    .op ⟨(some 10), (.mv (.t 9)), none⟩,
    .op ⟨(some 11), (.fa 4 (.t 3)), (some (10, true))⟩,
    .op ⟨(some 12), (.load false 1 (.t 11)), (some (10, true))⟩,
    .op ⟨(some 13), (.bin .eql (.t 12) (.c (.int .i64 3))), (some (10, true))⟩,
    .op ⟨(some 14), (.mv (.t 13)), (some (10, true))⟩,
    .op ⟨(some 15), (.fa 4 (.t 3)), (some (14, false))⟩,
    .op ⟨(some 16), (.load false 1 (.t 15)), (some (14, false))⟩,
    .op ⟨(some 17), (.bin .eql (.t 16) (.c (.int .i64 2))), (some (14, false))⟩,
    .op ⟨(some 18), (.mv (.t 17)), (some (14, false))⟩,
    .op ⟨(some 19), (.fa 4 (.t 2)), (some (18, true))⟩,
    .op ⟨(some 20), (.load false 1 (.t 19)), (some (18, true))⟩,
    .op ⟨(some 21), (.bin .neq (.t 20) (.c (.int .i64 3))), (some (18, true))⟩,
    .op ⟨(some 22), (.pick (.t 18) (.t 21) (.c (.bool false))), (some (14, false))⟩,
    .op ⟨(some 23), (.pick (.t 14) (.c (.bool true)) (.t 22)), (some (10, true))⟩,
    .op ⟨(some 24), (.pick (.t 10) (.t 23) (.c (.bool false))), none⟩,
    .op ⟨(some 4), (.mv (.t 24)), none⟩]) (.ret))
theorem ok_ddiref46_barred : AC.ok Try.prog (TIof Try.prog) 25 0 (kret [(.t 4)] dec_ddiref46_barred) a_ddiref46_barred := (And.intro True.intro (And.intro (And.intro (EntOkB.ok k_ddiref46_in) True.intro) True.intro))
theorem t_ddiref46_barred (v0_0 : Bool) (v0_1 : Int) (v0_2 : Int) (v0_3 : Int) (v0_4 : Int) (v0_5 : List UInt8) (v0_6 : List UInt8) (v0_7 : Int) (v1_0 : Bool) (v1_1 : Int) (v1_2 : Int) (v1_3 : Int) (v1_4 : Int) (v1_5 : List UInt8) (v1_6 : List UInt8) (v1_7 : Int) : den 0 (kret [(.t 4)] dec_ddiref46_barred) a_ddiref46_barred (envOf [(0, (.agg [(.bool v0_0), (.int .u64 v0_1), (.int .u64 v0_2), (.int .i64 v0_3), (.int .i64 v0_4), (.str v0_5), (.str v0_6), (.int .i64 v0_7)])), (1, (.agg [(.bool v1_0), (.int .u64 v1_1), (.int .u64 v1_2), (.int .i64 v1_3), (.int .i64 v1_4), (.str v1_5), (.str v1_6), (.int .i64 v1_7)]))]) (memOf []) (kend (kret [(.t 4)] dec_ddiref46_barred)) = ddiref46_barred v0_0 v0_1 v0_2 v0_3 v0_4 v0_5 v0_6 v0_7 v1_0 v1_1 v1_2 v1_3 v1_4 v1_5 v1_6 v1_7 := by
  rw [ddiref46_barred_eq]; kernel_rfl
theorem c_ddiref46_barred : cFn (TIof Try.prog) Try.f36 = some ⟨25, [(.t 4)], scOf a_ddiref46_barred⟩ := by kernel_rfl
noncomputable def ent_ddiref46_barred {R : Type} (xs : List AV) (K : AV → Option R) : Option R := chk (fitS shp_ddiref46_barred (entry xs) Mem.none) (oB (ddiref46_barred (gB ((entry xs) 0).cells 0) (gI ((entry xs) 0).cells 1) (gI ((entry xs) 0).cells 2) (gI ((entry xs) 0).cells 3) (gI ((entry xs) 0).cells 4) (gS ((entry xs) 0).cells 5) (gS ((entry xs) 0).cells 6) (gI ((entry xs) 0).cells 7) (gB ((entry xs) 1).cells 0) (gI ((entry xs) 1).cells 1) (gI ((entry xs) 1).cells 2) (gI ((entry xs) 1).cells 3) (gI ((entry xs) 1).cells 4) (gS ((entry xs) 1).cells 5) (gS ((entry xs) 1).cells 6) (gI ((entry xs) 1).cells 7)) fun r => K (enc_ddiref46_barred r))
theorem k_ddiref46_barred {R : Type} : EntOkB Try.prog 36 (ent_ddiref46_barred (R := R)) :=
  ent_of (F := fun xs => ddiref46_barred (gB ((entry xs) 0).cells 0) (gI ((entry xs) 0).cells 1) (gI ((entry xs) 0).cells 2) (gI ((entry xs) 0).cells 3) (gI ((entry xs) 0).cells 4) (gS ((entry xs) 0).cells 5) (gS ((entry xs) 0).cells 6) (gI ((entry xs) 0).cells 7) (gB ((entry xs) 1).cells 0) (gI ((entry xs) 1).cells 1) (gI ((entry xs) 1).cells 2) (gI ((entry xs) 1).cells 3) (gI ((entry xs) 1).cells 4) (gS ((entry xs) 1).cells 5) (gS ((entry xs) 1).cells 6) (gI ((entry xs) 1).cells 7)) (enc := enc_ddiref46_barred) tabOk follows Try.func36 (by kernel_rfl) c_ddiref46_barred (fun z r h => by
    obtain ⟨h1, h2⟩ := cond_some h
    cases h2
    exact (etaRV_eq h1).symm) ok_ddiref46_barred (er_of (by kernel_rfl)) shp_ddiref46_barred (fun xs => t_ddiref46_barred (gB ((entry xs) 0).cells 0) (gI ((entry xs) 0).cells 1) (gI ((entry xs) 0).cells 2) (gI ((entry xs) 0).cells 3) (gI ((entry xs) 0).cells 4) (gS ((entry xs) 0).cells 5) (gS ((entry xs) 0).cells 6) (gI ((entry xs) 0).cells 7) (gB ((entry xs) 1).cells 0) (gI ((entry xs) 1).cells 1) (gI ((entry xs) 1).cells 2) (gI ((entry xs) 1).cells 3) (gI ((entry xs) 1).cells 4) (gS ((entry xs) 1).cells 5) (gS ((entry xs) 1).cells 6) (gI ((entry xs) 1).cells 7)) (fun xs K r h => by
    unfold ent_ddiref46_barred at h
    exact ⟨(chk_some h).1, oB_some (chk_some h).2⟩)

/-! ddi/ddiref46.Check -/
def dec_ddiref46_Check (z : AV) : Option Int := cond (fitRV (.one (.i .i64)) z) (some (aI z)) none
def enc_ddiref46_Check (r : Int) : AV := .int .i64 r
def shp_ddiref46_Check_J41 : Shp := ⟨[(0, .one (.l (.sl 8))), (3, .one (.l (.i .i64)))], []⟩
noncomputable def ddiref46_Check_J41_i  (v0 : List AV) (v3 : Int) (kn : Bool → Option Int) : Option Int :=
  (bif (decide (v3 > (0 : Int))) then (oB (ixB v0 (IntKind.i64.wrap (v3 - (1 : Int)))) fun y1 => (bif fitC T_api_Block y1.cells then (oB (ixB v0 v3) fun y2 => (bif fitC T_api_Block y2.cells then (oB (ddiref03_Compare (gB y1.cells 0) (gI y1.cells 1) (gI y1.cells 2) (gI y1.cells 3) (gB y2.cells 0) (gI y2.cells 1) (gI y2.cells 2) (gI y2.cells 3)) fun r3 => (kn (decide (r3 > (0 : Int))))) else none)) else none)) else (kn false))
noncomputable def ddiref46_Check_J41 := hull (ddiref46_Check_J41_i)
theorem ddiref46_Check_J41_eq : ddiref46_Check_J41 = ddiref46_Check_J41_i := hull_eq _
noncomputable def a_ddiref46_Check_J41 : AC Int :=
  .seq (.draw [] [.op ⟨(some 27), (.mv (.t 3)), none⟩,
    .op ⟨(some 28), (.bin .gtr (.t 27) (.c (.int .i64 0))), none⟩,
    .op ⟨(some 29), (.mv (.t 28)), none⟩,
    .op ⟨(some 30), (.mv (.t 0)), (some (29, true))⟩,
    .op ⟨(some 31), (.mv (.t 3)), (some (29, true))⟩,
    .op ⟨(some 32), (.bin .sub (.t 31) (.c (.int .i64 1))), (some (29, true))⟩,
    .op ⟨(some 33), (.ia 8 (.t 30) (.t 32)), (some (29, true))⟩,
    .et 33 T_api_Block,
    .op ⟨(some 34), (.fa 0 (.t 33)), (some (29, true))⟩,
    .op ⟨(some 35), (.load true 4 (.t 34)), (some (29, true))⟩,
    .op ⟨(some 36), (.mv (.t 0)), (some (29, true))⟩,
    .op ⟨(some 37), (.mv (.t 3)), (some (29, true))⟩,
    .op ⟨(some 38), (.ia 8 (.t 36) (.t 37)), (some (29, true))⟩,
    .et 38 T_api_Block,
    .op ⟨(some 39), (.fa 0 (.t 38)), (some (29, true))⟩,
    .op ⟨(some 40), (.load true 4 (.t 39)), (some (29, true))⟩] [.call ⟨(some 41), (.call 35 [(.t 35), (.t 40)]), (some (29, true))⟩ 35 ent_ddiref03_Compare,
    .op ⟨(some 42), (.bin .gtr (.t 41) (.c (.int .i64 0))), (some (29, true))⟩,
    .op ⟨(some 43), (.pick (.t 29) (.t 42) (.c (.bool false))), none⟩]) (.view [.sel [0, 3, 43] []])
theorem ok_ddiref46_Check_J41 : AC.ok Try.prog (TIof Try.prog) 74 0 (kret [(.t 2)] dec_ddiref46_Check) a_ddiref46_Check_J41 := (And.intro (And.intro True.intro (And.intro (EntOkB.ok k_ddiref03_Compare) True.intro)) True.intro)
theorem t_ddiref46_Check_J41 (v0 : List AV) (v3 : Int) (K : Ex → Env → Mem → Option Int) : den 0 (kret [(.t 2)] dec_ddiref46_Check) a_ddiref46_Check_J41 (envOf [(0, (.sl 8 v0)), (3, (.int .i64 v3))]) (memOf []) K = ddiref46_Check_J41 v0 v3 (fun z_v43 => K .norm (envOf [(0, (.sl 8 v0)), (3, (.int .i64 v3)), (43, (.bool z_v43))]) (memOf [])) := by
  rw [ddiref46_Check_J41_eq]; kernel_rfl
noncomputable def s_ddiref46_Check_J41 : Env → Mem → (Ex → Env → Mem → Option Int) → Option Int := fun t m K => chk (fitS0 shp_ddiref46_Check_J41 t m) (cond (hdS shp_ddiref46_Check_J41 t m) (ddiref46_Check_J41 (gL [t 0] 0) (gI [t 3] 0) (fun z_v43 => K .norm (envOf [(0, (.sl 8 (gL [t 0] 0))), (3, (.int .i64 (gI [t 3] 0))), (43, (.bool z_v43))]) (memOf []))) none)
theorem o_ddiref46_Check_J41 : SubOk Try.prog (TIof Try.prog) 74 0 (kret [(.t 2)] dec_ddiref46_Check) (scOf a_ddiref46_Check_J41) s_ddiref46_Check_J41 :=
  sub_of tabOk follows ok_ddiref46_Check_J41 (er_of (by kernel_rfl)) shp_ddiref46_Check_J41 (fun t m K => congrArg (fun z => chk (fitS0 shp_ddiref46_Check_J41 t m) (cond (hdS shp_ddiref46_Check_J41 t m) z none)) (t_ddiref46_Check_J41 (gL [t 0] 0) (gI [t 3] 0) K).symm)
def shp_ddiref46_Check_J49 : Shp := ⟨[(0, .one (.l (.sl 8))), (3, .one (.l (.i .i64)))], []⟩
noncomputable def ddiref46_Check_J49_i  (v0 : List AV) (v3 : Int) (kn : Bool → Option Int) : Option Int :=
  (bif (decide (v3 > (0 : Int))) then (oB (ixB v0 (IntKind.i64.wrap (v3 - (1 : Int)))) fun y1 => (bif fitC T_api_Block y1.cells then (oB (ixB v0 v3) fun y2 => (bif fitC T_api_Block y2.cells then (kn (((gB y1.cells 0) == (gB y2.cells 0)) && (((gI y1.cells 1) == (gI y2.cells 1)) && (((gI y1.cells 2) == (gI y2.cells 2)) && (((gI y1.cells 3) == (gI y2.cells 3)) && true))))) else none)) else none)) else (kn false))
noncomputable def ddiref46_Check_J49 := hull (ddiref46_Check_J49_i)
theorem ddiref46_Check_J49_eq : ddiref46_Check_J49 = ddiref46_Check_J49_i := hull_eq _
noncomputable def a_ddiref46_Check_J49 : AC Int :=
  .seq (.draw [] [.op ⟨(some 44), (.mv (.t 3)), none⟩,
    .op ⟨(some 45), (.bin .gtr (.t 44) (.c (.int .i64 0))), none⟩,
    .op ⟨(some 46), (.mv (.t 45)), none⟩,
    .op ⟨(some 47), (.mv (.t 0)), (some (46, true))⟩,
    .op ⟨(some 48), (.mv (.t 3)), (some (46, true))⟩,
    .op ⟨(some 49), (.bin .sub (.t 48) (.c (.int .i64 1))), (some (46, true))⟩,
    .op ⟨(some 50), (.ia 8 (.t 47) (.t 49)), (some (46, true))⟩,
    .et 50 T_api_Block,
    .op ⟨(some 51), (.fa 0 (.t 50)), (some (46, true))⟩,
    .op ⟨(some 52), (.load true 4 (.t 51)), (some (46, true))⟩,
    .op ⟨(some 53), (.mv (.t 0)), (some (46, true))⟩,
    .op ⟨(some 54), (.mv (.t 3)), (some (46, true))⟩,
    .op ⟨(some 55), (.ia 8 (.t 53) (.t 54)), (some (46, true))⟩,
    .et 55 T_api_Block,
    .op ⟨(some 56), (.fa 0 (.t 55)), (some (46, true))⟩,
    .op ⟨(some 57), (.load true 4 (.t 56)), (some (46, true))⟩] [.op ⟨(some 58), (.eq false true [.b, (.i .u64), (.i .u64), (.i .i64)] (.t 52) (.t 57)), (some (46, true))⟩,
    .op ⟨(some 59), (.pick (.t 46) (.t 58) (.c (.bool false))), none⟩]) (.view [.sel [0, 3, 59] []])
theorem ok_ddiref46_Check_J49 : AC.ok Try.prog (TIof Try.prog) 74 0 (kret [(.t 2)] dec_ddiref46_Check) a_ddiref46_Check_J49 := (And.intro (And.intro True.intro True.intro) True.intro)
theorem t_ddiref46_Check_J49 (v0 : List AV) (v3 : Int) (K : Ex → Env → Mem → Option Int) : den 0 (kret [(.t 2)] dec_ddiref46_Check) a_ddiref46_Check_J49 (envOf [(0, (.sl 8 v0)), (3, (.int .i64 v3))]) (memOf []) K = ddiref46_Check_J49 v0 v3 (fun z_v59 => K .norm (envOf [(0, (.sl 8 v0)), (3, (.int .i64 v3)), (59, (.bool z_v59))]) (memOf [])) := by
  rw [ddiref46_Check_J49_eq]; kernel_rfl
noncomputable def s_ddiref46_Check_J49 : Env → Mem → (Ex → Env → Mem → Option Int) → Option Int := fun t m K => chk (fitS0 shp_ddiref46_Check_J49 t m) (cond (hdS shp_ddiref46_Check_J49 t m) (ddiref46_Check_J49 (gL [t 0] 0) (gI [t 3] 0) (fun z_v59 => K .norm (envOf [(0, (.sl 8 (gL [t 0] 0))), (3, (.int .i64 (gI [t 3] 0))), (59, (.bool z_v59))]) (memOf []))) none)
theorem o_ddiref46_Check_J49 : SubOk Try.prog (TIof Try.prog) 74 0 (kret [(.t 2)] dec_ddiref46_Check) (scOf a_ddiref46_Check_J49) s_ddiref46_Check_J49 :=
  sub_of tabOk follows ok_ddiref46_Check_J49 (er_of (by kernel_rfl)) shp_ddiref46_Check_J49 (fun t m K => congrArg (fun z => chk (fitS0 shp_ddiref46_Check_J49 t m) (cond (hdS shp_ddiref46_Check_J49 t m) z none)) (t_ddiref46_Check_J49 (gL [t 0] 0) (gI [t 3] 0) K).symm)
def shp_ddiref46_Check_L58 : Shp := ⟨[(0, .one (.l (.sl 8))), (3, .one (.l (.i .i64))), (4, .one (.l (.i .i64)))], []⟩
noncomputable def ddiref46_Check_L58_b  (v0 : List AV) (v3 : Int) (v4 : Int) (next : Int → Option Int) (kx2 : Unit → Option Int) : Option Int :=
  (bif (decide (v4 < v3)) then (oB (ixB v0 v3) fun y1 => (bif fitC T_api_Block y1.cells then (oB (ixB v0 v4) fun y2 => (bif fitC T_api_Block y2.cells then (oB (ddiref46_barred (gB y1.cells 0) (gI y1.cells 1) (gI y1.cells 2) (gI y1.cells 3) (gI y1.cells 4) (gS y1.cells 5) (gS y1.cells 6) (gI y1.cells 7) (gB y2.cells 0) (gI y2.cells 1) (gI y2.cells 2) (gI y2.cells 3) (gI y2.cells 4) (gS y2.cells 5) (gS y2.cells 6) (gI y2.cells 7)) fun r3 => (bif r3 then (some (24 : Int)) else (next (IntKind.i64.wrap (v4 + (1 : Int)))))) else none)) else none)) else (kx2 ()))
noncomputable def ddiref46_Check_L58_i  (v0 : List AV) (v3 : Int) (kx2 : Unit → Option Int) : Nat → Int → Option Int
  | 0 => (fun _ => none)
  | n + 1 => (fun v4 => ddiref46_Check_L58_b v0 v3 v4 (ddiref46_Check_L58_i v0 v3 kx2 n) kx2)
noncomputable def ddiref46_Check_L58 := hull (ddiref46_Check_L58_i)
theorem ddiref46_Check_L58_eq : ddiref46_Check_L58 = ddiref46_Check_L58_i := hull_eq _
noncomputable def a_ddiref46_Check_L58 : AC Int :=
  .seq (.seq (.reg [.op ⟨(some 60), (.mv (.t 4)), none⟩,
    .op ⟨(some 61), (.mv (.t 3)), none⟩,
    .op ⟨(some 62), (.bin .lss (.t 60) (.t 61)), none⟩]) (.cond (.t 62) (.skip) (.seq (.view [.sel [0, 3] []]) (.exit 2)))) (.seq (.block 3 (.seq (.draw [] [.op ⟨(some 65), (.mv (.t 0)), none⟩,
    .op ⟨(some 66), (.mv (.t 3)), none⟩,
    .op ⟨(some 67), (.ia 8 (.t 65) (.t 66)), none⟩,
    .et 67 T_api_Block,
    .op ⟨(some 68), (.load true 8 (.t 67)), none⟩,
    .op ⟨(some 69), (.mv (.t 0)), none⟩,
    .op ⟨(some 70), (.mv (.t 4)), none⟩,
    .op ⟨(some 71), (.ia 8 (.t 69) (.t 70)), none⟩,
    .et 71 T_api_Block,
    .op ⟨(some 72), (.load true 8 (.t 71)), none⟩] [.call ⟨(some 73), (.call 36 [(.t 68), (.t 72)]), none⟩ 36 ent_ddiref46_barred]) (.cond (.t 73) (.seq (.reg [.op ⟨(some 2), (.mv (.c (.int .i64 24))), none⟩]) (.ret)) (.skip)))) (.seq (.reg [.op ⟨(some 63), (.mv (.t 4)), none⟩,
    .op ⟨(some 64), (.bin .add (.t 63) (.c (.int .i64 1))), none⟩,
    .op ⟨(some 4), (.mv (.t 64)), none⟩]) (.view [.sel [0, 3, 4] []])))
theorem ok_ddiref46_Check_L58 : AC.ok Try.prog (TIof Try.prog) 74 0 (kret [(.t 2)] dec_ddiref46_Check) a_ddiref46_Check_L58 := (And.intro (And.intro True.intro (And.intro True.intro (And.intro True.intro True.intro))) (And.intro (And.intro (And.intro True.intro (And.intro (EntOkB.ok k_ddiref46_barred) True.intro)) (And.intro (And.intro True.intro True.intro) True.intro)) (And.intro True.intro True.intro)))
theorem t_ddiref46_Check_L58_b (v0 : List AV) (v3 : Int) (v4 : Int) (K : Ex → Env → Mem → Option Int) : den 0 (kret [(.t 2)] dec_ddiref46_Check) a_ddiref46_Check_L58 (envOf [(0, (.sl 8 v0)), (3, (.int .i64 v3)), (4, (.int .i64 v4))]) (memOf []) K = ddiref46_Check_L58_b v0 v3 v4 (fun z_v4 => K .norm (envOf [(0, (.sl 8 v0)), (3, (.int .i64 v3)), (4, (.int .i64 z_v4))]) (memOf [])) (fun _ => K (.exit 2) (envOf [(0, (.sl 8 v0)), (3, (.int .i64 v3))]) (memOf [])) := by kernel_rfl
theorem t_ddiref46_Check_L58 (v0 : List AV) (v3 : Int) (K : Ex → Env → Mem → Option Int) : ∀ (n : Nat) (v4 : Int), iterD (den 0 (kret [(.t 2)] dec_ddiref46_Check) a_ddiref46_Check_L58) n (envOf [(0, (.sl 8 v0)), (3, (.int .i64 v3)), (4, (.int .i64 v4))]) (memOf []) K = ddiref46_Check_L58 v0 v3 (fun _ => K (.exit 2) (envOf [(0, (.sl 8 v0)), (3, (.int .i64 v3))]) (memOf [])) n v4 := by
  rw [ddiref46_Check_L58_eq]
  intro n
  induction n with
  | zero => intros; rfl
  | succ n ih =>
    intro v4
    exact (t_ddiref46_Check_L58_b v0 v3 v4 (itK (den 0 (kret [(.t 2)] dec_ddiref46_Check) a_ddiref46_Check_L58) n K)).trans (congrArg (fun q => ddiref46_Check_L58_b v0 v3 v4 q (fun _ => K (.exit 2) (envOf [(0, (.sl 8 v0)), (3, (.int .i64 v3))]) (memOf []))) (funext fun v4 => ih v4))
noncomputable def s_ddiref46_Check_L58 : Env → Mem → (Ex → Env → Mem → Option Int) → Option Int := fun t m K => chk (fitS0 shp_ddiref46_Check_L58 t m) (cond (hdS shp_ddiref46_Check_L58 t m) (ddiref46_Check_L58 (gL [t 0] 0) (gI [t 3] 0) (fun _ => K (.exit 2) (envOf [(0, (.sl 8 (gL [t 0] 0))), (3, (.int .i64 (gI [t 3] 0)))]) (memOf [])) FU (gI [t 4] 0)) none)
theorem o_ddiref46_Check_L58 : SubOk Try.prog (TIof Try.prog) 74 0 (kret [(.t 2)] dec_ddiref46_Check) (.loop (scOf a_ddiref46_Check_L58)) s_ddiref46_Check_L58 :=
  loop_of tabOk follows ok_ddiref46_Check_L58 (er_of (by kernel_rfl)) shp_ddiref46_Check_L58 (fun t m K => congrArg (fun z => chk (fitS0 shp_ddiref46_Check_L58 t m) (cond (hdS shp_ddiref46_Check_L58 t m) z none)) (t_ddiref46_Check_L58 (gL [t 0] 0) (gI [t 3] 0) K FU (gI [t 4] 0)).symm)
def shp_ddiref46_Check_L14 : Shp := ⟨[(0, .one (.l (.sl 8))), (3, .one (.l (.i .i64)))], []⟩
noncomputable def ddiref46_Check_L14_b  (v0 : List AV) (v3 : Int) (next : Int → Option Int) (kx0 : Unit → Option Int) : Option Int :=
  (bif (decide (v3 < (v0.length : Int))) then (oB (ixB v0 v3) fun y1 => (bif fitC T_api_Block y1.cells then (oB (ddiref03_Valid (gB y1.cells 0) (gI y1.cells 1) (gI y1.cells 2) (gI y1.cells 3)) fun r2 => (bif (!r2) then (some (3 : Int)) else (oB (ixB v0 v3) fun y3 => (bif fitC T_api_Block y3.cells then (oB (ddiref46_may (gB y3.cells 0) (gI y3.cells 1) (gI y3.cells 2) (gI y3.cells 3) (gI y3.cells 4) (gS y3.cells 5) (gS y3.cells 6) (gI y3.cells 7)) fun r4 => (bif (!r4) then (some (1 : Int)) else (ddiref46_Check_J41 v0 v3 (fun v43 => (bif v43 then (some (7 : Int)) else (ddiref46_Check_J49 v0 v3 (fun v59 => (bif v59 then (some (12 : Int)) else (ddiref46_Check_L58 v0 v3 (fun (_ : Unit) => (next (IntKind.i64.wrap (v3 + (1 : Int))))) FU (0 : Int)))))))))) else none)))) else none)) else (kx0 ()))
noncomputable def ddiref46_Check_L14_i  (v0 : List AV) (kx0 : Unit → Option Int) : Nat → Int → Option Int
  | 0 => (fun _ => none)
  | n + 1 => (fun v3 => ddiref46_Check_L14_b v0 v3 (ddiref46_Check_L14_i v0 kx0 n) kx0)
noncomputable def ddiref46_Check_L14 := hull (ddiref46_Check_L14_i)
theorem ddiref46_Check_L14_eq : ddiref46_Check_L14 = ddiref46_Check_L14_i := hull_eq _
noncomputable def a_ddiref46_Check_L14 : AC Int :=
  .seq (.seq (.reg [.op ⟨(some 8), (.mv (.t 3)), none⟩,
    .op ⟨(some 9), (.mv (.t 0)), none⟩,
    .op ⟨(some 10), (.len false (.t 9)), none⟩,
    .op ⟨(some 11), (.bin .lss (.t 8) (.t 10)), none⟩]) (.cond (.t 11) (.skip) (.seq (.view [.sel [] []]) (.exit 0)))) (.seq (.block 1 (.seq (.seq (.reg [.op ⟨(some 14), (.mv (.t 0)), none⟩,
    .op ⟨(some 15), (.mv (.t 3)), none⟩,
    .op ⟨(some 16), (.ia 8 (.t 14) (.t 15)), none⟩,
    .st (.etac 16 T_api_Block),
    .op ⟨(some 17), (.fa 0 (.t 16)), none⟩,
    .op ⟨(some 18), (.load true 4 (.t 17)), none⟩,
    .call ⟨(some 19), (.call 33 [(.t 18)]), none⟩ 33 ent_ddiref03_Valid,
    .op ⟨(some 20), (.un .not (.t 19)), none⟩]) (.cond (.t 20) (.seq (.reg [.op ⟨(some 2), (.mv (.c (.int .i64 3))), none⟩]) (.ret)) (.skip))) (.seq (.seq (.reg [.op ⟨(some 21), (.mv (.t 0)), none⟩,
    .op ⟨(some 22), (.mv (.t 3)), none⟩,
    .op ⟨(some 23), (.ia 8 (.t 21) (.t 22)), none⟩,
    .st (.etac 23 T_api_Block),
    .op ⟨(some 24), (.load true 8 (.t 23)), none⟩,
    .call ⟨(some 25), (.call 34 [(.t 24)]), none⟩ 34 ent_ddiref46_may,
    .op ⟨(some 26), (.un .not (.t 25)), none⟩]) (.cond (.t 26) (.seq (.reg [.op ⟨(some 2), (.mv (.c (.int .i64 1))), none⟩]) (.ret)) (.skip))) (.seq (.seq (.seq (.view [.sel [0, 3] []]) (.sub (scOf a_ddiref46_Check_J41) s_ddiref46_Check_J41)) (.cond (.t 43) (.seq (.reg [.op ⟨(some 2), (.mv (.c (.int .i64 7))), none⟩]) (.ret)) (.skip))) (.seq (.seq (.seq (.view [.sel [0, 3] []]) (.sub (scOf a_ddiref46_Check_J49) s_ddiref46_Check_J49)) (.cond (.t 59) (.seq (.reg [.op ⟨(some 2), (.mv (.c (.int .i64 12))), none⟩]) (.ret)) (.skip))) (.seq (.reg [.op ⟨(some 4), (.mv (.c (.int .i64 0))), none⟩]) (.block 2 (.seq (.view [.sel [0, 3, 4] []]) (.sub (.loop (scOf a_ddiref46_Check_L58)) s_ddiref46_Check_L58))))))))) (.seq (.reg [.op ⟨(some 12), (.mv (.t 3)), none⟩,
    .op ⟨(some 13), (.bin .add (.t 12) (.c (.int .i64 1))), none⟩,
    .op ⟨(some 3), (.mv (.t 13)), none⟩]) (.view [.sel [0, 3] []])))
theorem ok_ddiref46_Check_L14 : AC.ok Try.prog (TIof Try.prog) 74 0 (kret [(.t 2)] dec_ddiref46_Check) a_ddiref46_Check_L14 := (And.intro (And.intro True.intro (And.intro True.intro (And.intro True.intro True.intro))) (And.intro (And.intro (And.intro (And.intro (EntOkB.ok k_ddiref03_Valid) True.intro) (And.intro (And.intro True.intro True.intro) True.intro)) (And.intro (And.intro (And.intro (EntOkB.ok k_ddiref46_may) True.intro) (And.intro (And.intro True.intro True.intro) True.intro)) (And.intro (And.intro (And.intro True.intro o_ddiref46_Check_J41) (And.intro (And.intro True.intro True.intro) True.intro)) (And.intro (And.intro (And.intro True.intro o_ddiref46_Check_J49) (And.intro (And.intro True.intro True.intro) True.intro)) (And.intro True.intro (And.intro True.intro o_ddiref46_Check_L58)))))) (And.intro True.intro True.intro)))
theorem t_ddiref46_Check_L14_b (v0 : List AV) (v3 : Int) (K : Ex → Env → Mem → Option Int) : den 0 (kret [(.t 2)] dec_ddiref46_Check) a_ddiref46_Check_L14 (envOf [(0, (.sl 8 v0)), (3, (.int .i64 v3))]) (memOf []) K = ddiref46_Check_L14_b v0 v3 (fun z_v3 => K .norm (envOf [(0, (.sl 8 v0)), (3, (.int .i64 z_v3))]) (memOf [])) (fun _ => K (.exit 0) (envOf []) (memOf [])) := by kernel_rfl
theorem t_ddiref46_Check_L14 (v0 : List AV) (K : Ex → Env → Mem → Option Int) : ∀ (n : Nat) (v3 : Int), iterD (den 0 (kret [(.t 2)] dec_ddiref46_Check) a_ddiref46_Check_L14) n (envOf [(0, (.sl 8 v0)), (3, (.int .i64 v3))]) (memOf []) K = ddiref46_Check_L14 v0 (fun _ => K (.exit 0) (envOf []) (memOf [])) n v3 := by
  rw [ddiref46_Check_L14_eq]
  intro n
  induction n with
  | zero => intros; rfl
  | succ n ih =>
    intro v3
    exact (t_ddiref46_Check_L14_b v0 v3 (itK (den 0 (kret [(.t 2)] dec_ddiref46_Check) a_ddiref46_Check_L14) n K)).trans (congrArg (fun q => ddiref46_Check_L14_b v0 v3 q (fun _ => K (.exit 0) (envOf []) (memOf []))) (funext fun v3 => ih v3))
noncomputable def s_ddiref46_Check_L14 : Env → Mem → (Ex → Env → Mem → Option Int) → Option Int := fun t m K => chk (fitS0 shp_ddiref46_Check_L14 t m) (cond (hdS shp_ddiref46_Check_L14 t m) (ddiref46_Check_L14 (gL [t 0] 0) (fun _ => K (.exit 0) (envOf []) (memOf [])) FU (gI [t 3] 0)) none)
theorem o_ddiref46_Check_L14 : SubOk Try.prog (TIof Try.prog) 74 0 (kret [(.t 2)] dec_ddiref46_Check) (.loop (scOf a_ddiref46_Check_L14)) s_ddiref46_Check_L14 :=
  loop_of tabOk follows ok_ddiref46_Check_L14 (er_of (by kernel_rfl)) shp_ddiref46_Check_L14 (fun t m K => congrArg (fun z => chk (fitS0 shp_ddiref46_Check_L14 t m) (cond (hdS shp_ddiref46_Check_L14 t m) z none)) (t_ddiref46_Check_L14 (gL [t 0] 0) K FU (gI [t 3] 0)).symm)
def shp_ddiref46_Check : Shp := ⟨[(0, .one (.l (.sl 8)))], []⟩
noncomputable def ddiref46_Check_i (v0 : List AV) : Option Int :=
  (bif (decide ((v0.length : Int) > (512 : Int))) then (some (9 : Int)) else (ddiref46_Check_L14 v0 (fun (_ : Unit) => (some (0 : Int))) FU (0 : Int)))
noncomputable def ddiref46_Check := hull ddiref46_Check_i
theorem ddiref46_Check_eq : ddiref46_Check = ddiref46_Check_i := hull_eq _
noncomputable def a_ddiref46_Check : AC Int :=
  .seq (.reg [.op ⟨(some 2), (.mv (.c (.int .i64 0))), none⟩]) (.seq (.seq (.reg [.op ⟨(some 5), (.mv (.t 0)), none⟩,
    .op ⟨(some 6), (.len false (.t 5)), none⟩,
    .op ⟨(some 7), (.bin .gtr (.t 6) (.c (.int .i64 512))), none⟩]) (.cond (.t 7) (.seq (.reg [.op ⟨(some 2), (.mv (.c (.int .i64 9))), none⟩]) (.ret)) (.skip))) (.seq (.seq (.reg [.op ⟨(some 3), (.mv (.c (.int .i64 0))), none⟩]) (.block 0 (.seq (.view [.sel [0, 3] []]) (.sub (.loop (scOf a_ddiref46_Check_L14)) s_ddiref46_Check_L14)))) (.seq (.reg [.op ⟨(some 2), (.mv (.c (.int .i64 0))), none⟩]) (.ret))))
theorem ok_ddiref46_Check : AC.ok Try.prog (TIof Try.prog) 74 0 (kret [(.t 2)] dec_ddiref46_Check) a_ddiref46_Check := (And.intro True.intro (And.intro (And.intro True.intro (And.intro (And.intro True.intro True.intro) True.intro)) (And.intro (And.intro True.intro (And.intro True.intro o_ddiref46_Check_L14)) (And.intro True.intro True.intro))))
theorem t_ddiref46_Check (v0 : List AV) : den 0 (kret [(.t 2)] dec_ddiref46_Check) a_ddiref46_Check (envOf [(0, (.sl 8 v0))]) (memOf []) (kend (kret [(.t 2)] dec_ddiref46_Check)) = ddiref46_Check v0 := by
  rw [ddiref46_Check_eq]; kernel_rfl
theorem c_ddiref46_Check : cFn (TIof Try.prog) Try.f12 = some ⟨74, [(.t 2)], scOf a_ddiref46_Check⟩ := by kernel_rfl
noncomputable def ent_ddiref46_Check {R : Type} (xs : List AV) (K : AV → Option R) : Option R := chk (fitS shp_ddiref46_Check (entry xs) Mem.none) (oB (ddiref46_Check (gL [(entry xs) 0] 0)) fun r => K (enc_ddiref46_Check r))
theorem k_ddiref46_Check {R : Type} : EntOkB Try.prog 12 (ent_ddiref46_Check (R := R)) :=
  ent_of (F := fun xs => ddiref46_Check (gL [(entry xs) 0] 0)) (enc := enc_ddiref46_Check) tabOk follows Try.func12 (by kernel_rfl) c_ddiref46_Check (fun z r h => by
    obtain ⟨h1, h2⟩ := cond_some h
    cases h2
    exact (etaRV_eq h1).symm) ok_ddiref46_Check (er_of (by kernel_rfl)) shp_ddiref46_Check (fun xs => t_ddiref46_Check (gL [(entry xs) 0] 0)) (fun xs K r h => by
    unfold ent_ddiref46_Check at h
    exact ⟨(chk_some h).1, oB_some (chk_some h).2⟩)

/-! ddi/ddiref46.Find -/
def dec_ddiref46_Find (z : AV) : Option (AV × Bool) := cond (fitTup [(.st [.b, (.i .u64), (.i .u64), (.i .i64), (.i .i64), .s, .s, (.i .i64)]), (.one .b)] z) (some ((gC (tpL z) 0), aB (gC (tpL z) 1))) none
def enc_ddiref46_Find (r : AV × Bool) : AV := .tup [etaRV (.st [.b, (.i .u64), (.i .u64), (.i .i64), (.i .i64), .s, .s, (.i .i64)]) r.1, .bool r.2]
def shp_ddiref46_Find_L6 : Shp := ⟨[(0, .one (.l (.sl 8))), (3, .one (.ptr 0 0)), (4, .one (.ptr 1 0)), (6, .one (.l (.i .i64)))], [.box true [(.l .b), (.l (.i .u64)), (.l (.i .u64)), (.l (.i .i64))], .box true [(.l .b), (.l (.i .u64)), (.l (.i .u64)), (.l (.i .i64)), (.l (.i .i64)), (.l .s), (.l .s), (.l (.i .i64))]]⟩
noncomputable def ddiref46_Find_L6_b  (v0 : List AV) (v6 : Int) (b0_0 : Bool) (b0_1 : Int) (b0_2 : Int) (b0_3 : Int) (b1_0 : Bool) (b1_1 : Int) (b1_2 : Int) (b1_3 : Int) (b1_4 : Int) (b1_5 : List UInt8) (b1_6 : List UInt8) (b1_7 : Int) (next : Int → Option (AV × Bool)) (kx0 : Unit → Option (AV × Bool)) : Option (AV × Bool) :=
  (bif (decide (v6 < (v0.length : Int))) then (oB (ixB v0 v6) fun y1 => (bif fitC T_api_Block y1.cells then (bif (((gB y1.cells 0) == b0_0) && (((gI y1.cells 1) == b0_1) && (((gI y1.cells 2) == b0_2) && (((gI y1.cells 3) == b0_3) && true)))) then (oB (ixB v0 v6) fun y2 => (bif fitC T_api_Block y2.cells then (some ((.agg [(.bool (gB y2.cells 0)), (.int .u64 (gI y2.cells 1)), (.int .u64 (gI y2.cells 2)), (.int .i64 (gI y2.cells 3)), (.int .i64 (gI y2.cells 4)), (.str (gS y2.cells 5)), (.str (gS y2.cells 6)), (.int .i64 (gI y2.cells 7))]), true)) else none)) else (next (IntKind.i64.wrap (v6 + (1 : Int))))) else none)) else (kx0 ()))
noncomputable def ddiref46_Find_L6_i  (v0 : List AV) (b0_0 : Bool) (b0_1 : Int) (b0_2 : Int) (b0_3 : Int) (b1_0 : Bool) (b1_1 : Int) (b1_2 : Int) (b1_3 : Int) (b1_4 : Int) (b1_5 : List UInt8) (b1_6 : List UInt8) (b1_7 : Int) (kx0 : Unit → Option (AV × Bool)) : Nat → Int → Option (AV × Bool)
  | 0 => (fun _ => none)
  | n + 1 => (fun v6 => ddiref46_Find_L6_b v0 v6 b0_0 b0_1 b0_2 b0_3 b1_0 b1_1 b1_2 b1_3 b1_4 b1_5 b1_6 b1_7 (ddiref46_Find_L6_i v0 b0_0 b0_1 b0_2 b0_3 b1_0 b1_1 b1_2 b1_3 b1_4 b1_5 b1_6 b1_7 kx0 n) kx0)
noncomputable def ddiref46_Find_L6 := hull (ddiref46_Find_L6_i)
theorem ddiref46_Find_L6_eq : ddiref46_Find_L6 = ddiref46_Find_L6_i := hull_eq _
noncomputable def a_ddiref46_Find_L6 : AC (AV × Bool) :=
  .seq (.seq (.reg [.op ⟨(some 7), (.mv (.t 6)), none⟩,
    .op ⟨(some 8), (.mv (.t 0)), none⟩,
    .op ⟨(some 9), (.len false (.t 8)), none⟩,
    .op ⟨(some 10), (.bin .lss (.t 7) (.t 9)), none⟩]) (.cond (.t 10) (.skip) (.seq (.view [.sel [4] [1]]) (.exit 0)))) (.seq (.block 1 (.seq (.draw [] [.op ⟨(some 13), (.mv (.t 0)), none⟩,
    .op ⟨(some 14), (.mv (.t 6)), none⟩,
    .op ⟨(some 15), (.ia 8 (.t 13) (.t 14)), none⟩,
    .et 15 T_api_Block,
    .op ⟨(some 16), (.fa 0 (.t 15)), none⟩,
    .op ⟨(some 17), (.load true 4 (.t 16)), none⟩,
    .op ⟨(some 18), (.load true 4 (.t 3)), none⟩] [.op ⟨(some 19), (.eq false true [.b, (.i .u64), (.i .u64), (.i .i64)] (.t 17) (.t 18)), none⟩]) (.cond (.t 19) (.seq (.reg [.op ⟨(some 20), (.mv (.t 0)), none⟩,
    .op ⟨(some 21), (.mv (.t 6)), none⟩,
    .op ⟨(some 22), (.ia 8 (.t 20) (.t 21)), none⟩,
    .st (.etac 22 T_api_Block),
    .op ⟨(some 23), (.load true 8 (.t 22)), none⟩,
    .op ⟨none, (.store 8 (.t 4) (.t 23)), none⟩,
    .op ⟨(some 5), (.mv (.c (.bool true))), none⟩]) (.ret)) (.skip)))) (.seq (.reg [.op ⟨(some 11), (.mv (.t 6)), none⟩,
    .op ⟨(some 12), (.bin .add (.t 11) (.c (.int .i64 1))), none⟩,
    .op ⟨(some 6), (.mv (.t 12)), none⟩]) (.view [.sel [0, 3, 4, 6] [0, 1]])))
theorem ok_ddiref46_Find_L6 : AC.ok Try.prog (TIof Try.prog) 25 0 (kret [(.cell 4 true 8), (.t 5)] dec_ddiref46_Find) a_ddiref46_Find_L6 := (And.intro (And.intro True.intro (And.intro True.intro (And.intro True.intro True.intro))) (And.intro (And.intro (And.intro True.intro True.intro) (And.intro (And.intro True.intro True.intro) True.intro)) (And.intro True.intro True.intro)))
theorem t_ddiref46_Find_L6_b (v0 : List AV) (v6 : Int) (b0_0 : Bool) (b0_1 : Int) (b0_2 : Int) (b0_3 : Int) (b1_0 : Bool) (b1_1 : Int) (b1_2 : Int) (b1_3 : Int) (b1_4 : Int) (b1_5 : List UInt8) (b1_6 : List UInt8) (b1_7 : Int) (K : Ex → Env → Mem → Option (AV × Bool)) : den 0 (kret [(.cell 4 true 8), (.t 5)] dec_ddiref46_Find) a_ddiref46_Find_L6 (envOf [(0, (.sl 8 v0)), (3, (.ptr 0 0)), (4, (.ptr 1 0)), (6, (.int .i64 v6))]) (memOf [(some (.box true [(.bool b0_0), (.int .u64 b0_1), (.int .u64 b0_2), (.int .i64 b0_3)])), (some (.box true [(.bool b1_0), (.int .u64 b1_1), (.int .u64 b1_2), (.int .i64 b1_3), (.int .i64 b1_4), (.str b1_5), (.str b1_6), (.int .i64 b1_7)]))]) K = ddiref46_Find_L6_b v0 v6 b0_0 b0_1 b0_2 b0_3 b1_0 b1_1 b1_2 b1_3 b1_4 b1_5 b1_6 b1_7 (fun z_v6 => K .norm (envOf [(0, (.sl 8 v0)), (3, (.ptr 0 0)), (4, (.ptr 1 0)), (6, (.int .i64 z_v6))]) (memOf [(some (.box true [(.bool b0_0), (.int .u64 b0_1), (.int .u64 b0_2), (.int .i64 b0_3)])), (some (.box true [(.bool b1_0), (.int .u64 b1_1), (.int .u64 b1_2), (.int .i64 b1_3), (.int .i64 b1_4), (.str b1_5), (.str b1_6), (.int .i64 b1_7)]))])) (fun _ => K (.exit 0) (envOf [(4, (.ptr 0 0))]) (memOf [(some (.box true [(.bool b1_0), (.int .u64 b1_1), (.int .u64 b1_2), (.int .i64 b1_3), (.int .i64 b1_4), (.str b1_5), (.str b1_6), (.int .i64 b1_7)]))])) := by kernel_rfl
theorem t_ddiref46_Find_L6 (v0 : List AV) (b0_0 : Bool) (b0_1 : Int) (b0_2 : Int) (b0_3 : Int) (b1_0 : Bool) (b1_1 : Int) (b1_2 : Int) (b1_3 : Int) (b1_4 : Int) (b1_5 : List UInt8) (b1_6 : List UInt8) (b1_7 : Int) (K : Ex → Env → Mem → Option (AV × Bool)) : ∀ (n : Nat) (v6 : Int), iterD (den 0 (kret [(.cell 4 true 8), (.t 5)] dec_ddiref46_Find) a_ddiref46_Find_L6) n (envOf [(0, (.sl 8 v0)), (3, (.ptr 0 0)), (4, (.ptr 1 0)), (6, (.int .i64 v6))]) (memOf [(some (.box true [(.bool b0_0), (.int .u64 b0_1), (.int .u64 b0_2), (.int .i64 b0_3)])), (some (.box true [(.bool b1_0), (.int .u64 b1_1), (.int .u64 b1_2), (.int .i64 b1_3), (.int .i64 b1_4), (.str b1_5), (.str b1_6), (.int .i64 b1_7)]))]) K = ddiref46_Find_L6 v0 b0_0 b0_1 b0_2 b0_3 b1_0 b1_1 b1_2 b1_3 b1_4 b1_5 b1_6 b1_7 (fun _ => K (.exit 0) (envOf [(4, (.ptr 0 0))]) (memOf [(some (.box true [(.bool b1_0), (.int .u64 b1_1), (.int .u64 b1_2), (.int .i64 b1_3), (.int .i64 b1_4), (.str b1_5), (.str b1_6), (.int .i64 b1_7)]))])) n v6 := by
  rw [ddiref46_Find_L6_eq]
  intro n
  induction n with
  | zero => intros; rfl
  | succ n ih =>
    intro v6
    exact (t_ddiref46_Find_L6_b v0 v6 b0_0 b0_1 b0_2 b0_3 b1_0 b1_1 b1_2 b1_3 b1_4 b1_5 b1_6 b1_7 (itK (den 0 (kret [(.cell 4 true 8), (.t 5)] dec_ddiref46_Find) a_ddiref46_Find_L6) n K)).trans (congrArg (fun q => ddiref46_Find_L6_b v0 v6 b0_0 b0_1 b0_2 b0_3 b1_0 b1_1 b1_2 b1_3 b1_4 b1_5 b1_6 b1_7 q (fun _ => K (.exit 0) (envOf [(4, (.ptr 0 0))]) (memOf [(some (.box true [(.bool b1_0), (.int .u64 b1_1), (.int .u64 b1_2), (.int .i64 b1_3), (.int .i64 b1_4), (.str b1_5), (.str b1_6), (.int .i64 b1_7)]))]))) (funext fun v6 => ih v6))
noncomputable def s_ddiref46_Find_L6 : Env → Mem → (Ex → Env → Mem → Option (AV × Bool)) → Option (AV × Bool) := fun t m K => chk (fitS0 shp_ddiref46_Find_L6 t m) (cond (hdS shp_ddiref46_Find_L6 t m) (ddiref46_Find_L6 (gL [t 0] 0) (gB (bxC (m.s 0)) 0) (gI (bxC (m.s 0)) 1) (gI (bxC (m.s 0)) 2) (gI (bxC (m.s 0)) 3) (gB (bxC (m.s 1)) 0) (gI (bxC (m.s 1)) 1) (gI (bxC (m.s 1)) 2) (gI (bxC (m.s 1)) 3) (gI (bxC (m.s 1)) 4) (gS (bxC (m.s 1)) 5) (gS (bxC (m.s 1)) 6) (gI (bxC (m.s 1)) 7) (fun _ => K (.exit 0) (envOf [(4, (.ptr 0 0))]) (memOf [(some (.box true [(.bool (gB (bxC (m.s 1)) 0)), (.int .u64 (gI (bxC (m.s 1)) 1)), (.int .u64 (gI (bxC (m.s 1)) 2)), (.int .i64 (gI (bxC (m.s 1)) 3)), (.int .i64 (gI (bxC (m.s 1)) 4)), (.str (gS (bxC (m.s 1)) 5)), (.str (gS (bxC (m.s 1)) 6)), (.int .i64 (gI (bxC (m.s 1)) 7))]))])) FU (gI [t 6] 0)) none)
theorem o_ddiref46_Find_L6 : SubOk Try.prog (TIof Try.prog) 25 0 (kret [(.cell 4 true 8), (.t 5)] dec_ddiref46_Find) (.loop (scOf a_ddiref46_Find_L6)) s_ddiref46_Find_L6 :=
  loop_of tabOk follows ok_ddiref46_Find_L6 (er_of (by kernel_rfl)) shp_ddiref46_Find_L6 (fun t m K => congrArg (fun z => chk (fitS0 shp_ddiref46_Find_L6 t m) (cond (hdS shp_ddiref46_Find_L6 t m) z none)) (t_ddiref46_Find_L6 (gL [t 0] 0) (gB (bxC (m.s 0)) 0) (gI (bxC (m.s 0)) 1) (gI (bxC (m.s 0)) 2) (gI (bxC (m.s 0)) 3) (gB (bxC (m.s 1)) 0) (gI (bxC (m.s 1)) 1) (gI (bxC (m.s 1)) 2) (gI (bxC (m.s 1)) 3) (gI (bxC (m.s 1)) 4) (gS (bxC (m.s 1)) 5) (gS (bxC (m.s 1)) 6) (gI (bxC (m.s 1)) 7) K FU (gI [t 6] 0)).symm)
def shp_ddiref46_Find : Shp := ⟨[(0, .one (.l (.sl 8))), (1, .st [(.l .b), (.l (.i .u64)), (.l (.i .u64)), (.l (.i .i64))])], []⟩
noncomputable def ddiref46_Find_i (v0 : List AV) (v1_0 : Bool) (v1_1 : Int) (v1_2 : Int) (v1_3 : Int) : Option (AV × Bool) :=
  (ddiref46_Find_L6 v0 v1_0 v1_1 v1_2 v1_3 false (0 : Int) (0 : Int) (0 : Int) (0 : Int) ([] : List UInt8) ([] : List UInt8) (0 : Int) (fun (_ : Unit) => (some ((.agg [(.bool false), (.int .u64 (0 : Int)), (.int .u64 (0 : Int)), (.int .i64 (0 : Int)), (.int .i64 (0 : Int)), (.str ([] : List UInt8)), (.str ([] : List UInt8)), (.int .i64 (0 : Int))]), false))) FU (0 : Int))
noncomputable def ddiref46_Find := hull ddiref46_Find_i
theorem ddiref46_Find_eq : ddiref46_Find = ddiref46_Find_i := hull_eq _
noncomputable def a_ddiref46_Find : AC (AV × Bool) :=
  .seq (.reg [.op ⟨(some 3), (.box (.t 1)), none⟩,
    .op ⟨(some 4), (.alloc [(.bool false), (.int .u64 0), (.int .u64 0), (.int .i64 0), (.int .i64 0), (.str []), (.str []), (.int .i64 0)]), none⟩,
    .op ⟨(some 5), (.mv (.c (.bool false))), none⟩]) (.seq (.seq (.reg [.op ⟨(some 6), (.mv (.c (.int .i64 0))), none⟩]) (.block 0 (.seq (.view [.sel [0, 3, 4, 6] [0, 1]]) (.sub (.loop (scOf a_ddiref46_Find_L6)) s_ddiref46_Find_L6)))) (.seq (.reg [.op ⟨(some 24), (.build [(.bool false), (.int .u64 0), (.int .u64 0), (.int .i64 0), (.int .i64 0), (.str []), (.str []), (.int .i64 0)] []), none⟩,
    .op ⟨none, (.store 8 (.t 4) (.t 24)), none⟩,
    .op ⟨(some 5), (.mv (.c (.bool false))), none⟩]) (.ret)))
theorem ok_ddiref46_Find : AC.ok Try.prog (TIof Try.prog) 25 0 (kret [(.cell 4 true 8), (.t 5)] dec_ddiref46_Find) a_ddiref46_Find := (And.intro True.intro (And.intro (And.intro True.intro (And.intro True.intro o_ddiref46_Find_L6)) (And.intro True.intro True.intro)))
theorem t_ddiref46_Find (v0 : List AV) (v1_0 : Bool) (v1_1 : Int) (v1_2 : Int) (v1_3 : Int) : den 0 (kret [(.cell 4 true 8), (.t 5)] dec_ddiref46_Find) a_ddiref46_Find (envOf [(0, (.sl 8 v0)), (1, (.agg [(.bool v1_0), (.int .u64 v1_1), (.int .u64 v1_2), (.int .i64 v1_3)]))]) (memOf []) (kend (kret [(.cell 4 true 8), (.t 5)] dec_ddiref46_Find)) = ddiref46_Find v0 v1_0 v1_1 v1_2 v1_3 := by
  rw [ddiref46_Find_eq]; kernel_rfl
theorem c_ddiref46_Find : cFn (TIof Try.prog) Try.f37 = some ⟨25, [(.cell 4 true 8), (.t 5)], scOf a_ddiref46_Find⟩ := by kernel_rfl
noncomputable def ent_ddiref46_Find {R : Type} (xs : List AV) (K : AV → Option R) : Option R := chk (fitS shp_ddiref46_Find (entry xs) Mem.none) (oB (ddiref46_Find (gL [(entry xs) 0] 0) (gB ((entry xs) 1).cells 0) (gI ((entry xs) 1).cells 1) (gI ((entry xs) 1).cells 2) (gI ((entry xs) 1).cells 3)) fun r => K (enc_ddiref46_Find r))
theorem k_ddiref46_Find {R : Type} : EntOkB Try.prog 37 (ent_ddiref46_Find (R := R)) :=
  ent_of (F := fun xs => ddiref46_Find (gL [(entry xs) 0] 0) (gB ((entry xs) 1).cells 0) (gI ((entry xs) 1).cells 1) (gI ((entry xs) 1).cells 2) (gI ((entry xs) 1).cells 3)) (enc := enc_ddiref46_Find) tabOk follows Try.func37 (by kernel_rfl) c_ddiref46_Find (fun z r h => by
    obtain ⟨h1, h2⟩ := cond_some h
    cases h2
    exact (fitTup_eq h1).symm) ok_ddiref46_Find (er_of (by kernel_rfl)) shp_ddiref46_Find (fun xs => t_ddiref46_Find (gL [(entry xs) 0] 0) (gB ((entry xs) 1).cells 0) (gI ((entry xs) 1).cells 1) (gI ((entry xs) 1).cells 2) (gI ((entry xs) 1).cells 3)) (fun xs K r h => by
    unfold ent_ddiref46_Find at h
    exact ⟨(chk_some h).1, oB_some (chk_some h).2⟩)

/-! ddi/ddiref03.Bounds -/
def dec_ddiref03_Bounds (z : AV) : Option (AV × Bool) := cond (fitTup [(.st [.b, (.i .u64), (.i .u64), .b, (.i .u64), (.i .u64)]), (.one .b)] z) (some ((gC (tpL z) 0), aB (gC (tpL z) 1))) none
def enc_ddiref03_Bounds (r : AV × Bool) : AV := .tup [etaRV (.st [.b, (.i .u64), (.i .u64), .b, (.i .u64), (.i .u64)]) r.1, .bool r.2]
def shp_ddiref03_Bounds : Shp := ⟨[(0, .st [(.l .b), (.l (.i .u64)), (.l (.i .u64)), (.l (.i .i64))])], []⟩
noncomputable def ddiref03_Bounds_i (v0_0 : Bool) (v0_1 : Int) (v0_2 : Int) (v0_3 : Int) : Option (AV × Bool) :=
  (oB (ddiref03_Valid v0_0 v0_1 v0_2 v0_3) fun r1 => (bif (!r1) then (some ((.agg [(.bool false), (.int .u64 (0 : Int)), (.int .u64 (0 : Int)), (.bool false), (.int .u64 (0 : Int)), (.int .u64 (0 : Int))]), false)) else (oB (ddiref03_Long v0_0) fun r2 => (oB (ddiref03_ones (IntKind.i64.wrap (r2 - v0_3))) fun r3 => (some ((.agg [(.bool v0_0), (.int .u64 v0_1), (.int .u64 v0_2), (.bool v0_0), (.int .u64 (IntKind.u64.wrap (v0_1 + r3.1))), (.int .u64 (IntKind.u64.wrap (v0_2 + r3.2)))]), true))))))
noncomputable def ddiref03_Bounds := hull ddiref03_Bounds_i
theorem ddiref03_Bounds_eq : ddiref03_Bounds = ddiref03_Bounds_i := hull_eq _
noncomputable def a_ddiref03_Bounds : AC (AV × Bool) :=
  .seq (.reg [.op ⟨(some 1), (.box (.t 0)), none⟩,
    .op ⟨(some 2), (.alloc [(.bool false), (.int .u64 0), (.int .u64 0), (.bool false), (.int .u64 0), (.int .u64 0)]), none⟩,
    .op ⟨(some 3), (.mv (.c (.bool false))), none⟩]) (.seq (.seq (.reg [.op ⟨(some 7), (.load true 4 (.t 1)), none⟩,
    .call ⟨(some 8), (.call 33 [(.t 7)]), none⟩ 33 ent_ddiref03_Valid,
    .op ⟨(some 9), (.un .not (.t 8)), none⟩]) (.cond (.t 9) (.seq (.reg [.op ⟨(some 10), (.build [(.bool false), (.int .u64 0), (.int .u64 0), (.bool false), (.int .u64 0), (.int .u64 0)] []), none⟩,
    .op ⟨none, (.store 6 (.t 2) (.t 10)), none⟩,
    .op ⟨(some 3), (.mv (.c (.bool false))), none⟩]) (.ret)) (.skip))) (.seq (.draw [] [.op ⟨(some 12), (.fa 0 (.t 1)), none⟩,
    .op ⟨(some 13), (.fa 0 (.t 12)), none⟩,
    .op ⟨(some 14), (.load false 1 (.t 13)), none⟩,
    .call ⟨(some 15), (.call 75 [(.t 14)]), none⟩ 75 ent_ddiref03_Long,
    .op ⟨(some 16), (.fa 3 (.t 1)), none⟩,
    .op ⟨(some 17), (.load false 1 (.t 16)), none⟩,
    .op ⟨(some 18), (.bin .sub (.t 15) (.t 17)), none⟩,
    .call ⟨(some 19), (.call 76 [(.t 18)]), none⟩ 76 ent_ddiref03_ones,
    .op ⟨(some 11), (.mv (.t 19)), none⟩,
    .op ⟨(some 20), (.ext (.t 11) 0), none⟩,
    .op ⟨(some 21), (.ext (.t 11) 1), none⟩,
    .op ⟨(some 4), (.mv (.t 20)), none⟩] [.op ⟨(some 5), (.mv (.t 21)), none⟩]) (.seq (.reg [.op ⟨(some 22), (.fa 0 (.t 1)), none⟩,
    .op ⟨(some 23), (.fa 0 (.t 22)), none⟩,
    .op ⟨(some 24), (.load false 1 (.t 23)), none⟩,
    .op ⟨(some 25), (.fa 0 (.t 1)), none⟩,
    .op ⟨(some 26), (.fa 1 (.t 25)), none⟩,
    .op ⟨(some 27), (.load false 1 (.t 26)), none⟩,
    .op ⟨(some 28), (.mv (.t 4)), none⟩,
    .op ⟨(some 29), (.bin .add (.t 27) (.t 28)), none⟩,
    .op ⟨(some 30), (.fa 0 (.t 1)), none⟩,
    .op ⟨(some 31), (.fa 2 (.t 30)), none⟩,
    .op ⟨(some 32), (.load false 1 (.t 31)), none⟩,
    .op ⟨(some 33), (.mv (.t 5)), none⟩,
    .op ⟨(some 34), (.bin .add (.t 32) (.t 33)), none⟩,
    .op ⟨(some 35), (.build [(.bool false), (.int .u64 0), (.int .u64 0)] [(0, (1, (.t 24))), (1, (1, (.t 29))), (2, (1, (.t 34)))]), none⟩,
    .op ⟨(some 6), (.alloc [(.bool false), (.int .u64 0), (.int .u64 0)]), none⟩,
    .op ⟨none, (.store 3 (.t 6) (.t 35)), none⟩]) (.seq (.reg [.op ⟨(some 36), (.fa 0 (.t 1)), none⟩,
    .op ⟨(some 37), (.load true 3 (.t 36)), none⟩,
    .op ⟨(some 38), (.load true 3 (.t 6)), none⟩,
    .op ⟨(some 39), (.build [(.bool false), (.int .u64 0), (.int .u64 0), (.bool false), (.int .u64 0), (.int .u64 0)] [(0, (3, (.t 37))), (3, (3, (.t 38)))]), none⟩,
    .op ⟨none, (.store 6 (.t 2) (.t 39)), none⟩,
    .op ⟨(some 3), (.mv (.c (.bool true))), none⟩]) (.ret)))))
theorem ok_ddiref03_Bounds : AC.ok Try.prog (TIof Try.prog) 40 0 (kret [(.cell 2 true 6), (.t 3)] dec_ddiref03_Bounds) a_ddiref03_Bounds := (And.intro True.intro (And.intro (And.intro (And.intro (EntOkB.ok k_ddiref03_Valid) True.intro) (And.intro (And.intro True.intro True.intro) True.intro)) (And.intro (And.intro (And.intro (EntOkB.ok k_ddiref03_Long) (And.intro (EntOkB.ok k_ddiref03_ones) True.intro)) True.intro) (And.intro True.intro (And.intro True.intro True.intro)))))
theorem t_ddiref03_Bounds (v0_0 : Bool) (v0_1 : Int) (v0_2 : Int) (v0_3 : Int) : den 0 (kret [(.cell 2 true 6), (.t 3)] dec_ddiref03_Bounds) a_ddiref03_Bounds (envOf [(0, (.agg [(.bool v0_0), (.int .u64 v0_1), (.int .u64 v0_2), (.int .i64 v0_3)]))]) (memOf []) (kend (kret [(.cell 2 true 6), (.t 3)] dec_ddiref03_Bounds)) = ddiref03_Bounds v0_0 v0_1 v0_2 v0_3 := by
  rw [ddiref03_Bounds_eq]; kernel_rfl
theorem c_ddiref03_Bounds : cFn (TIof Try.prog) Try.f38 = some ⟨40, [(.cell 2 true 6), (.t 3)], scOf a_ddiref03_Bounds⟩ := by kernel_rfl
noncomputable def ent_ddiref03_Bounds {R : Type} (xs : List AV) (K : AV → Option R) : Option R := chk (fitS shp_ddiref03_Bounds (entry xs) Mem.none) (oB (ddiref03_Bounds (gB ((entry xs) 0).cells 0) (gI ((entry xs) 0).cells 1) (gI ((entry xs) 0).cells 2) (gI ((entry xs) 0).cells 3)) fun r => K (enc_ddiref03_Bounds r))
theorem k_ddiref03_Bounds {R : Type} : EntOkB Try.prog 38 (ent_ddiref03_Bounds (R := R)) :=
  ent_of (F := fun xs => ddiref03_Bounds (gB ((entry xs) 0).cells 0) (gI ((entry xs) 0).cells 1) (gI ((entry xs) 0).cells 2) (gI ((entry xs) 0).cells 3)) (enc := enc_ddiref03_Bounds) tabOk follows Try.func38 (by kernel_rfl) c_ddiref03_Bounds (fun z r h => by
    obtain ⟨h1, h2⟩ := cond_some h
    cases h2
    exact (fitTup_eq h1).symm) ok_ddiref03_Bounds (er_of (by kernel_rfl)) shp_ddiref03_Bounds (fun xs => t_ddiref03_Bounds (gB ((entry xs) 0).cells 0) (gI ((entry xs) 0).cells 1) (gI ((entry xs) 0).cells 2) (gI ((entry xs) 0).cells 3)) (fun xs K r h => by
    unfold ent_ddiref03_Bounds at h
    exact ⟨(chk_some h).1, oB_some (chk_some h).2⟩)


end Go.Proofs.Ytmfghgaboaocgaa.Dn
