import Derived.Test.YtmfghgaboaocgaaProg
import Derived.Test.YtmfghgaboaocgaaLibC
import Derived.Test.YtmfghgaboaocgaaDnAlx1
set_option linter.all false
namespace Go.Proofs.Ytmfghgaboaocgaa.Dn
open Go Go.Pev
set_option linter.unusedVariables false
set_option linter.unusedSimpArgs false
set_option maxRecDepth 100000
set_option maxHeartbeats 4000000
/-! ddi/ddiref47.unused -/
def dec_ddiref47_unused (z : AV) : Option Bool := cond (fitRV (.one .b) z) (some (aB z)) none
def enc_ddiref47_unused (r : Bool) : AV := .bool r
def shp_ddiref47_unused_J4 : Shp := ⟨[(0, .one (.l (.sl 8))), (1, .one (.l (.sl 5))), (7, .one (.ptr 0 0)), (8, .one (.ptr 1 0)), (9, .one (.ptr 2 0))], [.box true [(.l .b), (.l (.i .u64)), (.l (.i .u64)), (.l (.i .i64))], .box true [(.l .b), (.l (.i .u64)), (.l (.i .u64)), (.l .b), (.l (.i .u64)), (.l (.i .u64))], .box true [(.l .b), (.l (.i .u64)), (.l (.i .u64))]]⟩
noncomputable def ddiref47_unused_J4_i  (v0 : List AV) (v1 : List AV) (b0_0 : Bool) (b0_1 : Int) (b0_2 : Int) (b0_3 : Int) (b1_0 : Bool) (b1_1 : Int) (b1_2 : Int) (b1_3 : Bool) (b1_4 : Int) (b1_5 : Int) (b2_0 : Bool) (b2_1 : Int) (b2_2 : Int) (kn : Bool → Option Bool) : Option Bool :=
  (bif ((b2_0 == b1_0) && ((b2_1 == b1_1) && ((b2_2 == b1_2) && true))) then (kn true) else (bif ((b2_0 == b1_3) && ((b2_1 == b1_4) && ((b2_2 == b1_5) && true))) then (bif (!b0_0) then (kn (decide (b0_3 ≤ (30 : Int)))) else (kn false)) else (kn false)))
noncomputable def ddiref47_unused_J4 := hull (ddiref47_unused_J4_i)
theorem ddiref47_unused_J4_eq : ddiref47_unused_J4 = ddiref47_unused_J4_i := hull_eq _
noncomputable def a_ddiref47_unused_J4 : AC Bool :=
  .seq (.reg [.op ⟨(some 14), (.load true 3 (.t 9)), none⟩,
    .op ⟨(some 15), (.fa 0 (.t 8)), none⟩,
    .op ⟨(some 16), (.load true 3 (.t 15)), none⟩,
    .op ⟨(some 17), (.eq false true [.b, (.i .u64), (.i .u64)] (.t 14) (.t 16)), none⟩,
    .op ⟨(some 18), (.mv (.t 17)), none⟩,
    .op ⟨(some 19), (.load true 3 (.t 9)), (some (18, false))⟩,
    .op ⟨(some 20), (.fa 3 (.t 8)), (some (18, false))⟩,
    .op ⟨(some 21), (.load true 3 (.t 20)), (some (18, false))⟩,
    .op ⟨(some 22), (.eq false true [.b, (.i .u64), (.i .u64)] (.t 19) (.t 21)), (some (18, false))⟩,
    .op ⟨(some 23), (.mv (.t 22)), (some (18, false))⟩,
    .op ⟨(some 24), (.fa 0 (.t 7)), (some (23, true))⟩,
    .op ⟨(some 25), (.fa 0 (.t 24)), (some (23, true))⟩,
    .op ⟨(some 26), (.load false 1 (.t 25)), (some (23, true))⟩,
    .op ⟨(some 27), (.un .not (.t 26)), (some (23, true))⟩,
    .op ⟨(some 28), (.pick (.t 23) (.t 27) (.c (.bool false))), (some (18, false))⟩,
    .op ⟨(some 29), (.mv (.t 28)), (some (18, false))⟩,
    .op ⟨(some 30), (.fa 3 (.t 7)), (some (29, true))⟩,
    .op ⟨(some 31), (.load false 1 (.t 30)), (some (29, true))⟩,
    .op ⟨(some 32), (.bin .leq (.t 31) (.c (.int .i64 30))), (some (29, true))⟩,
    .op ⟨(some 33), (.pick (.t 29) (.t 32) (.c (.bool false))), (some (18, false))⟩,
    .op ⟨(some 34), (.pick (.t 18) (.c (.bool true)) (.t 33)), none⟩]) (.view [.sel [0, 1, 7, 9, 34] [0, 2]])
theorem ok_ddiref47_unused_J4 : AC.ok Try.prog (TIof Try.prog) 72 0 (kret [(.t 10)] dec_ddiref47_unused) a_ddiref47_unused_J4 := (And.intro True.intro True.intro)
theorem t_ddiref47_unused_J4 (v0 : List AV) (v1 : List AV) (b0_0 : Bool) (b0_1 : Int) (b0_2 : Int) (b0_3 : Int) (b1_0 : Bool) (b1_1 : Int) (b1_2 : Int) (b1_3 : Bool) (b1_4 : Int) (b1_5 : Int) (b2_0 : Bool) (b2_1 : Int) (b2_2 : Int) (K : Ex → Env → Mem → Option Bool) : den 0 (kret [(.t 10)] dec_ddiref47_unused) a_ddiref47_unused_J4 (envOf [(0, (.sl 8 v0)), (1, (.sl 5 v1)), (7, (.ptr 0 0)), (8, (.ptr 1 0)), (9, (.ptr 2 0))]) (memOf [(some (.box true [(.bool b0_0), (.int .u64 b0_1), (.int .u64 b0_2), (.int .i64 b0_3)])), (some (.box true [(.bool b1_0), (.int .u64 b1_1), (.int .u64 b1_2), (.bool b1_3), (.int .u64 b1_4), (.int .u64 b1_5)])), (some (.box true [(.bool b2_0), (.int .u64 b2_1), (.int .u64 b2_2)]))]) K = ddiref47_unused_J4 v0 v1 b0_0 b0_1 b0_2 b0_3 b1_0 b1_1 b1_2 b1_3 b1_4 b1_5 b2_0 b2_1 b2_2 (fun z_v34 => K .norm (envOf [(0, (.sl 8 v0)), (1, (.sl 5 v1)), (7, (.ptr 0 0)), (9, (.ptr 1 0)), (34, (.bool z_v34))]) (memOf [(some (.box true [(.bool b0_0), (.int .u64 b0_1), (.int .u64 b0_2), (.int .i64 b0_3)])), (some (.box true [(.bool b2_0), (.int .u64 b2_1), (.int .u64 b2_2)]))])) := by
  rw [ddiref47_unused_J4_eq]; kernel_rfl
noncomputable def s_ddiref47_unused_J4 : Env → Mem → (Ex → Env → Mem → Option Bool) → Option Bool := fun t m K => chk (fitS0 shp_ddiref47_unused_J4 t m) (cond (hdS shp_ddiref47_unused_J4 t m) (ddiref47_unused_J4 (gL [t 0] 0) (gL [t 1] 0) (gB (bxC (m.s 0)) 0) (gI (bxC (m.s 0)) 1) (gI (bxC (m.s 0)) 2) (gI (bxC (m.s 0)) 3) (gB (bxC (m.s 1)) 0) (gI (bxC (m.s 1)) 1) (gI (bxC (m.s 1)) 2) (gB (bxC (m.s 1)) 3) (gI (bxC (m.s 1)) 4) (gI (bxC (m.s 1)) 5) (gB (bxC (m.s 2)) 0) (gI (bxC (m.s 2)) 1) (gI (bxC (m.s 2)) 2) (fun z_v34 => K .norm (envOf [(0, (.sl 8 (gL [t 0] 0))), (1, (.sl 5 (gL [t 1] 0))), (7, (.ptr 0 0)), (9, (.ptr 1 0)), (34, (.bool z_v34))]) (memOf [(some (.box true [(.bool (gB (bxC (m.s 0)) 0)), (.int .u64 (gI (bxC (m.s 0)) 1)), (.int .u64 (gI (bxC (m.s 0)) 2)), (.int .i64 (gI (bxC (m.s 0)) 3))])), (some (.box true [(.bool (gB (bxC (m.s 2)) 0)), (.int .u64 (gI (bxC (m.s 2)) 1)), (.int .u64 (gI (bxC (m.s 2)) 2))]))]))) none)
theorem o_ddiref47_unused_J4 : SubOk Try.prog (TIof Try.prog) 72 0 (kret [(.t 10)] dec_ddiref47_unused) (scOf a_ddiref47_unused_J4) s_ddiref47_unused_J4 :=
  sub_of tabOk follows ok_ddiref47_unused_J4 (er_of (by kernel_rfl)) shp_ddiref47_unused_J4 (fun t m K => congrArg (fun z => chk (fitS0 shp_ddiref47_unused_J4 t m) (cond (hdS shp_ddiref47_unused_J4 t m) z none)) (t_ddiref47_unused_J4 (gL [t 0] 0) (gL [t 1] 0) (gB (bxC (m.s 0)) 0) (gI (bxC (m.s 0)) 1) (gI (bxC (m.s 0)) 2) (gI (bxC (m.s 0)) 3) (gB (bxC (m.s 1)) 0) (gI (bxC (m.s 1)) 1) (gI (bxC (m.s 1)) 2) (gB (bxC (m.s 1)) 3) (gI (bxC (m.s 1)) 4) (gI (bxC (m.s 1)) 5) (gB (bxC (m.s 2)) 0) (gI (bxC (m.s 2)) 1) (gI (bxC (m.s 2)) 2) K).symm)
def shp_ddiref47_unused_L14 : Shp := ⟨[(0, .one (.l (.sl 8))), (1, .one (.l (.sl 5))), (7, .one (.ptr 0 0)), (9, .one (.ptr 1 0)), (11, .one (.l (.i .i64)))], [.box true [(.l .b), (.l (.i .u64)), (.l (.i .u64)), (.l (.i .i64))], .box true [(.l .b), (.l (.i .u64)), (.l (.i .u64))]]⟩
noncomputable def ddiref47_unused_L14_b  (v0 : List AV) (v1 : List AV) (v11 : Int) (b0_0 : Bool) (b0_1 : Int) (b0_2 : Int) (b0_3 : Int) (b1_0 : Bool) (b1_1 : Int) (b1_2 : Int) (next : Int → Option Bool) (kx0 : Unit → Option Bool) : Option Bool :=
  (bif (decide (v11 < (v1.length : Int))) then (oB (ixB v1 v11) fun y1 => (bif fitC T_api_Host y1.cells then (bif (((gB y1.cells 1) == b1_0) && (((gI y1.cells 2) == b1_1) && (((gI y1.cells 3) == b1_2) && true))) then (some false) else (next (IntKind.i64.wrap (v11 + (1 : Int))))) else none)) else (kx0 ()))
noncomputable def ddiref47_unused_L14_i  (v0 : List AV) (v1 : List AV) (b0_0 : Bool) (b0_1 : Int) (b0_2 : Int) (b0_3 : Int) (b1_0 : Bool) (b1_1 : Int) (b1_2 : Int) (kx0 : Unit → Option Bool) : Nat → Int → Option Bool
  | 0 => (fun _ => none)
  | n + 1 => (fun v11 => ddiref47_unused_L14_b v0 v1 v11 b0_0 b0_1 b0_2 b0_3 b1_0 b1_1 b1_2 (ddiref47_unused_L14_i v0 v1 b0_0 b0_1 b0_2 b0_3 b1_0 b1_1 b1_2 kx0 n) kx0)
noncomputable def ddiref47_unused_L14 := hull (ddiref47_unused_L14_i)
theorem ddiref47_unused_L14_eq : ddiref47_unused_L14 = ddiref47_unused_L14_i := hull_eq _
noncomputable def a_ddiref47_unused_L14 : AC Bool :=
  .seq (.seq (.reg [.op ⟨(some 35), (.mv (.t 11)), none⟩,
    .op ⟨(some 36), (.mv (.t 1)), none⟩,
    .op ⟨(some 37), (.len false (.t 36)), none⟩,
    .op ⟨(some 38), (.bin .lss (.t 35) (.t 37)), none⟩]) (.cond (.t 38) (.skip) (.seq (.view [.sel [0, 7, 9] [0, 1]]) (.exit 0)))) (.seq (.block 1 (.seq (.draw [] [.op ⟨(some 41), (.mv (.t 1)), none⟩,
    .op ⟨(some 42), (.mv (.t 11)), none⟩,
    .op ⟨(some 43), (.ia 5 (.t 41) (.t 42)), none⟩,
    .et 43 T_api_Host,
    .op ⟨(some 44), (.fa 1 (.t 43)), none⟩,
    .op ⟨(some 45), (.load true 3 (.t 44)), none⟩,
    .op ⟨(some 46), (.load true 3 (.t 9)), none⟩] [.op ⟨(some 47), (.eq false true [.b, (.i .u64), (.i .u64)] (.t 45) (.t 46)), none⟩]) (.cond (.t 47) (.seq (.reg [.op ⟨(some 10), (.mv (.c (.bool false))), none⟩]) (.ret)) (.skip)))) (.seq (.reg [.op ⟨(some 39), (.mv (.t 11)), none⟩,
    .op ⟨(some 40), (.bin .add (.t 39) (.c (.int .i64 1))), none⟩,
    .op ⟨(some 11), (.mv (.t 40)), none⟩]) (.view [.sel [0, 1, 7, 9, 11] [0, 1]])))
theorem ok_ddiref47_unused_L14 : AC.ok Try.prog (TIof Try.prog) 72 0 (kret [(.t 10)] dec_ddiref47_unused) a_ddiref47_unused_L14 := (And.intro (And.intro True.intro (And.intro True.intro (And.intro True.intro True.intro))) (And.intro (And.intro (And.intro True.intro True.intro) (And.intro (And.intro True.intro True.intro) True.intro)) (And.intro True.intro True.intro)))
theorem t_ddiref47_unused_L14_b (v0 : List AV) (v1 : List AV) (v11 : Int) (b0_0 : Bool) (b0_1 : Int) (b0_2 : Int) (b0_3 : Int) (b1_0 : Bool) (b1_1 : Int) (b1_2 : Int) (K : Ex → Env → Mem → Option Bool) : den 0 (kret [(.t 10)] dec_ddiref47_unused) a_ddiref47_unused_L14 (envOf [(0, (.sl 8 v0)), (1, (.sl 5 v1)), (7, (.ptr 0 0)), (9, (.ptr 1 0)), (11, (.int .i64 v11))]) (memOf [(some (.box true [(.bool b0_0), (.int .u64 b0_1), (.int .u64 b0_2), (.int .i64 b0_3)])), (some (.box true [(.bool b1_0), (.int .u64 b1_1), (.int .u64 b1_2)]))]) K = ddiref47_unused_L14_b v0 v1 v11 b0_0 b0_1 b0_2 b0_3 b1_0 b1_1 b1_2 (fun z_v11 => K .norm (envOf [(0, (.sl 8 v0)), (1, (.sl 5 v1)), (7, (.ptr 0 0)), (9, (.ptr 1 0)), (11, (.int .i64 z_v11))]) (memOf [(some (.box true [(.bool b0_0), (.int .u64 b0_1), (.int .u64 b0_2), (.int .i64 b0_3)])), (some (.box true [(.bool b1_0), (.int .u64 b1_1), (.int .u64 b1_2)]))])) (fun _ => K (.exit 0) (envOf [(0, (.sl 8 v0)), (7, (.ptr 0 0)), (9, (.ptr 1 0))]) (memOf [(some (.box true [(.bool b0_0), (.int .u64 b0_1), (.int .u64 b0_2), (.int .i64 b0_3)])), (some (.box true [(.bool b1_0), (.int .u64 b1_1), (.int .u64 b1_2)]))])) := by kernel_rfl
theorem t_ddiref47_unused_L14 (v0 : List AV) (v1 : List AV) (b0_0 : Bool) (b0_1 : Int) (b0_2 : Int) (b0_3 : Int) (b1_0 : Bool) (b1_1 : Int) (b1_2 : Int) (K : Ex → Env → Mem → Option Bool) : ∀ (n : Nat) (v11 : Int), iterD (den 0 (kret [(.t 10)] dec_ddiref47_unused) a_ddiref47_unused_L14) n (envOf [(0, (.sl 8 v0)), (1, (.sl 5 v1)), (7, (.ptr 0 0)), (9, (.ptr 1 0)), (11, (.int .i64 v11))]) (memOf [(some (.box true [(.bool b0_0), (.int .u64 b0_1), (.int .u64 b0_2), (.int .i64 b0_3)])), (some (.box true [(.bool b1_0), (.int .u64 b1_1), (.int .u64 b1_2)]))]) K = ddiref47_unused_L14 v0 v1 b0_0 b0_1 b0_2 b0_3 b1_0 b1_1 b1_2 (fun _ => K (.exit 0) (envOf [(0, (.sl 8 v0)), (7, (.ptr 0 0)), (9, (.ptr 1 0))]) (memOf [(some (.box true [(.bool b0_0), (.int .u64 b0_1), (.int .u64 b0_2), (.int .i64 b0_3)])), (some (.box true [(.bool b1_0), (.int .u64 b1_1), (.int .u64 b1_2)]))])) n v11 := by
  rw [ddiref47_unused_L14_eq]
  intro n
  induction n with
  | zero => intros; rfl
  | succ n ih =>
    intro v11
    exact (t_ddiref47_unused_L14_b v0 v1 v11 b0_0 b0_1 b0_2 b0_3 b1_0 b1_1 b1_2 (itK (den 0 (kret [(.t 10)] dec_ddiref47_unused) a_ddiref47_unused_L14) n K)).trans (congrArg (fun q => ddiref47_unused_L14_b v0 v1 v11 b0_0 b0_1 b0_2 b0_3 b1_0 b1_1 b1_2 q (fun _ => K (.exit 0) (envOf [(0, (.sl 8 v0)), (7, (.ptr 0 0)), (9, (.ptr 1 0))]) (memOf [(some (.box true [(.bool b0_0), (.int .u64 b0_1), (.int .u64 b0_2), (.int .i64 b0_3)])), (some (.box true [(.bool b1_0), (.int .u64 b1_1), (.int .u64 b1_2)]))]))) (funext fun v11 => ih v11))
noncomputable def s_ddiref47_unused_L14 : Env → Mem → (Ex → Env → Mem → Option Bool) → Option Bool := fun t m K => chk (fitS0 shp_ddiref47_unused_L14 t m) (cond (hdS shp_ddiref47_unused_L14 t m) (ddiref47_unused_L14 (gL [t 0] 0) (gL [t 1] 0) (gB (bxC (m.s 0)) 0) (gI (bxC (m.s 0)) 1) (gI (bxC (m.s 0)) 2) (gI (bxC (m.s 0)) 3) (gB (bxC (m.s 1)) 0) (gI (bxC (m.s 1)) 1) (gI (bxC (m.s 1)) 2) (fun _ => K (.exit 0) (envOf [(0, (.sl 8 (gL [t 0] 0))), (7, (.ptr 0 0)), (9, (.ptr 1 0))]) (memOf [(some (.box true [(.bool (gB (bxC (m.s 0)) 0)), (.int .u64 (gI (bxC (m.s 0)) 1)), (.int .u64 (gI (bxC (m.s 0)) 2)), (.int .i64 (gI (bxC (m.s 0)) 3))])), (some (.box true [(.bool (gB (bxC (m.s 1)) 0)), (.int .u64 (gI (bxC (m.s 1)) 1)), (.int .u64 (gI (bxC (m.s 1)) 2))]))])) FU (gI [t 11] 0)) none)
theorem o_ddiref47_unused_L14 : SubOk Try.prog (TIof Try.prog) 72 0 (kret [(.t 10)] dec_ddiref47_unused) (.loop (scOf a_ddiref47_unused_L14)) s_ddiref47_unused_L14 :=
  loop_of tabOk follows ok_ddiref47_unused_L14 (er_of (by kernel_rfl)) shp_ddiref47_unused_L14 (fun t m K => congrArg (fun z => chk (fitS0 shp_ddiref47_unused_L14 t m) (cond (hdS shp_ddiref47_unused_L14 t m) z none)) (t_ddiref47_unused_L14 (gL [t 0] 0) (gL [t 1] 0) (gB (bxC (m.s 0)) 0) (gI (bxC (m.s 0)) 1) (gI (bxC (m.s 0)) 2) (gI (bxC (m.s 0)) 3) (gB (bxC (m.s 1)) 0) (gI (bxC (m.s 1)) 1) (gI (bxC (m.s 1)) 2) K FU (gI [t 11] 0)).symm)
def shp_ddiref47_unused_J47 : Shp := ⟨[(0, .one (.l (.sl 8))), (7, .one (.ptr 0 0)), (9, .one (.ptr 1 0)), (12, .one (.l (.i .i64))), (13, .one (.ptr 2 0))], [.box true [(.l .b), (.l (.i .u64)), (.l (.i .u64)), (.l (.i .i64))], .box true [(.l .b), (.l (.i .u64)), (.l (.i .u64))], .box true [(.l .b), (.l (.i .u64)), (.l (.i .u64)), (.l (.i .i64))]]⟩
noncomputable def ddiref47_unused_J47_i  (v0 : List AV) (v12 : Int) (b0_0 : Bool) (b0_1 : Int) (b0_2 : Int) (b0_3 : Int) (b1_0 : Bool) (b1_1 : Int) (b1_2 : Int) (b2_0 : Bool) (b2_1 : Int) (b2_2 : Int) (b2_3 : Int) (kn : Bool → Option Bool) : Option Bool :=
  (bif (!((b2_0 == b0_0) && ((b2_1 == b0_1) && ((b2_2 == b0_2) && ((b2_3 == b0_3) && true))))) then (oB (ddiref03_Within b2_0 b2_1 b2_2 b2_3 b0_0 b0_1 b0_2 b0_3) fun r1 => (bif r1 then (oB (ddiref03_Contains b2_0 b2_1 b2_2 b2_3 b1_0 b1_1 b1_2) fun r2 => (kn r2)) else (kn false))) else (kn false))
noncomputable def ddiref47_unused_J47 := hull (ddiref47_unused_J47_i)
theorem ddiref47_unused_J47_eq : ddiref47_unused_J47 = ddiref47_unused_J47_i := hull_eq _
noncomputable def a_ddiref47_unused_J47 : AC Bool :=
  .seq (.reg [.op ⟨(some 59), (.load true 4 (.t 13)), none⟩,
    .op ⟨(some 60), (.load true 4 (.t 7)), none⟩,
    .op ⟨(some 61), (.eq true true [.b, (.i .u64), (.i .u64), (.i .i64)] (.t 59) (.t 60)), none⟩,
    .op ⟨(some 62), (.mv (.t 61)), none⟩,
    .op ⟨(some 63), (.load true 4 (.t 13)), (some (62, true))⟩,
    .op ⟨(some 64), (.load true 4 (.t 7)), (some (62, true))⟩,
    .call ⟨(some 65), (.call 81 [(.t 63), (.t 64)]), (some (62, true))⟩ 81 ent_ddiref03_Within,
    .op ⟨(some 66), (.pick (.t 62) (.t 65) (.c (.bool false))), none⟩,
    .op ⟨(some 67), (.mv (.t 66)), none⟩,
    .op ⟨(some 68), (.load true 4 (.t 13)), (some (67, true))⟩,
    .op ⟨(some 69), (.load true 3 (.t 9)), (some (67, true))⟩,
    .call ⟨(some 70), (.call 82 [(.t 68), (.t 69)]), (some (67, true))⟩ 82 ent_ddiref03_Contains,
    .op ⟨(some 71), (.pick (.t 67) (.t 70) (.c (.bool false))), none⟩]) (.view [.sel [0, 7, 9, 12, 71] [0, 1]])
theorem ok_ddiref47_unused_J47 : AC.ok Try.prog (TIof Try.prog) 72 0 (kret [(.t 10)] dec_ddiref47_unused) a_ddiref47_unused_J47 := (And.intro (And.intro (EntOkB.ok k_ddiref03_Within) (And.intro (EntOkB.ok k_ddiref03_Contains) True.intro)) True.intro)
theorem t_ddiref47_unused_J47 (v0 : List AV) (v12 : Int) (b0_0 : Bool) (b0_1 : Int) (b0_2 : Int) (b0_3 : Int) (b1_0 : Bool) (b1_1 : Int) (b1_2 : Int) (b2_0 : Bool) (b2_1 : Int) (b2_2 : Int) (b2_3 : Int) (K : Ex → Env → Mem → Option Bool) : den 0 (kret [(.t 10)] dec_ddiref47_unused) a_ddiref47_unused_J47 (envOf [(0, (.sl 8 v0)), (7, (.ptr 0 0)), (9, (.ptr 1 0)), (12, (.int .i64 v12)), (13, (.ptr 2 0))]) (memOf [(some (.box true [(.bool b0_0), (.int .u64 b0_1), (.int .u64 b0_2), (.int .i64 b0_3)])), (some (.box true [(.bool b1_0), (.int .u64 b1_1), (.int .u64 b1_2)])), (some (.box true [(.bool b2_0), (.int .u64 b2_1), (.int .u64 b2_2), (.int .i64 b2_3)]))]) K = ddiref47_unused_J47 v0 v12 b0_0 b0_1 b0_2 b0_3 b1_0 b1_1 b1_2 b2_0 b2_1 b2_2 b2_3 (fun z_v71 => K .norm (envOf [(0, (.sl 8 v0)), (7, (.ptr 0 0)), (9, (.ptr 1 0)), (12, (.int .i64 v12)), (71, (.bool z_v71))]) (memOf [(some (.box true [(.bool b0_0), (.int .u64 b0_1), (.int .u64 b0_2), (.int .i64 b0_3)])), (some (.box true [(.bool b1_0), (.int .u64 b1_1), (.int .u64 b1_2)]))])) := by
  rw [ddiref47_unused_J47_eq]; kernel_rfl
noncomputable def s_ddiref47_unused_J47 : Env → Mem → (Ex → Env → Mem → Option Bool) → Option Bool := fun t m K => chk (fitS0 shp_ddiref47_unused_J47 t m) (cond (hdS shp_ddiref47_unused_J47 t m) (ddiref47_unused_J47 (gL [t 0] 0) (gI [t 12] 0) (gB (bxC (m.s 0)) 0) (gI (bxC (m.s 0)) 1) (gI (bxC (m.s 0)) 2) (gI (bxC (m.s 0)) 3) (gB (bxC (m.s 1)) 0) (gI (bxC (m.s 1)) 1) (gI (bxC (m.s 1)) 2) (gB (bxC (m.s 2)) 0) (gI (bxC (m.s 2)) 1) (gI (bxC (m.s 2)) 2) (gI (bxC (m.s 2)) 3) (fun z_v71 => K .norm (envOf [(0, (.sl 8 (gL [t 0] 0))), (7, (.ptr 0 0)), (9, (.ptr 1 0)), (12, (.int .i64 (gI [t 12] 0))), (71, (.bool z_v71))]) (memOf [(some (.box true [(.bool (gB (bxC (m.s 0)) 0)), (.int .u64 (gI (bxC (m.s 0)) 1)), (.int .u64 (gI (bxC (m.s 0)) 2)), (.int .i64 (gI (bxC (m.s 0)) 3))])), (some (.box true [(.bool (gB (bxC (m.s 1)) 0)), (.int .u64 (gI (bxC (m.s 1)) 1)), (.int .u64 (gI (bxC (m.s 1)) 2))]))]))) none)
theorem o_ddiref47_unused_J47 : SubOk Try.prog (TIof Try.prog) 72 0 (kret [(.t 10)] dec_ddiref47_unused) (scOf a_ddiref47_unused_J47) s_ddiref47_unused_J47 :=
  sub_of tabOk follows ok_ddiref47_unused_J47 (er_of (by kernel_rfl)) shp_ddiref47_unused_J47 (fun t m K => congrArg (fun z => chk (fitS0 shp_ddiref47_unused_J47 t m) (cond (hdS shp_ddiref47_unused_J47 t m) z none)) (t_ddiref47_unused_J47 (gL [t 0] 0) (gI [t 12] 0) (gB (bxC (m.s 0)) 0) (gI (bxC (m.s 0)) 1) (gI (bxC (m.s 0)) 2) (gI (bxC (m.s 0)) 3) (gB (bxC (m.s 1)) 0) (gI (bxC (m.s 1)) 1) (gI (bxC (m.s 1)) 2) (gB (bxC (m.s 2)) 0) (gI (bxC (m.s 2)) 1) (gI (bxC (m.s 2)) 2) (gI (bxC (m.s 2)) 3) K).symm)
def shp_ddiref47_unused_L35 : Shp := ⟨[(0, .one (.l (.sl 8))), (7, .one (.ptr 0 0)), (9, .one (.ptr 1 0)), (12, .one (.l (.i .i64)))], [.box true [(.l .b), (.l (.i .u64)), (.l (.i .u64)), (.l (.i .i64))], .box true [(.l .b), (.l (.i .u64)), (.l (.i .u64))]]⟩
noncomputable def ddiref47_unused_L35_b  (v0 : List AV) (v12 : Int) (b0_0 : Bool) (b0_1 : Int) (b0_2 : Int) (b0_3 : Int) (b1_0 : Bool) (b1_1 : Int) (b1_2 : Int) (next : Int → Option Bool) (kx2 : Unit → Option Bool) : Option Bool :=
  (bif (decide (v12 < (v0.length : Int))) then (oB (ixB v0 v12) fun y1 => (bif fitC T_api_Block y1.cells then (ddiref47_unused_J47 v0 v12 b0_0 b0_1 b0_2 b0_3 b1_0 b1_1 b1_2 (gB y1.cells 0) (gI y1.cells 1) (gI y1.cells 2) (gI y1.cells 3) (fun v71 => (bif v71 then (some false) else (next (IntKind.i64.wrap (v12 + (1 : Int))))))) else none)) else (kx2 ()))
noncomputable def ddiref47_unused_L35_i  (v0 : List AV) (b0_0 : Bool) (b0_1 : Int) (b0_2 : Int) (b0_3 : Int) (b1_0 : Bool) (b1_1 : Int) (b1_2 : Int) (kx2 : Unit → Option Bool) : Nat → Int → Option Bool
  | 0 => (fun _ => none)
  | n + 1 => (fun v12 => ddiref47_unused_L35_b v0 v12 b0_0 b0_1 b0_2 b0_3 b1_0 b1_1 b1_2 (ddiref47_unused_L35_i v0 b0_0 b0_1 b0_2 b0_3 b1_0 b1_1 b1_2 kx2 n) kx2)
noncomputable def ddiref47_unused_L35 := hull (ddiref47_unused_L35_i)
theorem ddiref47_unused_L35_eq : ddiref47_unused_L35 = ddiref47_unused_L35_i := hull_eq _
noncomputable def a_ddiref47_unused_L35 : AC Bool :=
  .seq (.seq (.reg [.op ⟨(some 48), (.mv (.t 12)), none⟩,
    .op ⟨(some 49), (.mv (.t 0)), none⟩,
    .op ⟨(some 50), (.len false (.t 49)), none⟩,
    .op ⟨(some 51), (.bin .lss (.t 48) (.t 50)), none⟩]) (.cond (.t 51) (.skip) (.seq (.view [.sel [] []]) (.exit 2)))) (.seq (.block 3 (.seq (.reg [.op ⟨(some 54), (.mv (.t 0)), none⟩,
    .op ⟨(some 55), (.mv (.t 12)), none⟩,
    .op ⟨(some 56), (.ia 8 (.t 54) (.t 55)), none⟩,
    .st (.etac 56 T_api_Block),
    .op ⟨(some 57), (.fa 0 (.t 56)), none⟩,
    .op ⟨(some 58), (.load true 4 (.t 57)), none⟩,
    .op ⟨(some 13), (.alloc [(.bool false), (.int .u64 0), (.int .u64 0), (.int .i64 0)]), none⟩,
    .op ⟨none, (.store 4 (.t 13) (.t 58)), none⟩]) (.seq (.seq (.view [.sel [0, 7, 9, 12, 13] [0, 1, 2]]) (.sub (scOf a_ddiref47_unused_J47) s_ddiref47_unused_J47)) (.cond (.t 71) (.seq (.reg [.op ⟨(some 10), (.mv (.c (.bool false))), none⟩]) (.ret)) (.skip))))) (.seq (.reg [.op ⟨(some 52), (.mv (.t 12)), none⟩,
    .op ⟨(some 53), (.bin .add (.t 52) (.c (.int .i64 1))), none⟩,
    .op ⟨(some 12), (.mv (.t 53)), none⟩]) (.view [.sel [0, 7, 9, 12] [0, 1]])))
theorem ok_ddiref47_unused_L35 : AC.ok Try.prog (TIof Try.prog) 72 0 (kret [(.t 10)] dec_ddiref47_unused) a_ddiref47_unused_L35 := (And.intro (And.intro True.intro (And.intro True.intro (And.intro True.intro True.intro))) (And.intro (And.intro True.intro (And.intro (And.intro True.intro o_ddiref47_unused_J47) (And.intro (And.intro True.intro True.intro) True.intro))) (And.intro True.intro True.intro)))
theorem t_ddiref47_unused_L35_b (v0 : List AV) (v12 : Int) (b0_0 : Bool) (b0_1 : Int) (b0_2 : Int) (b0_3 : Int) (b1_0 : Bool) (b1_1 : Int) (b1_2 : Int) (K : Ex → Env → Mem → Option Bool) : den 0 (kret [(.t 10)] dec_ddiref47_unused) a_ddiref47_unused_L35 (envOf [(0, (.sl 8 v0)), (7, (.ptr 0 0)), (9, (.ptr 1 0)), (12, (.int .i64 v12))]) (memOf [(some (.box true [(.bool b0_0), (.int .u64 b0_1), (.int .u64 b0_2), (.int .i64 b0_3)])), (some (.box true [(.bool b1_0), (.int .u64 b1_1), (.int .u64 b1_2)]))]) K = ddiref47_unused_L35_b v0 v12 b0_0 b0_1 b0_2 b0_3 b1_0 b1_1 b1_2 (fun z_v12 => K .norm (envOf [(0, (.sl 8 v0)), (7, (.ptr 0 0)), (9, (.ptr 1 0)), (12, (.int .i64 z_v12))]) (memOf [(some (.box true [(.bool b0_0), (.int .u64 b0_1), (.int .u64 b0_2), (.int .i64 b0_3)])), (some (.box true [(.bool b1_0), (.int .u64 b1_1), (.int .u64 b1_2)]))])) (fun _ => K (.exit 2) (envOf []) (memOf [])) := by kernel_rfl
theorem t_ddiref47_unused_L35 (v0 : List AV) (b0_0 : Bool) (b0_1 : Int) (b0_2 : Int) (b0_3 : Int) (b1_0 : Bool) (b1_1 : Int) (b1_2 : Int) (K : Ex → Env → Mem → Option Bool) : ∀ (n : Nat) (v12 : Int), iterD (den 0 (kret [(.t 10)] dec_ddiref47_unused) a_ddiref47_unused_L35) n (envOf [(0, (.sl 8 v0)), (7, (.ptr 0 0)), (9, (.ptr 1 0)), (12, (.int .i64 v12))]) (memOf [(some (.box true [(.bool b0_0), (.int .u64 b0_1), (.int .u64 b0_2), (.int .i64 b0_3)])), (some (.box true [(.bool b1_0), (.int .u64 b1_1), (.int .u64 b1_2)]))]) K = ddiref47_unused_L35 v0 b0_0 b0_1 b0_2 b0_3 b1_0 b1_1 b1_2 (fun _ => K (.exit 2) (envOf []) (memOf [])) n v12 := by
  rw [ddiref47_unused_L35_eq]
  intro n
  induction n with
  | zero => intros; rfl
  | succ n ih =>
    intro v12
    exact (t_ddiref47_unused_L35_b v0 v12 b0_0 b0_1 b0_2 b0_3 b1_0 b1_1 b1_2 (itK (den 0 (kret [(.t 10)] dec_ddiref47_unused) a_ddiref47_unused_L35) n K)).trans (congrArg (fun q => ddiref47_unused_L35_b v0 v12 b0_0 b0_1 b0_2 b0_3 b1_0 b1_1 b1_2 q (fun _ => K (.exit 2) (envOf []) (memOf []))) (funext fun v12 => ih v12))
noncomputable def s_ddiref47_unused_L35 : Env → Mem → (Ex → Env → Mem → Option Bool) → Option Bool := fun t m K => chk (fitS0 shp_ddiref47_unused_L35 t m) (cond (hdS shp_ddiref47_unused_L35 t m) (ddiref47_unused_L35 (gL [t 0] 0) (gB (bxC (m.s 0)) 0) (gI (bxC (m.s 0)) 1) (gI (bxC (m.s 0)) 2) (gI (bxC (m.s 0)) 3) (gB (bxC (m.s 1)) 0) (gI (bxC (m.s 1)) 1) (gI (bxC (m.s 1)) 2) (fun _ => K (.exit 2) (envOf []) (memOf [])) FU (gI [t 12] 0)) none)
theorem o_ddiref47_unused_L35 : SubOk Try.prog (TIof Try.prog) 72 0 (kret [(.t 10)] dec_ddiref47_unused) (.loop (scOf a_ddiref47_unused_L35)) s_ddiref47_unused_L35 :=
  loop_of tabOk follows ok_ddiref47_unused_L35 (er_of (by kernel_rfl)) shp_ddiref47_unused_L35 (fun t m K => congrArg (fun z => chk (fitS0 shp_ddiref47_unused_L35 t m) (cond (hdS shp_ddiref47_unused_L35 t m) z none)) (t_ddiref47_unused_L35 (gL [t 0] 0) (gB (bxC (m.s 0)) 0) (gI (bxC (m.s 0)) 1) (gI (bxC (m.s 0)) 2) (gI (bxC (m.s 0)) 3) (gB (bxC (m.s 1)) 0) (gI (bxC (m.s 1)) 1) (gI (bxC (m.s 1)) 2) K FU (gI [t 12] 0)).symm)
def shp_ddiref47_unused : Shp := ⟨[(0, .one (.l (.sl 8))), (1, .one (.l (.sl 5))), (2, .st [(.l .b), (.l (.i .u64)), (.l (.i .u64)), (.l (.i .i64))]), (3, .st [(.l .b), (.l (.i .u64)), (.l (.i .u64)), (.l .b), (.l (.i .u64)), (.l (.i .u64))]), (4, .st [(.l .b), (.l (.i .u64)), (.l (.i .u64))])], []⟩
noncomputable def ddiref47_unused_i (v0 : List AV) (v1 : List AV) (v2_0 : Bool) (v2_1 : Int) (v2_2 : Int) (v2_3 : Int) (v3_0 : Bool) (v3_1 : Int) (v3_2 : Int) (v3_3 : Bool) (v3_4 : Int) (v3_5 : Int) (v4_0 : Bool) (v4_1 : Int) (v4_2 : Int) : Option Bool :=
  (ddiref47_unused_J4 v0 v1 v2_0 v2_1 v2_2 v2_3 v3_0 v3_1 v3_2 v3_3 v3_4 v3_5 v4_0 v4_1 v4_2 (fun v34 => (bif v34 then (some false) else (ddiref47_unused_L14 v0 v1 v2_0 v2_1 v2_2 v2_3 v4_0 v4_1 v4_2 (fun (_ : Unit) => (ddiref47_unused_L35 v0 v2_0 v2_1 v2_2 v2_3 v4_0 v4_1 v4_2 (fun (_ : Unit) => (some true)) FU (0 : Int))) FU (0 : Int)))))
noncomputable def ddiref47_unused := hull ddiref47_unused_i
theorem ddiref47_unused_eq : ddiref47_unused = ddiref47_unused_i := hull_eq _
noncomputable def a_ddiref47_unused : AC Bool :=
  .seq (.reg [.op ⟨(some 7), (.box (.t 2)), none⟩,
    .op ⟨(some 8), (.box (.t 3)), none⟩,
    .op ⟨(some 9), (.box (.t 4)), none⟩,
    .op ⟨(some 10), (.mv (.c (.bool false))), none⟩]) (.seq (.seq (.seq (.view [.sel [0, 1, 7, 8, 9] [0, 1, 2]]) (.sub (scOf a_ddiref47_unused_J4) s_ddiref47_unused_J4)) (.cond (.t 34) (.seq (.reg [.op ⟨(some 10), (.mv (.c (.bool false))), none⟩]) (.ret)) (.skip))) (.seq (.seq (.reg [.op ⟨(some 11), (.mv (.c (.int .i64 0))), none⟩]) (.block 0 (.seq (.view [.sel [0, 1, 7, 9, 11] [0, 1]]) (.sub (.loop (scOf a_ddiref47_unused_L14)) s_ddiref47_unused_L14)))) (.seq (.seq (.reg [.op ⟨(some 12), (.mv (.c (.int .i64 0))), none⟩]) (.block 2 (.seq (.view [.sel [0, 7, 9, 12] [0, 1]]) (.sub (.loop (scOf a_ddiref47_unused_L35)) s_ddiref47_unused_L35)))) (.seq (.reg [.op ⟨(some 10), (.mv (.c (.bool true))), none⟩]) (.ret)))))
theorem ok_ddiref47_unused : AC.ok Try.prog (TIof Try.prog) 72 0 (kret [(.t 10)] dec_ddiref47_unused) a_ddiref47_unused := (And.intro True.intro (And.intro (And.intro (And.intro True.intro o_ddiref47_unused_J4) (And.intro (And.intro True.intro True.intro) True.intro)) (And.intro (And.intro True.intro (And.intro True.intro o_ddiref47_unused_L14)) (And.intro (And.intro True.intro (And.intro True.intro o_ddiref47_unused_L35)) (And.intro True.intro True.intro)))))
theorem t_ddiref47_unused (v0 : List AV) (v1 : List AV) (v2_0 : Bool) (v2_1 : Int) (v2_2 : Int) (v2_3 : Int) (v3_0 : Bool) (v3_1 : Int) (v3_2 : Int) (v3_3 : Bool) (v3_4 : Int) (v3_5 : Int) (v4_0 : Bool) (v4_1 : Int) (v4_2 : Int) : den 0 (kret [(.t 10)] dec_ddiref47_unused) a_ddiref47_unused (envOf [(0, (.sl 8 v0)), (1, (.sl 5 v1)), (2, (.agg [(.bool v2_0), (.int .u64 v2_1), (.int .u64 v2_2), (.int .i64 v2_3)])), (3, (.agg [(.bool v3_0), (.int .u64 v3_1), (.int .u64 v3_2), (.bool v3_3), (.int .u64 v3_4), (.int .u64 v3_5)])), (4, (.agg [(.bool v4_0), (.int .u64 v4_1), (.int .u64 v4_2)]))]) (memOf []) (kend (kret [(.t 10)] dec_ddiref47_unused)) = ddiref47_unused v0 v1 v2_0 v2_1 v2_2 v2_3 v3_0 v3_1 v3_2 v3_3 v3_4 v3_5 v4_0 v4_1 v4_2 := by
  rw [ddiref47_unused_eq]; kernel_rfl
theorem c_ddiref47_unused : cFn (TIof Try.prog) Try.f39 = some ⟨72, [(.t 10)], scOf a_ddiref47_unused⟩ := by kernel_rfl
noncomputable def ent_ddiref47_unused {R : Type} (xs : List AV) (K : AV → Option R) : Option R := chk (fitS shp_ddiref47_unused (entry xs) Mem.none) (oB (ddiref47_unused (gL [(entry xs) 0] 0) (gL [(entry xs) 1] 0) (gB ((entry xs) 2).cells 0) (gI ((entry xs) 2).cells 1) (gI ((entry xs) 2).cells 2) (gI ((entry xs) 2).cells 3) (gB ((entry xs) 3).cells 0) (gI ((entry xs) 3).cells 1) (gI ((entry xs) 3).cells 2) (gB ((entry xs) 3).cells 3) (gI ((entry xs) 3).cells 4) (gI ((entry xs) 3).cells 5) (gB ((entry xs) 4).cells 0) (gI ((entry xs) 4).cells 1) (gI ((entry xs) 4).cells 2)) fun r => K (enc_ddiref47_unused r))
theorem k_ddiref47_unused {R : Type} : EntOkB Try.prog 39 (ent_ddiref47_unused (R := R)) :=
  ent_of (F := fun xs => ddiref47_unused (gL [(entry xs) 0] 0) (gL [(entry xs) 1] 0) (gB ((entry xs) 2).cells 0) (gI ((entry xs) 2).cells 1) (gI ((entry xs) 2).cells 2) (gI ((entry xs) 2).cells 3) (gB ((entry xs) 3).cells 0) (gI ((entry xs) 3).cells 1) (gI ((entry xs) 3).cells 2) (gB ((entry xs) 3).cells 3) (gI ((entry xs) 3).cells 4) (gI ((entry xs) 3).cells 5) (gB ((entry xs) 4).cells 0) (gI ((entry xs) 4).cells 1) (gI ((entry xs) 4).cells 2)) (enc := enc_ddiref47_unused) tabOk follows Try.func39 (by kernel_rfl) c_ddiref47_unused (fun z r h => by
    obtain ⟨h1, h2⟩ := cond_some h
    cases h2
    exact (etaRV_eq h1).symm) ok_ddiref47_unused (er_of (by kernel_rfl)) shp_ddiref47_unused (fun xs => t_ddiref47_unused (gL [(entry xs) 0] 0) (gL [(entry xs) 1] 0) (gB ((entry xs) 2).cells 0) (gI ((entry xs) 2).cells 1) (gI ((entry xs) 2).cells 2) (gI ((entry xs) 2).cells 3) (gB ((entry xs) 3).cells 0) (gI ((entry xs) 3).cells 1) (gI ((entry xs) 3).cells 2) (gB ((entry xs) 3).cells 3) (gI ((entry xs) 3).cells 4) (gI ((entry xs) 3).cells 5) (gB ((entry xs) 4).cells 0) (gI ((entry xs) 4).cells 1) (gI ((entry xs) 4).cells 2)) (fun xs K r h => by
    unfold ent_ddiref47_unused at h
    exact ⟨(chk_some h).1, oB_some (chk_some h).2⟩)

/-! ddi/ddiref02.Add -/
def dec_ddiref02_Add (z : AV) : Option (AV × Bool) := cond (fitTup [(.st [.b, (.i .u64), (.i .u64)]), (.one .b)] z) (some ((gC (tpL z) 0), aB (gC (tpL z) 1))) none
def enc_ddiref02_Add (r : AV × Bool) : AV := .tup [etaRV (.st [.b, (.i .u64), (.i .u64)]) r.1, .bool r.2]
def shp_ddiref02_Add : Shp := ⟨[(0, .st [(.l .b), (.l (.i .u64)), (.l (.i .u64))]), (1, .one (.l (.i .u64)))], []⟩
noncomputable def ddiref02_Add_i (v0_0 : Bool) (v0_1 : Int) (v0_2 : Int) (v1 : Int) : Option (AV × Bool) :=
  (oB (ddiref02_Valid v0_0 v0_1 v0_2) fun r1 => (bif (!r1) then (some ((.agg [(.bool false), (.int .u64 (0 : Int)), (.int .u64 (0 : Int))]), false)) else (bif (!v0_0) then (bif (decide (v1 > (IntKind.u64.wrap ((4294967295 : Int) - v0_2)))) then (some ((.agg [(.bool false), (.int .u64 (0 : Int)), (.int .u64 (0 : Int))]), false)) else (some ((.agg [(.bool false), (.int .u64 (0 : Int)), (.int .u64 (IntKind.u64.wrap (v0_2 + v1)))]), true))) else (bif (decide ((IntKind.u64.wrap (v0_2 + v1)) < v0_2)) then (bif (v0_1 == (18446744073709551615 : Int)) then (some ((.agg [(.bool false), (.int .u64 (0 : Int)), (.int .u64 (0 : Int))]), false)) else (some ((.agg [(.bool true), (.int .u64 (IntKind.u64.wrap (v0_1 + (1 : Int)))), (.int .u64 (IntKind.u64.wrap (v0_2 + v1)))]), true))) else (some ((.agg [(.bool true), (.int .u64 v0_1), (.int .u64 (IntKind.u64.wrap (v0_2 + v1)))]), true))))))
noncomputable def ddiref02_Add := hull ddiref02_Add_i
theorem ddiref02_Add_eq : ddiref02_Add = ddiref02_Add_i := hull_eq _
noncomputable def a_ddiref02_Add : AC (AV × Bool) :=
  .seq (.reg [.op ⟨(some 2), (.box (.t 0)), none⟩,
    .op ⟨(some 4), (.alloc [(.bool false), (.int .u64 0), (.int .u64 0)]), none⟩,
    .op ⟨(some 5), (.mv (.c (.bool false))), none⟩]) (.seq (.seq (.reg [.op ⟨(some 7), (.load true 3 (.t 2)), none⟩,
    .call ⟨(some 8), (.call 74 [(.t 7)]), none⟩ 74 ent_ddiref02_Valid,
    .op ⟨(some 9), (.un .not (.t 8)), none⟩]) (.cond (.t 9) (.seq (.reg [.op ⟨(some 10), (.build [(.bool false), (.int .u64 0), (.int .u64 0)] []), none⟩,
    .op ⟨none, (.store 3 (.t 4) (.t 10)), none⟩,
    .op ⟨(some 5), (.mv (.c (.bool false))), none⟩]) (.ret)) (.skip))) (.seq (.seq (.reg [.op ⟨(some 11), (.fa 0 (.t 2)), none⟩,
    .op ⟨(some 12), (.load false 1 (.t 11)), none⟩,
    .op ⟨(some 13), (.un .not (.t 12)), none⟩]) (.cond (.t 13) (.seq (.seq (.reg [.op ⟨(some 14), (.mv (.t 1)), none⟩,
    .op ⟨(some 15), (.fa 2 (.t 2)), none⟩,
    .op ⟨(some 16), (.load false 1 (.t 15)), none⟩,
    .op ⟨(some 17), (.bin .sub (.c (.int .u64 4294967295)) (.t 16)), none⟩,
    .op ⟨(some 18), (.bin .gtr (.t 14) (.t 17)), none⟩]) (.cond (.t 18) (.seq (.reg [.op ⟨(some 19), (.build [(.bool false), (.int .u64 0), (.int .u64 0)] []), none⟩,
    .op ⟨none, (.store 3 (.t 4) (.t 19)), none⟩,
    .op ⟨(some 5), (.mv (.c (.bool false))), none⟩]) (.ret)) (.skip))) (.seq (.reg [.op ⟨(some 20), (.fa 2 (.t 2)), none⟩,
    .op ⟨(some 21), (.load false 1 (.t 20)), none⟩,
    .op ⟨(some 22), (.mv (.t 1)), none⟩,
    .op ⟨(some 23), (.bin .add (.t 21) (.t 22)), none⟩,
    .op ⟨(some 24), (.build [(.bool false), (.int .u64 0), (.int .u64 0)] [(2, (1, (.t 23)))]), none⟩,
    .op ⟨none, (.store 3 (.t 4) (.t 24)), none⟩,
    .op ⟨(some 5), (.mv (.c (.bool true))), none⟩]) (.ret))) (.skip))) (.seq (.reg [.op ⟨(some 25), (.fa 1 (.t 2)), none⟩,
    .op ⟨(some 26), (.load false 1 (.t 25)), none⟩,
    .op ⟨(some 27), (.fa 2 (.t 2)), none⟩,
    .op ⟨(some 28), (.load false 1 (.t 27)), none⟩,
    .op ⟨(some 29), (.mv (.t 1)), none⟩,
    .op ⟨(some 30), (.bin .add (.t 28) (.t 29)), none⟩,
    .op ⟨(some 31), (.build [(.bool false), (.int .u64 0), (.int .u64 0)] [(0, (1, (.c (.bool true)))), (1, (1, (.t 26))), (2, (1, (.t 30)))]), none⟩,
    .op ⟨(some 6), (.alloc [(.bool false), (.int .u64 0), (.int .u64 0)]), none⟩,
    .op ⟨none, (.store 3 (.t 6) (.t 31)), none⟩]) (.seq (.seq (.reg [.op ⟨(some 32), (.fa 2 (.t 6)), none⟩,
    .op ⟨(some 33), (.load false 1 (.t 32)), none⟩,
    .op ⟨(some 34), (.fa 2 (.t 2)), none⟩,
    .op ⟨(some 35), (.load false 1 (.t 34)), none⟩,
    .op ⟨(some 36), (.bin .lss (.t 33) (.t 35)), none⟩]) (.cond (.t 36) (.seq (.seq (.reg [.op ⟨(some 37), (.fa 1 (.t 2)), none⟩,
    .op ⟨(some 38), (.load false 1 (.t 37)), none⟩,
    .op ⟨(some 39), (.bin .eql (.t 38) (.c (.int .u64 18446744073709551615))), none⟩]) (.cond (.t 39) (.seq (.reg [.op ⟨(some 40), (.build [(.bool false), (.int .u64 0), (.int .u64 0)] []), none⟩,
    .op ⟨none, (.store 3 (.t 4) (.t 40)), none⟩,
    .op ⟨(some 5), (.mv (.c (.bool false))), none⟩]) (.ret)) (.skip))) (.reg [.op ⟨(some 41), (.fa 1 (.t 2)), none⟩,
    .op ⟨(some 42), (.load false 1 (.t 41)), none⟩,
    .op ⟨(some 43), (.bin .add (.t 42) (.c (.int .u64 1))), none⟩,
    .op ⟨(some 44), (.fa 1 (.t 6)), none⟩,
    .op ⟨none, (.store 1 (.t 44) (.t 43)), none⟩])) (.skip))) (.seq (.reg [.op ⟨(some 45), (.load true 3 (.t 6)), none⟩,
    .op ⟨none, (.store 3 (.t 4) (.t 45)), none⟩,
    .op ⟨(some 5), (.mv (.c (.bool true))), none⟩]) (.ret))))))
theorem ok_ddiref02_Add : AC.ok Try.prog (TIof Try.prog) 46 0 (kret [(.cell 4 true 3), (.t 5)] dec_ddiref02_Add) a_ddiref02_Add := (And.intro True.intro (And.intro (And.intro (And.intro (EntOkB.ok k_ddiref02_Valid) True.intro) (And.intro (And.intro True.intro True.intro) True.intro)) (And.intro (And.intro True.intro (And.intro (And.intro (And.intro True.intro (And.intro (And.intro True.intro True.intro) True.intro)) (And.intro True.intro True.intro)) True.intro)) (And.intro True.intro (And.intro (And.intro True.intro (And.intro (And.intro (And.intro True.intro (And.intro (And.intro True.intro True.intro) True.intro)) True.intro) True.intro)) (And.intro True.intro True.intro))))))
theorem t_ddiref02_Add (v0_0 : Bool) (v0_1 : Int) (v0_2 : Int) (v1 : Int) : den 0 (kret [(.cell 4 true 3), (.t 5)] dec_ddiref02_Add) a_ddiref02_Add (envOf [(0, (.agg [(.bool v0_0), (.int .u64 v0_1), (.int .u64 v0_2)])), (1, (.int .u64 v1))]) (memOf []) (kend (kret [(.cell 4 true 3), (.t 5)] dec_ddiref02_Add)) = ddiref02_Add v0_0 v0_1 v0_2 v1 := by
  rw [ddiref02_Add_eq]; kernel_rfl
theorem c_ddiref02_Add : cFn (TIof Try.prog) Try.f40 = some ⟨46, [(.cell 4 true 3), (.t 5)], scOf a_ddiref02_Add⟩ := by kernel_rfl
noncomputable def ent_ddiref02_Add {R : Type} (xs : List AV) (K : AV → Option R) : Option R := chk (fitS shp_ddiref02_Add (entry xs) Mem.none) (oB (ddiref02_Add (gB ((entry xs) 0).cells 0) (gI ((entry xs) 0).cells 1) (gI ((entry xs) 0).cells 2) (gI [(entry xs) 1] 0)) fun r => K (enc_ddiref02_Add r))
theorem k_ddiref02_Add {R : Type} : EntOkB Try.prog 40 (ent_ddiref02_Add (R := R)) :=
  ent_of (F := fun xs => ddiref02_Add (gB ((entry xs) 0).cells 0) (gI ((entry xs) 0).cells 1) (gI ((entry xs) 0).cells 2) (gI [(entry xs) 1] 0)) (enc := enc_ddiref02_Add) tabOk follows Try.func40 (by kernel_rfl) c_ddiref02_Add (fun z r h => by
    obtain ⟨h1, h2⟩ := cond_some h
    cases h2
    exact (fitTup_eq h1).symm) ok_ddiref02_Add (er_of (by kernel_rfl)) shp_ddiref02_Add (fun xs => t_ddiref02_Add (gB ((entry xs) 0).cells 0) (gI ((entry xs) 0).cells 1) (gI ((entry xs) 0).cells 2) (gI [(entry xs) 1] 0)) (fun xs K r h => by
    unfold ent_ddiref02_Add at h
    exact ⟨(chk_some h).1, oB_some (chk_some h).2⟩)

/-! ddi/ddiref47.Address -/
def dec_ddiref47_Address (z : AV) : Option (AV × Int) := cond (fitTup [(.st [.b, (.i .u64), (.i .u64)]), (.one (.i .i64))] z) (some ((gC (tpL z) 0), aI (gC (tpL z) 1))) none
def enc_ddiref47_Address (r : AV × Int) : AV := .tup [etaRV (.st [.b, (.i .u64), (.i .u64)]) r.1, .int .i64 r.2]
def shp_ddiref47_Address_L28 : Shp := ⟨[(0, .one (.l (.sl 8))), (1, .one (.l (.sl 5))), (5, .one (.ptr 0 0)), (6, .one (.ptr 1 0)), (10, .one (.ptr 2 0)), (12, .one (.ptr 3 0)), (13, .one (.l (.i .i64)))], [.box true [(.l .b), (.l (.i .u64)), (.l (.i .u64)), (.l (.i .i64))], .box true [(.l .b), (.l (.i .u64)), (.l (.i .u64))], .box true [(.l .b), (.l (.i .u64)), (.l (.i .u64)), (.l .b), (.l (.i .u64)), (.l (.i .u64))], .box true [(.l .b), (.l (.i .u64)), (.l (.i .u64))]]⟩
noncomputable def ddiref47_Address_L28_b  (v0 : List AV) (v1 : List AV) (v13 : Int) (b0_0 : Bool) (b0_1 : Int) (b0_2 : Int) (b0_3 : Int) (b1_0 : Bool) (b1_1 : Int) (b1_2 : Int) (b2_0 : Bool) (b2_1 : Int) (b2_2 : Int) (b2_3 : Bool) (b2_4 : Int) (b2_5 : Int) (b3_0 : Bool) (b3_1 : Int) (b3_2 : Int) (next : Int → Bool → Int → Int → Option (AV × Int)) (kx0 : Unit → Option (AV × Int)) : Option (AV × Int) :=
  (bif (decide (v13 ≤ (IntKind.i64.wrap ((IntKind.i64.wrap ((v0.length : Int) + (v1.length : Int))) + (2 : Int))))) then (oB (ddiref47_unused v0 v1 b0_0 b0_1 b0_2 b0_3 b2_0 b2_1 b2_2 b2_3 b2_4 b2_5 b3_0 b3_1 b3_2) fun r1 => (bif r1 then (some ((.agg [(.bool b3_0), (.int .u64 b3_1), (.int .u64 b3_2)]), (0 : Int))) else (bif ((b3_0 == b2_3) && ((b3_1 == b2_4) && ((b3_2 == b2_5) && true))) then (some ((.agg [(.bool false), (.int .u64 (0 : Int)), (.int .u64 (0 : Int))]), (22 : Int))) else (oB (ddiref02_Add b3_0 b3_1 b3_2 (1 : Int)) fun r2 => (next (IntKind.i64.wrap (v13 + (1 : Int))) (gB r2.1.cells 0) (gI r2.1.cells 1) (gI r2.1.cells 2)))))) else (kx0 ()))
noncomputable def ddiref47_Address_L28_i  (v0 : List AV) (v1 : List AV) (b0_0 : Bool) (b0_1 : Int) (b0_2 : Int) (b0_3 : Int) (b1_0 : Bool) (b1_1 : Int) (b1_2 : Int) (b2_0 : Bool) (b2_1 : Int) (b2_2 : Int) (b2_3 : Bool) (b2_4 : Int) (b2_5 : Int) (kx0 : Unit → Option (AV × Int)) : Nat → Int → Bool → Int → Int → Option (AV × Int)
  | 0 => (fun _ _ _ _ => none)
  | n + 1 => (fun v13 b3_0 b3_1 b3_2 => ddiref47_Address_L28_b v0 v1 v13 b0_0 b0_1 b0_2 b0_3 b1_0 b1_1 b1_2 b2_0 b2_1 b2_2 b2_3 b2_4 b2_5 b3_0 b3_1 b3_2 (ddiref47_Address_L28_i v0 v1 b0_0 b0_1 b0_2 b0_3 b1_0 b1_1 b1_2 b2_0 b2_1 b2_2 b2_3 b2_4 b2_5 kx0 n) kx0)
noncomputable def ddiref47_Address_L28 := hull (ddiref47_Address_L28_i)
theorem ddiref47_Address_L28_eq : ddiref47_Address_L28 = ddiref47_Address_L28_i := hull_eq _
noncomputable def a_ddiref47_Address_L28 : AC (AV × Int) :=
  .seq (.seq (.reg [.op ⟨(some 34), (.mv (.t 13)), none⟩,
    .op ⟨(some 35), (.mv (.t 0)), none⟩,
    .op ⟨(some 36), (.len false (.t 35)), none⟩,
    .op ⟨(some 37), (.mv (.t 1)), none⟩,
    .op ⟨(some 38), (.len false (.t 37)), none⟩,
    .op ⟨(some 39), (.bin .add (.t 36) (.t 38)), none⟩,
    .op ⟨(some 40), (.bin .add (.t 39) (.c (.int .i64 2))), none⟩,
    .op ⟨(some 41), (.bin .leq (.t 34) (.t 40)), none⟩]) (.cond (.t 41) (.skip) (.seq (.view [.sel [6] [1]]) (.exit 0)))) (.seq (.block 1 (.seq (.seq (.reg [.op ⟨(some 44), (.mv (.t 0)), none⟩,
    .op ⟨(some 45), (.mv (.t 1)), none⟩,
    .op ⟨(some 46), (.load true 4 (.t 5)), none⟩,
    .op ⟨(some 47), (.load true 6 (.t 10)), none⟩,
    .op ⟨(some 48), (.load true 3 (.t 12)), none⟩,
    .call ⟨(some 49), (.call 39 [(.t 44), (.t 45), (.t 46), (.t 47), (.t 48)]), none⟩ 39 ent_ddiref47_unused]) (.cond (.t 49) (.seq (.reg [.op ⟨(some 50), (.load true 3 (.t 12)), none⟩,
    .op ⟨none, (.store 3 (.t 6) (.t 50)), none⟩,
    .op ⟨(some 7), (.mv (.c (.int .i64 0))), none⟩]) (.ret)) (.skip))) (.seq (.seq (.reg [.op ⟨(some 51), (.load true 3 (.t 12)), none⟩,
    .op ⟨(some 52), (.fa 3 (.t 10)), none⟩,
    .op ⟨(some 53), (.load true 3 (.t 52)), none⟩,
    .op ⟨(some 54), (.eq false true [.b, (.i .u64), (.i .u64)] (.t 51) (.t 53)), none⟩]) (.cond (.t 54) (.seq (.reg [.op ⟨(some 55), (.build [(.bool false), (.int .u64 0), (.int .u64 0)] []), none⟩,
    .op ⟨none, (.store 3 (.t 6) (.t 55)), none⟩,
    .op ⟨(some 7), (.mv (.c (.int .i64 22))), none⟩]) (.ret)) (.skip))) (.reg [.op ⟨(some 57), (.load true 3 (.t 12)), none⟩,
    .call ⟨(some 58), (.call 40 [(.t 57), (.c (.int .u64 1))]), none⟩ 40 ent_ddiref02_Add,
    .op ⟨(some 56), (.mv (.t 58)), none⟩,
    .op ⟨(some 59), (.ext (.t 56) 0), none⟩,
    .op ⟨(some 60), (.ext (.t 56) 1), none⟩,
    .op ⟨none, (.store 3 (.t 12) (.t 59)), none⟩])))) (.seq (.reg [.op ⟨(some 42), (.mv (.t 13)), none⟩,
    .op ⟨(some 43), (.bin .add (.t 42) (.c (.int .i64 1))), none⟩,
    .op ⟨(some 13), (.mv (.t 43)), none⟩]) (.view [.sel [0, 1, 5, 6, 10, 12, 13] [0, 1, 2, 3]])))
theorem ok_ddiref47_Address_L28 : AC.ok Try.prog (TIof Try.prog) 62 0 (kret [(.cell 6 true 3), (.t 7)] dec_ddiref47_Address) a_ddiref47_Address_L28 := (And.intro (And.intro True.intro (And.intro True.intro (And.intro True.intro True.intro))) (And.intro (And.intro (And.intro (And.intro (EntOkB.ok k_ddiref47_unused) True.intro) (And.intro (And.intro True.intro True.intro) True.intro)) (And.intro (And.intro True.intro (And.intro (And.intro True.intro True.intro) True.intro)) (And.intro (EntOkB.ok k_ddiref02_Add) True.intro))) (And.intro True.intro True.intro)))
theorem t_ddiref47_Address_L28_b (v0 : List AV) (v1 : List AV) (v13 : Int) (b0_0 : Bool) (b0_1 : Int) (b0_2 : Int) (b0_3 : Int) (b1_0 : Bool) (b1_1 : Int) (b1_2 : Int) (b2_0 : Bool) (b2_1 : Int) (b2_2 : Int) (b2_3 : Bool) (b2_4 : Int) (b2_5 : Int) (b3_0 : Bool) (b3_1 : Int) (b3_2 : Int) (K : Ex → Env → Mem → Option (AV × Int)) : den 0 (kret [(.cell 6 true 3), (.t 7)] dec_ddiref47_Address) a_ddiref47_Address_L28 (envOf [(0, (.sl 8 v0)), (1, (.sl 5 v1)), (5, (.ptr 0 0)), (6, (.ptr 1 0)), (10, (.ptr 2 0)), (12, (.ptr 3 0)), (13, (.int .i64 v13))]) (memOf [(some (.box true [(.bool b0_0), (.int .u64 b0_1), (.int .u64 b0_2), (.int .i64 b0_3)])), (some (.box true [(.bool b1_0), (.int .u64 b1_1), (.int .u64 b1_2)])), (some (.box true [(.bool b2_0), (.int .u64 b2_1), (.int .u64 b2_2), (.bool b2_3), (.int .u64 b2_4), (.int .u64 b2_5)])), (some (.box true [(.bool b3_0), (.int .u64 b3_1), (.int .u64 b3_2)]))]) K = ddiref47_Address_L28_b v0 v1 v13 b0_0 b0_1 b0_2 b0_3 b1_0 b1_1 b1_2 b2_0 b2_1 b2_2 b2_3 b2_4 b2_5 b3_0 b3_1 b3_2 (fun z_v13 z_b3_0 z_b3_1 z_b3_2 => K .norm (envOf [(0, (.sl 8 v0)), (1, (.sl 5 v1)), (5, (.ptr 0 0)), (6, (.ptr 1 0)), (10, (.ptr 2 0)), (12, (.ptr 3 0)), (13, (.int .i64 z_v13))]) (memOf [(some (.box true [(.bool b0_0), (.int .u64 b0_1), (.int .u64 b0_2), (.int .i64 b0_3)])), (some (.box true [(.bool b1_0), (.int .u64 b1_1), (.int .u64 b1_2)])), (some (.box true [(.bool b2_0), (.int .u64 b2_1), (.int .u64 b2_2), (.bool b2_3), (.int .u64 b2_4), (.int .u64 b2_5)])), (some (.box true [(.bool z_b3_0), (.int .u64 z_b3_1), (.int .u64 z_b3_2)]))])) (fun _ => K (.exit 0) (envOf [(6, (.ptr 0 0))]) (memOf [(some (.box true [(.bool b1_0), (.int .u64 b1_1), (.int .u64 b1_2)]))])) := by kernel_rfl
theorem t_ddiref47_Address_L28 (v0 : List AV) (v1 : List AV) (b0_0 : Bool) (b0_1 : Int) (b0_2 : Int) (b0_3 : Int) (b1_0 : Bool) (b1_1 : Int) (b1_2 : Int) (b2_0 : Bool) (b2_1 : Int) (b2_2 : Int) (b2_3 : Bool) (b2_4 : Int) (b2_5 : Int) (K : Ex → Env → Mem → Option (AV × Int)) : ∀ (n : Nat) (v13 : Int) (b3_0 : Bool) (b3_1 : Int) (b3_2 : Int), iterD (den 0 (kret [(.cell 6 true 3), (.t 7)] dec_ddiref47_Address) a_ddiref47_Address_L28) n (envOf [(0, (.sl 8 v0)), (1, (.sl 5 v1)), (5, (.ptr 0 0)), (6, (.ptr 1 0)), (10, (.ptr 2 0)), (12, (.ptr 3 0)), (13, (.int .i64 v13))]) (memOf [(some (.box true [(.bool b0_0), (.int .u64 b0_1), (.int .u64 b0_2), (.int .i64 b0_3)])), (some (.box true [(.bool b1_0), (.int .u64 b1_1), (.int .u64 b1_2)])), (some (.box true [(.bool b2_0), (.int .u64 b2_1), (.int .u64 b2_2), (.bool b2_3), (.int .u64 b2_4), (.int .u64 b2_5)])), (some (.box true [(.bool b3_0), (.int .u64 b3_1), (.int .u64 b3_2)]))]) K = ddiref47_Address_L28 v0 v1 b0_0 b0_1 b0_2 b0_3 b1_0 b1_1 b1_2 b2_0 b2_1 b2_2 b2_3 b2_4 b2_5 (fun _ => K (.exit 0) (envOf [(6, (.ptr 0 0))]) (memOf [(some (.box true [(.bool b1_0), (.int .u64 b1_1), (.int .u64 b1_2)]))])) n v13 b3_0 b3_1 b3_2 := by
  rw [ddiref47_Address_L28_eq]
  intro n
  induction n with
  | zero => intros; rfl
  | succ n ih =>
    intro v13 b3_0 b3_1 b3_2
    exact (t_ddiref47_Address_L28_b v0 v1 v13 b0_0 b0_1 b0_2 b0_3 b1_0 b1_1 b1_2 b2_0 b2_1 b2_2 b2_3 b2_4 b2_5 b3_0 b3_1 b3_2 (itK (den 0 (kret [(.cell 6 true 3), (.t 7)] dec_ddiref47_Address) a_ddiref47_Address_L28) n K)).trans (congrArg (fun q => ddiref47_Address_L28_b v0 v1 v13 b0_0 b0_1 b0_2 b0_3 b1_0 b1_1 b1_2 b2_0 b2_1 b2_2 b2_3 b2_4 b2_5 b3_0 b3_1 b3_2 q (fun _ => K (.exit 0) (envOf [(6, (.ptr 0 0))]) (memOf [(some (.box true [(.bool b1_0), (.int .u64 b1_1), (.int .u64 b1_2)]))]))) (funext fun v13 => funext fun b3_0 => funext fun b3_1 => funext fun b3_2 => ih v13 b3_0 b3_1 b3_2))
noncomputable def s_ddiref47_Address_L28 : Env → Mem → (Ex → Env → Mem → Option (AV × Int)) → Option (AV × Int) := fun t m K => chk (fitS0 shp_ddiref47_Address_L28 t m) (cond (hdS shp_ddiref47_Address_L28 t m) (ddiref47_Address_L28 (gL [t 0] 0) (gL [t 1] 0) (gB (bxC (m.s 0)) 0) (gI (bxC (m.s 0)) 1) (gI (bxC (m.s 0)) 2) (gI (bxC (m.s 0)) 3) (gB (bxC (m.s 1)) 0) (gI (bxC (m.s 1)) 1) (gI (bxC (m.s 1)) 2) (gB (bxC (m.s 2)) 0) (gI (bxC (m.s 2)) 1) (gI (bxC (m.s 2)) 2) (gB (bxC (m.s 2)) 3) (gI (bxC (m.s 2)) 4) (gI (bxC (m.s 2)) 5) (fun _ => K (.exit 0) (envOf [(6, (.ptr 0 0))]) (memOf [(some (.box true [(.bool (gB (bxC (m.s 1)) 0)), (.int .u64 (gI (bxC (m.s 1)) 1)), (.int .u64 (gI (bxC (m.s 1)) 2))]))])) FU (gI [t 13] 0) (gB (bxC (m.s 3)) 0) (gI (bxC (m.s 3)) 1) (gI (bxC (m.s 3)) 2)) none)
theorem o_ddiref47_Address_L28 : SubOk Try.prog (TIof Try.prog) 62 0 (kret [(.cell 6 true 3), (.t 7)] dec_ddiref47_Address) (.loop (scOf a_ddiref47_Address_L28)) s_ddiref47_Address_L28 :=
  loop_of tabOk follows ok_ddiref47_Address_L28 (er_of (by kernel_rfl)) shp_ddiref47_Address_L28 (fun t m K => congrArg (fun z => chk (fitS0 shp_ddiref47_Address_L28 t m) (cond (hdS shp_ddiref47_Address_L28 t m) z none)) (t_ddiref47_Address_L28 (gL [t 0] 0) (gL [t 1] 0) (gB (bxC (m.s 0)) 0) (gI (bxC (m.s 0)) 1) (gI (bxC (m.s 0)) 2) (gI (bxC (m.s 0)) 3) (gB (bxC (m.s 1)) 0) (gI (bxC (m.s 1)) 1) (gI (bxC (m.s 1)) 2) (gB (bxC (m.s 2)) 0) (gI (bxC (m.s 2)) 1) (gI (bxC (m.s 2)) 2) (gB (bxC (m.s 2)) 3) (gI (bxC (m.s 2)) 4) (gI (bxC (m.s 2)) 5) K FU (gI [t 13] 0) (gB (bxC (m.s 3)) 0) (gI (bxC (m.s 3)) 1) (gI (bxC (m.s 3)) 2)).symm)
def shp_ddiref47_Address : Shp := ⟨[(0, .one (.l (.sl 8))), (1, .one (.l (.sl 5))), (2, .st [(.l .b), (.l (.i .u64)), (.l (.i .u64)), (.l (.i .i64))])], []⟩
noncomputable def ddiref47_Address_i (v0 : List AV) (v1 : List AV) (v2_0 : Bool) (v2_1 : Int) (v2_2 : Int) (v2_3 : Int) : Option (AV × Int) :=
  (oB (ddiref46_Find v0 v2_0 v2_1 v2_2 v2_3) fun r1 => (bif (!r1.2) then (some ((.agg [(.bool false), (.int .u64 (0 : Int)), (.int .u64 (0 : Int))]), (11 : Int))) else (bif ((gI r1.1.cells 4) != (2 : Int)) then (some ((.agg [(.bool false), (.int .u64 (0 : Int)), (.int .u64 (0 : Int))]), (21 : Int))) else (oB (ddiref03_Bounds v2_0 v2_1 v2_2 v2_3) fun r2 => (ddiref47_Address_L28 v0 v1 v2_0 v2_1 v2_2 v2_3 false (0 : Int) (0 : Int) (gB r2.1.cells 0) (gI r2.1.cells 1) (gI r2.1.cells 2) (gB r2.1.cells 3) (gI r2.1.cells 4) (gI r2.1.cells 5) (fun (_ : Unit) => (some ((.agg [(.bool false), (.int .u64 (0 : Int)), (.int .u64 (0 : Int))]), (22 : Int)))) FU (0 : Int) (gB r2.1.cells 0) (gI r2.1.cells 1) (gI r2.1.cells 2))))))
noncomputable def ddiref47_Address := hull ddiref47_Address_i
theorem ddiref47_Address_eq : ddiref47_Address = ddiref47_Address_i := hull_eq _
noncomputable def a_ddiref47_Address : AC (AV × Int) :=
  .seq (.reg [.op ⟨(some 5), (.box (.t 2)), none⟩,
    .op ⟨(some 6), (.alloc [(.bool false), (.int .u64 0), (.int .u64 0)]), none⟩,
    .op ⟨(some 7), (.mv (.c (.int .i64 0))), none⟩]) (.seq (.reg [.op ⟨(some 15), (.mv (.t 0)), none⟩,
    .op ⟨(some 16), (.load true 4 (.t 5)), none⟩,
    .call ⟨(some 17), (.call 37 [(.t 15), (.t 16)]), none⟩ 37 ent_ddiref46_Find,
    .op ⟨(some 14), (.mv (.t 17)), none⟩,
    .op ⟨(some 18), (.ext (.t 14) 0), none⟩,
    .op ⟨(some 19), (.ext (.t 14) 1), none⟩,
    .op ⟨(some 8), (.alloc [(.bool false), (.int .u64 0), (.int .u64 0), (.int .i64 0), (.int .i64 0), (.str []), (.str []), (.int .i64 0)]), none⟩,
    .op ⟨none, (.store 8 (.t 8) (.t 18)), none⟩,
    .op ⟨(some 9), (.mv (.t 19)), none⟩]) (.seq (.seq (.reg [.op ⟨(some 20), (.mv (.t 9)), none⟩,
    .op ⟨(some 21), (.un .not (.t 20)), none⟩]) (.cond (.t 21) (.seq (.reg [.op ⟨(some 22), (.build [(.bool false), (.int .u64 0), (.int .u64 0)] []), none⟩,
    .op ⟨none, (.store 3 (.t 6) (.t 22)), none⟩,
    .op ⟨(some 7), (.mv (.c (.int .i64 11))), none⟩]) (.ret)) (.skip))) (.seq (.seq (.reg [.op ⟨(some 23), (.fa 4 (.t 8)), none⟩,
    .op ⟨(some 24), (.load false 1 (.t 23)), none⟩,
    .op ⟨(some 25), (.bin .neq (.t 24) (.c (.int .i64 2))), none⟩]) (.cond (.t 25) (.seq (.reg [.op ⟨(some 26), (.build [(.bool false), (.int .u64 0), (.int .u64 0)] []), none⟩,
    .op ⟨none, (.store 3 (.t 6) (.t 26)), none⟩,
    .op ⟨(some 7), (.mv (.c (.int .i64 21))), none⟩]) (.ret)) (.skip))) (.seq (.reg [.op ⟨(some 28), (.load true 4 (.t 5)), none⟩,
    .call ⟨(some 29), (.call 38 [(.t 28)]), none⟩ 38 ent_ddiref03_Bounds,
    .op ⟨(some 27), (.mv (.t 29)), none⟩,
    .op ⟨(some 30), (.ext (.t 27) 0), none⟩,
    .op ⟨(some 31), (.ext (.t 27) 1), none⟩,
    .op ⟨(some 10), (.alloc [(.bool false), (.int .u64 0), (.int .u64 0), (.bool false), (.int .u64 0), (.int .u64 0)]), none⟩,
    .op ⟨none, (.store 6 (.t 10) (.t 30)), none⟩,
    .op ⟨(some 11), (.mv (.t 31)), none⟩]) (.seq (.reg [.op ⟨(some 32), (.fa 0 (.t 10)), none⟩,
    .op ⟨(some 33), (.load true 3 (.t 32)), none⟩,
    .op ⟨(some 12), (.alloc [(.bool false), (.int .u64 0), (.int .u64 0)]), none⟩,
    .op ⟨none, (.store 3 (.t 12) (.t 33)), none⟩]) (.seq (.seq (.reg [.op ⟨(some 13), (.mv (.c (.int .i64 0))), none⟩]) (.block 0 (.seq (.view [.sel [0, 1, 5, 6, 10, 12, 13] [0, 1, 3, 4]]) (.sub (.loop (scOf a_ddiref47_Address_L28)) s_ddiref47_Address_L28)))) (.seq (.reg [.op ⟨(some 61), (.build [(.bool false), (.int .u64 0), (.int .u64 0)] []), none⟩,
    .op ⟨none, (.store 3 (.t 6) (.t 61)), none⟩,
    .op ⟨(some 7), (.mv (.c (.int .i64 22))), none⟩]) (.ret))))))))
theorem ok_ddiref47_Address : AC.ok Try.prog (TIof Try.prog) 62 0 (kret [(.cell 6 true 3), (.t 7)] dec_ddiref47_Address) a_ddiref47_Address := (And.intro True.intro (And.intro (And.intro (EntOkB.ok k_ddiref46_Find) True.intro) (And.intro (And.intro True.intro (And.intro (And.intro True.intro True.intro) True.intro)) (And.intro (And.intro True.intro (And.intro (And.intro True.intro True.intro) True.intro)) (And.intro (And.intro (EntOkB.ok k_ddiref03_Bounds) True.intro) (And.intro True.intro (And.intro (And.intro True.intro (And.intro True.intro o_ddiref47_Address_L28)) (And.intro True.intro True.intro))))))))
theorem t_ddiref47_Address (v0 : List AV) (v1 : List AV) (v2_0 : Bool) (v2_1 : Int) (v2_2 : Int) (v2_3 : Int) : den 0 (kret [(.cell 6 true 3), (.t 7)] dec_ddiref47_Address) a_ddiref47_Address (envOf [(0, (.sl 8 v0)), (1, (.sl 5 v1)), (2, (.agg [(.bool v2_0), (.int .u64 v2_1), (.int .u64 v2_2), (.int .i64 v2_3)]))]) (memOf []) (kend (kret [(.cell 6 true 3), (.t 7)] dec_ddiref47_Address)) = ddiref47_Address v0 v1 v2_0 v2_1 v2_2 v2_3 := by
  rw [ddiref47_Address_eq]; kernel_rfl
theorem c_ddiref47_Address : cFn (TIof Try.prog) Try.f13 = some ⟨62, [(.cell 6 true 3), (.t 7)], scOf a_ddiref47_Address⟩ := by kernel_rfl
noncomputable def ent_ddiref47_Address {R : Type} (xs : List AV) (K : AV → Option R) : Option R := chk (fitS shp_ddiref47_Address (entry xs) Mem.none) (oB (ddiref47_Address (gL [(entry xs) 0] 0) (gL [(entry xs) 1] 0) (gB ((entry xs) 2).cells 0) (gI ((entry xs) 2).cells 1) (gI ((entry xs) 2).cells 2) (gI ((entry xs) 2).cells 3)) fun r => K (enc_ddiref47_Address r))
theorem k_ddiref47_Address {R : Type} : EntOkB Try.prog 13 (ent_ddiref47_Address (R := R)) :=
  ent_of (F := fun xs => ddiref47_Address (gL [(entry xs) 0] 0) (gL [(entry xs) 1] 0) (gB ((entry xs) 2).cells 0) (gI ((entry xs) 2).cells 1) (gI ((entry xs) 2).cells 2) (gI ((entry xs) 2).cells 3)) (enc := enc_ddiref47_Address) tabOk follows Try.func13 (by kernel_rfl) c_ddiref47_Address (fun z r h => by
    obtain ⟨h1, h2⟩ := cond_some h
    cases h2
    exact (fitTup_eq h1).symm) ok_ddiref47_Address (er_of (by kernel_rfl)) shp_ddiref47_Address (fun xs => t_ddiref47_Address (gL [(entry xs) 0] 0) (gL [(entry xs) 1] 0) (gB ((entry xs) 2).cells 0) (gI ((entry xs) 2).cells 1) (gI ((entry xs) 2).cells 2) (gI ((entry xs) 2).cells 3)) (fun xs K r h => by
    unfold ent_ddiref47_Address at h
    exact ⟨(chk_some h).1, oB_some (chk_some h).2⟩)

/-! ddi/ddilaw47.AllocateAddresses -/
def dec_ddilaw47_AllocateAddresses (z : AV) : Option Bool := cond (fitRV (.one .b) z) (some (aB z)) none
def enc_ddilaw47_AllocateAddresses (r : Bool) : AV := .bool r
def shp_ddilaw47_AllocateAddresses_J14 : Shp := ⟨[(0, .one (.l (.sl 8))), (1, .one (.l (.sl 5))), (5, .one (.ptr 0 0)), (7, .one (.ptr 1 0))], [.box true [(.l .b), (.l (.i .u64)), (.l (.i .u64)), (.l (.i .i64))], .box true [(.l .b), (.l (.i .u64)), (.l (.i .u64))]]⟩
noncomputable def ddilaw47_AllocateAddresses_J14_i  (v0 : List AV) (v1 : List AV) (b0_0 : Bool) (b0_1 : Int) (b0_2 : Int) (b0_3 : Int) (b1_0 : Bool) (b1_1 : Int) (b1_2 : Int) (kn : Bool → Option Bool) : Option Bool :=
  (oB (ddilaw47_small v0) fun r1 => (bif ((!r1) || (decide ((v1.length : Int) > (60 : Int)))) then (kn true) else (oB (ddiref46_Check v0) fun r2 => (kn (r2 != (0 : Int))))))
noncomputable def ddilaw47_AllocateAddresses_J14 := hull (ddilaw47_AllocateAddresses_J14_i)
theorem ddilaw47_AllocateAddresses_J14_eq : ddilaw47_AllocateAddresses_J14 = ddilaw47_AllocateAddresses_J14_i := hull_eq _
noncomputable def a_ddilaw47_AllocateAddresses_J14 : AC Bool :=
  .seq (.reg [.op ⟨(some 27), (.mv (.t 0)), none⟩,
    .call ⟨(some 28), (.call 11 [(.t 27)]), none⟩ 11 ent_ddilaw47_small,
    .op ⟨(some 29), (.un .not (.t 28)), none⟩,
    .op ⟨(some 30), (.mv (.t 29)), none⟩,
    .grp 30 false [⟨(some 31), (.mv (.t 1)), (some (30, false))⟩, ⟨(some 32), (.len false (.t 31)), (some (30, false))⟩, ⟨(some 33), (.bin .gtr (.t 32) (.c (.int .i64 60))), (some (30, false))⟩] 34 (.t 33),
    .op ⟨(some 35), (.mv (.t 34)), none⟩,
    .op ⟨(some 36), (.mv (.t 0)), (some (35, false))⟩,
    .call ⟨(some 37), (.call 12 [(.t 36)]), (some (35, false))⟩ 12 ent_ddiref46_Check,
    .op ⟨(some 38), (.bin .neq (.t 37) (.c (.int .i64 0))), (some (35, false))⟩,
    .op ⟨(some 39), (.pick (.t 35) (.c (.bool true)) (.t 38)), none⟩]) (.view [.sel [0, 1, 5, 7, 39] [0, 1]])
theorem ok_ddilaw47_AllocateAddresses_J14 : AC.ok Try.prog (TIof Try.prog) 62 0 (kret [(.t 6)] dec_ddilaw47_AllocateAddresses) a_ddilaw47_AllocateAddresses_J14 := (And.intro (And.intro (EntOkB.ok k_ddilaw47_small) (And.intro (EntOkB.ok k_ddiref46_Check) True.intro)) True.intro)
theorem t_ddilaw47_AllocateAddresses_J14 (v0 : List AV) (v1 : List AV) (b0_0 : Bool) (b0_1 : Int) (b0_2 : Int) (b0_3 : Int) (b1_0 : Bool) (b1_1 : Int) (b1_2 : Int) (K : Ex → Env → Mem → Option Bool) : den 0 (kret [(.t 6)] dec_ddilaw47_AllocateAddresses) a_ddilaw47_AllocateAddresses_J14 (envOf [(0, (.sl 8 v0)), (1, (.sl 5 v1)), (5, (.ptr 0 0)), (7, (.ptr 1 0))]) (memOf [(some (.box true [(.bool b0_0), (.int .u64 b0_1), (.int .u64 b0_2), (.int .i64 b0_3)])), (some (.box true [(.bool b1_0), (.int .u64 b1_1), (.int .u64 b1_2)]))]) K = ddilaw47_AllocateAddresses_J14 v0 v1 b0_0 b0_1 b0_2 b0_3 b1_0 b1_1 b1_2 (fun z_v39 => K .norm (envOf [(0, (.sl 8 v0)), (1, (.sl 5 v1)), (5, (.ptr 0 0)), (7, (.ptr 1 0)), (39, (.bool z_v39))]) (memOf [(some (.box true [(.bool b0_0), (.int .u64 b0_1), (.int .u64 b0_2), (.int .i64 b0_3)])), (some (.box true [(.bool b1_0), (.int .u64 b1_1), (.int .u64 b1_2)]))])) := by
  rw [ddilaw47_AllocateAddresses_J14_eq]; kernel_rfl
noncomputable def s_ddilaw47_AllocateAddresses_J14 : Env → Mem → (Ex → Env → Mem → Option Bool) → Option Bool := fun t m K => chk (fitS0 shp_ddilaw47_AllocateAddresses_J14 t m) (cond (hdS shp_ddilaw47_AllocateAddresses_J14 t m) (ddilaw47_AllocateAddresses_J14 (gL [t 0] 0) (gL [t 1] 0) (gB (bxC (m.s 0)) 0) (gI (bxC (m.s 0)) 1) (gI (bxC (m.s 0)) 2) (gI (bxC (m.s 0)) 3) (gB (bxC (m.s 1)) 0) (gI (bxC (m.s 1)) 1) (gI (bxC (m.s 1)) 2) (fun z_v39 => K .norm (envOf [(0, (.sl 8 (gL [t 0] 0))), (1, (.sl 5 (gL [t 1] 0))), (5, (.ptr 0 0)), (7, (.ptr 1 0)), (39, (.bool z_v39))]) (memOf [(some (.box true [(.bool (gB (bxC (m.s 0)) 0)), (.int .u64 (gI (bxC (m.s 0)) 1)), (.int .u64 (gI (bxC (m.s 0)) 2)), (.int .i64 (gI (bxC (m.s 0)) 3))])), (some (.box true [(.bool (gB (bxC (m.s 1)) 0)), (.int .u64 (gI (bxC (m.s 1)) 1)), (.int .u64 (gI (bxC (m.s 1)) 2))]))]))) none)
theorem o_ddilaw47_AllocateAddresses_J14 : SubOk Try.prog (TIof Try.prog) 62 0 (kret [(.t 6)] dec_ddilaw47_AllocateAddresses) (scOf a_ddilaw47_AllocateAddresses_J14) s_ddilaw47_AllocateAddresses_J14 :=
  sub_of tabOk follows ok_ddilaw47_AllocateAddresses_J14 (er_of (by kernel_rfl)) shp_ddilaw47_AllocateAddresses_J14 (fun t m K => congrArg (fun z => chk (fitS0 shp_ddilaw47_AllocateAddresses_J14 t m) (cond (hdS shp_ddilaw47_AllocateAddresses_J14 t m) z none)) (t_ddilaw47_AllocateAddresses_J14 (gL [t 0] 0) (gL [t 1] 0) (gB (bxC (m.s 0)) 0) (gI (bxC (m.s 0)) 1) (gI (bxC (m.s 0)) 2) (gI (bxC (m.s 0)) 3) (gB (bxC (m.s 1)) 0) (gI (bxC (m.s 1)) 1) (gI (bxC (m.s 1)) 2) K).symm)
def shp_ddilaw47_AllocateAddresses : Shp := ⟨[(0, .one (.l (.sl 8))), (1, .one (.l (.sl 5))), (2, .st [(.l .b), (.l (.i .u64)), (.l (.i .u64)), (.l (.i .i64))])], []⟩
noncomputable def ddilaw47_AllocateAddresses_i (v0 : List AV) (v1 : List AV) (v2_0 : Bool) (v2_1 : Int) (v2_2 : Int) (v2_3 : Int) : Option Bool :=
  (oB (ddilaw47_sample) fun r1 => (oB (ddilaw47_sample) fun r2 => (oB (ixB r2 (1 : Int)) fun y3 => (bif fitC T_api_Block y3.cells then (oB (allocate_Address r1 ([] : List AV) (gB y3.cells 0) (gI y3.cells 1) (gI y3.cells 2) (gI y3.cells 3)) fun r4 => (bif (((gI r4.1.cells 2) != (289 : Int)) || (r4.2 != (0 : Int))) then (some false) else (ddilaw47_AllocateAddresses_J14 v0 v1 v2_0 v2_1 v2_2 v2_3 (gB r4.1.cells 0) (gI r4.1.cells 1) (gI r4.1.cells 2) (fun v39 => (bif v39 then (some true) else (oB (allocate_Address v0 v1 v2_0 v2_1 v2_2 v2_3) fun r5 => (oB (ddiref47_Address v0 v1 v2_0 v2_1 v2_2 v2_3) fun r6 => (some ((((gB r5.1.cells 0) == (gB r6.1.cells 0)) && (((gI r5.1.cells 1) == (gI r6.1.cells 1)) && (((gI r5.1.cells 2) == (gI r6.1.cells 2)) && true))) && (r5.2 == r6.2)))))))))) else none))))
noncomputable def ddilaw47_AllocateAddresses := hull ddilaw47_AllocateAddresses_i
theorem ddilaw47_AllocateAddresses_eq : ddilaw47_AllocateAddresses = ddilaw47_AllocateAddresses_i := hull_eq _
noncomputable def a_ddilaw47_AllocateAddresses : AC Bool :=
  .seq (.reg [.op ⟨(some 5), (.box (.t 2)), none⟩,
    .op ⟨(some 6), (.mv (.c (.bool false))), none⟩]) (.seq (.reg [.callc ⟨(some 12), (.call 10 []), none⟩ 10 ent_ddilaw47_sample,
    .callc ⟨(some 13), (.call 10 []), none⟩ 10 ent_ddilaw47_sample,
    .op ⟨(some 14), (.ia 8 (.t 13) (.c (.int .i64 1))), none⟩,
    .st (.etac 14 T_api_Block),
    .op ⟨(some 15), (.fa 0 (.t 14)), none⟩,
    .op ⟨(some 16), (.load true 4 (.t 15)), none⟩,
    .call ⟨(some 17), (.call 9 [(.t 12), (.c .nils), (.t 16)]), none⟩ 9 ent_allocate_Address,
    .op ⟨(some 11), (.mv (.t 17)), none⟩,
    .op ⟨(some 18), (.ext (.t 11) 0), none⟩,
    .op ⟨(some 19), (.ext (.t 11) 1), none⟩,
    .op ⟨(some 7), (.alloc [(.bool false), (.int .u64 0), (.int .u64 0)]), none⟩,
    .op ⟨none, (.store 3 (.t 7) (.t 18)), none⟩,
    .op ⟨(some 8), (.mv (.t 19)), none⟩]) (.seq (.seq (.reg [.op ⟨(some 20), (.fa 2 (.t 7)), none⟩,
    .op ⟨(some 21), (.load false 1 (.t 20)), none⟩,
    .op ⟨(some 22), (.bin .neq (.t 21) (.c (.int .u64 289))), none⟩,
    .op ⟨(some 23), (.mv (.t 22)), none⟩,
    .grp 23 false [⟨(some 24), (.mv (.t 8)), (some (23, false))⟩, ⟨(some 25), (.bin .neq (.t 24) (.c (.int .i64 0))), (some (23, false))⟩] 26 (.t 25)]) (.cond (.t 26) (.seq (.reg [.op ⟨(some 6), (.mv (.c (.bool false))), none⟩]) (.ret)) (.skip))) (.seq (.seq (.seq (.view [.sel [0, 1, 5, 7] [0, 1]]) (.sub (scOf a_ddilaw47_AllocateAddresses_J14) s_ddilaw47_AllocateAddresses_J14)) (.cond (.t 39) (.seq (.reg [.op ⟨(some 6), (.mv (.c (.bool true))), none⟩]) (.ret)) (.skip))) (.seq (.reg [.op ⟨(some 41), (.mv (.t 0)), none⟩,
    .op ⟨(some 42), (.mv (.t 1)), none⟩,
    .op ⟨(some 43), (.load true 4 (.t 5)), none⟩,
    .call ⟨(some 44), (.call 9 [(.t 41), (.t 42), (.t 43)]), none⟩ 9 ent_allocate_Address,
    .op ⟨(some 40), (.mv (.t 44)), none⟩,
    .op ⟨(some 45), (.ext (.t 40) 0), none⟩,
    .op ⟨(some 46), (.ext (.t 40) 1), none⟩,
    .op ⟨none, (.store 3 (.t 7) (.t 45)), none⟩,
    .op ⟨(some 8), (.mv (.t 46)), none⟩]) (.seq (.reg [.op ⟨(some 48), (.mv (.t 0)), none⟩,
    .op ⟨(some 49), (.mv (.t 1)), none⟩,
    .op ⟨(some 50), (.load true 4 (.t 5)), none⟩,
    .call ⟨(some 51), (.call 13 [(.t 48), (.t 49), (.t 50)]), none⟩ 13 ent_ddiref47_Address,
    .op ⟨(some 47), (.mv (.t 51)), none⟩,
    .op ⟨(some 52), (.ext (.t 47) 0), none⟩,
    .op ⟨(some 53), (.ext (.t 47) 1), none⟩,
    .op ⟨(some 9), (.alloc [(.bool false), (.int .u64 0), (.int .u64 0)]), none⟩,
    .op ⟨none, (.store 3 (.t 9) (.t 52)), none⟩,
    .op ⟨(some 10), (.mv (.t 53)), none⟩]) (.seq (.reg [.op ⟨(some 54), (.load true 3 (.t 7)), none⟩,
    .op ⟨(some 55), (.load true 3 (.t 9)), none⟩,
    .op ⟨(some 56), (.eq false true [.b, (.i .u64), (.i .u64)] (.t 54) (.t 55)), none⟩,
    .op ⟨(some 57), (.mv (.t 56)), none⟩,
    .grp 57 true [⟨(some 58), (.mv (.t 8)), (some (57, true))⟩, ⟨(some 59), (.mv (.t 10)), (some (57, true))⟩, ⟨(some 60), (.bin .eql (.t 58) (.t 59)), (some (57, true))⟩] 61 (.t 60),
    .op ⟨(some 6), (.mv (.t 61)), none⟩]) (.ret)))))))
theorem ok_ddilaw47_AllocateAddresses : AC.ok Try.prog (TIof Try.prog) 62 0 (kret [(.t 6)] dec_ddilaw47_AllocateAddresses) a_ddilaw47_AllocateAddresses := (And.intro True.intro (And.intro (And.intro (EntOkB.ok k_ddilaw47_sample) (And.intro (EntOkB.ok k_ddilaw47_sample) (And.intro (EntOkB.ok k_allocate_Address) True.intro))) (And.intro (And.intro True.intro (And.intro (And.intro True.intro True.intro) True.intro)) (And.intro (And.intro (And.intro True.intro o_ddilaw47_AllocateAddresses_J14) (And.intro (And.intro True.intro True.intro) True.intro)) (And.intro (And.intro (EntOkB.ok k_allocate_Address) True.intro) (And.intro (And.intro (EntOkB.ok k_ddiref47_Address) True.intro) (And.intro True.intro True.intro)))))))
theorem t_ddilaw47_AllocateAddresses (v0 : List AV) (v1 : List AV) (v2_0 : Bool) (v2_1 : Int) (v2_2 : Int) (v2_3 : Int) : den 0 (kret [(.t 6)] dec_ddilaw47_AllocateAddresses) a_ddilaw47_AllocateAddresses (envOf [(0, (.sl 8 v0)), (1, (.sl 5 v1)), (2, (.agg [(.bool v2_0), (.int .u64 v2_1), (.int .u64 v2_2), (.int .i64 v2_3)]))]) (memOf []) (kend (kret [(.t 6)] dec_ddilaw47_AllocateAddresses)) = ddilaw47_AllocateAddresses v0 v1 v2_0 v2_1 v2_2 v2_3 := by
  rw [ddilaw47_AllocateAddresses_eq]; kernel_rfl
theorem c_ddilaw47_AllocateAddresses : cFn (TIof Try.prog) Try.f3 = some ⟨62, [(.t 6)], scOf a_ddilaw47_AllocateAddresses⟩ := by kernel_rfl
noncomputable def ent_ddilaw47_AllocateAddresses {R : Type} (xs : List AV) (K : AV → Option R) : Option R := chk (fitS shp_ddilaw47_AllocateAddresses (entry xs) Mem.none) (oB (ddilaw47_AllocateAddresses (gL [(entry xs) 0] 0) (gL [(entry xs) 1] 0) (gB ((entry xs) 2).cells 0) (gI ((entry xs) 2).cells 1) (gI ((entry xs) 2).cells 2) (gI ((entry xs) 2).cells 3)) fun r => K (enc_ddilaw47_AllocateAddresses r))
theorem k_ddilaw47_AllocateAddresses {R : Type} : EntOkB Try.prog 3 (ent_ddilaw47_AllocateAddresses (R := R)) :=
  ent_of (F := fun xs => ddilaw47_AllocateAddresses (gL [(entry xs) 0] 0) (gL [(entry xs) 1] 0) (gB ((entry xs) 2).cells 0) (gI ((entry xs) 2).cells 1) (gI ((entry xs) 2).cells 2) (gI ((entry xs) 2).cells 3)) (enc := enc_ddilaw47_AllocateAddresses) tabOk follows Try.func3 (by kernel_rfl) c_ddilaw47_AllocateAddresses (fun z r h => by
    obtain ⟨h1, h2⟩ := cond_some h
    cases h2
    exact (etaRV_eq h1).symm) ok_ddilaw47_AllocateAddresses (er_of (by kernel_rfl)) shp_ddilaw47_AllocateAddresses (fun xs => t_ddilaw47_AllocateAddresses (gL [(entry xs) 0] 0) (gL [(entry xs) 1] 0) (gB ((entry xs) 2).cells 0) (gI ((entry xs) 2).cells 1) (gI ((entry xs) 2).cells 2) (gI ((entry xs) 2).cells 3)) (fun xs K r h => by
    unfold ent_ddilaw47_AllocateAddresses at h
    exact ⟨(chk_some h).1, oB_some (chk_some h).2⟩)

end Go.Proofs.Ytmfghgaboaocgaa.Dn
