import Derived.Test.YthhnnlipnpfkcaaDoorProg
import Derived.Test.YthhnnlipnpfkcaaDoorXaLibC
import Derived.Test.YthhnnlipnpfkcaaDoorXaDnRx2
set_option linter.all false
namespace Go.Proofs.YthhnnlipnpfkcaaDoor.Dn
open Go Go.Pev
set_option linter.unusedVariables false
set_option linter.unusedSimpArgs false
set_option maxRecDepth 100000
set_option maxHeartbeats 4000000
def dec_ddiref26_Query (z : AV) : Option (Int × Bool) := cond (fitTup [(.one (.i .i64)), (.one .b)] z) (some (aI (gC (tpL z) 0), aB (gC (tpL z) 1))) none
def enc_ddiref26_Query (r : Int × Bool) : AV := .tup [.int .i64 r.1, .bool r.2]
def shp_ddiref26_Query_L6 : Shp := ⟨[(0, .one (.l (.sl 8))), (3, .one (.ptr 0 0)), (6, .one (.l (.i .i64)))], [.box true [(.l .s), (.l (.i .i64))]]⟩
noncomputable def ddiref26_Query_L6_b  (v0 : List AV) (v6 : Int) (b0_0 : List UInt8) (b0_1 : Int) (next : Int → Option (Int × Bool)) (kx0 : Unit → Option (Int × Bool)) : Option (Int × Bool) :=
  (bif (decide (v6 < (v0.length : Int))) then (oB (ixB v0 v6) fun y1 => (bif fitC X_api_Rule y1.cells then (bif ((gI y1.cells 0) == (1 : Int)) then (oB (ixB v0 v6) fun y2 => (bif fitC X_api_Rule y2.cells then (bif ((gS y2.cells 1) == b0_0) then (some (v6, true)) else (next (IntKind.i64.wrap (v6 + (1 : Int))))) else none)) else (next (IntKind.i64.wrap (v6 + (1 : Int))))) else none)) else (kx0 ()))
noncomputable def ddiref26_Query_L6_i  (v0 : List AV) (b0_0 : List UInt8) (b0_1 : Int) (kx0 : Unit → Option (Int × Bool)) : Nat → Int → Option (Int × Bool)
  | 0 => (fun _ => none)
  | n + 1 => (fun v6 => ddiref26_Query_L6_b v0 v6 b0_0 b0_1 (ddiref26_Query_L6_i v0 b0_0 b0_1 kx0 n) kx0)
noncomputable def ddiref26_Query_L6 := hull (ddiref26_Query_L6_i)
theorem ddiref26_Query_L6_eq : ddiref26_Query_L6 = ddiref26_Query_L6_i := hull_eq _
noncomputable def a_ddiref26_Query_L6 : AC (Int × Bool) :=
  .seq (.seq (.reg [.op ⟨some 11, (.mv (.t 6)), none⟩,
 .op ⟨some 12, (.mv (.t 0)), none⟩,
 .op ⟨some 13, (.len false (.t 12)), none⟩,
 .op ⟨some 14, (.bin .lss (.t 11) (.t 13)), none⟩]) (.cond (.t 14) (.skip) (.seq (.view [.sel [0, 3] [0]]) (.exit 0)))) (.seq (.block 1 (.seq (.draw [] [.op ⟨some 17, (.mv (.t 0)), none⟩,
 .op ⟨some 18, (.mv (.t 6)), none⟩,
 .op ⟨some 19, (.ia 8 (.t 17) (.t 18)), none⟩,
 .et 19 X_api_Rule,
 .op ⟨some 20, (.fa 0 (.t 19)), none⟩,
 .op ⟨some 21, (.load false 1 (.t 20)), none⟩,
 .op ⟨some 22, (.bin .eql (.t 21) (.c (.int .i64 1))), none⟩,
 .op ⟨some 23, (.mv (.t 22)), none⟩,
 .op ⟨some 24, (.mv (.t 0)), (some (23, true))⟩,
 .op ⟨some 25, (.mv (.t 6)), (some (23, true))⟩,
 .op ⟨some 26, (.ia 8 (.t 24) (.t 25)), (some (23, true))⟩,
 .et 26 X_api_Rule,
 .op ⟨some 27, (.fa 1 (.t 26)), (some (23, true))⟩,
 .op ⟨some 28, (.load false 1 (.t 27)), (some (23, true))⟩,
 .op ⟨some 29, (.fa 0 (.t 3)), (some (23, true))⟩,
 .op ⟨some 30, (.load false 1 (.t 29)), (some (23, true))⟩] [.op ⟨some 31, (.bin .eql (.t 28) (.t 30)), (some (23, true))⟩,
 .op ⟨some 32, (.pick (.t 23) (.t 31) (.c (.bool false))), none⟩]) (.cond (.t 32) (.seq (.reg [.op ⟨some 33, (.mv (.t 6)), none⟩,
 .op ⟨some 4, (.mv (.t 33)), none⟩,
 .op ⟨some 5, (.mv (.c (.bool true))), none⟩]) (.ret)) (.skip)))) (.seq (.reg [.op ⟨some 15, (.mv (.t 6)), none⟩,
 .op ⟨some 16, (.bin .add (.t 15) (.c (.int .i64 1))), none⟩,
 .op ⟨some 6, (.mv (.t 16)), none⟩]) (.view [.sel [0, 3, 6] [0]])))
theorem ok_ddiref26_Query_L6 : AC.ok Tryd.prog (TIof Tryd.prog) 82 0 (kret [.t 4, .t 5] dec_ddiref26_Query) a_ddiref26_Query_L6 := (zA (zA zT (zA zT (zA zT zT))) (zA (zA (zA zT (zA zT rfl)) (zA (zA zT zT) zT)) (zA zT zT)))
theorem t_ddiref26_Query_L6_b (v0 : List AV) (v6 : Int) (b0_0 : List UInt8) (b0_1 : Int) (K : Ex → Env → Mem → Option (Int × Bool)) : den 0 (kret [.t 4, .t 5] dec_ddiref26_Query) a_ddiref26_Query_L6 (envOf [(0, (.sl 8 v0)), (3, (.ptr 0 0)), (6, (.int .i64 v6))]) (memOf [(some (.box true [(.str b0_0), (.int .i64 b0_1)]))]) K = ddiref26_Query_L6_b v0 v6 b0_0 b0_1 (fun z_v6 => K .norm (envOf [(0, (.sl 8 v0)), (3, (.ptr 0 0)), (6, (.int .i64 z_v6))]) (memOf [(some (.box true [(.str b0_0), (.int .i64 b0_1)]))])) (fun _ => K (.exit 0) (envOf [(0, (.sl 8 v0)), (3, (.ptr 0 0))]) (memOf [(some (.box true [(.str b0_0), (.int .i64 b0_1)]))])) := by kernel_rfl
theorem t_ddiref26_Query_L6 (v0 : List AV) (b0_0 : List UInt8) (b0_1 : Int) (K : Ex → Env → Mem → Option (Int × Bool)) : ∀ (n : Nat) (v6 : Int), iterD (den 0 (kret [.t 4, .t 5] dec_ddiref26_Query) a_ddiref26_Query_L6) n (envOf [(0, (.sl 8 v0)), (3, (.ptr 0 0)), (6, (.int .i64 v6))]) (memOf [(some (.box true [(.str b0_0), (.int .i64 b0_1)]))]) K = ddiref26_Query_L6 v0 b0_0 b0_1 (fun _ => K (.exit 0) (envOf [(0, (.sl 8 v0)), (3, (.ptr 0 0))]) (memOf [(some (.box true [(.str b0_0), (.int .i64 b0_1)]))])) n v6 := by
  rw [ddiref26_Query_L6_eq]
  intro n
  induction n with
  | zero => intros; rfl
  | succ n ih =>
 intro v6
 exact (t_ddiref26_Query_L6_b v0 v6 b0_0 b0_1 (itK (den 0 (kret [.t 4, .t 5] dec_ddiref26_Query) a_ddiref26_Query_L6) n K)).trans (congrArg (fun q => ddiref26_Query_L6_b v0 v6 b0_0 b0_1 q (fun _ => K (.exit 0) (envOf [(0, (.sl 8 v0)), (3, (.ptr 0 0))]) (memOf [(some (.box true [(.str b0_0), (.int .i64 b0_1)]))]))) (funext fun v6 => ih v6))
noncomputable def s_ddiref26_Query_L6 : Env → Mem → (Ex → Env → Mem → Option (Int × Bool)) → Option (Int × Bool) := fun t m K => chk (fitS0 shp_ddiref26_Query_L6 t m) (cond (hdS shp_ddiref26_Query_L6 t m) (ddiref26_Query_L6 (gL [t 0] 0) (gS (bxC (m.s 0)) 0) (gI (bxC (m.s 0)) 1) (fun _ => K (.exit 0) (envOf [(0, (.sl 8 (gL [t 0] 0))), (3, (.ptr 0 0))]) (memOf [(some (.box true [(.str (gS (bxC (m.s 0)) 0)), (.int .i64 (gI (bxC (m.s 0)) 1))]))])) FU (gI [t 6] 0)) none)
theorem o_ddiref26_Query_L6 : SubOk Tryd.prog (TIof Tryd.prog) 82 0 (kret [.t 4, .t 5] dec_ddiref26_Query) (.loop (scOf a_ddiref26_Query_L6)) s_ddiref26_Query_L6 :=
  loop_of tabOk follows ok_ddiref26_Query_L6 (er_of (by kernel_rfl)) shp_ddiref26_Query_L6 (fun t m K => congrArg (fun z => chk (fitS0 shp_ddiref26_Query_L6 t m) (cond (hdS shp_ddiref26_Query_L6 t m) z none)) (t_ddiref26_Query_L6 (gL [t 0] 0) (gS (bxC (m.s 0)) 0) (gI (bxC (m.s 0)) 1) K FU (gI [t 6] 0)).symm)
def shp_ddiref26_Query_J42 : Shp := ⟨[(0, .one (.l (.sl 8))), (3, .one (.ptr 0 0)), (7, .one (.l (.i .i64))), (8, .one (.l (.i .i64))), (9, .one (.l (.i .i64)))], [.box true [(.l .s), (.l (.i .i64))]]⟩
noncomputable def ddiref26_Query_J42_i  (v0 : List AV) (v7 : Int) (v8 : Int) (v9 : Int) (b0_0 : List UInt8) (b0_1 : Int) (kn : Bool → Option (Int × Bool)) : Option (Int × Bool) :=
  (oB (ixB v0 v9) fun y1 => (bif fitC X_api_Rule y1.cells then (bif ((gI y1.cells 0) != (2 : Int)) then (kn true) else (oB (ixB v0 v9) fun y2 => (bif fitC X_api_Rule y2.cells then (bif ((gS y2.cells 1) == b0_0) then (kn true) else (oB (ixB v0 v9) fun y3 => (bif fitC X_api_Rule y3.cells then (oB (ddiref01_Under b0_0 (gS y3.cells 1)) fun r4 => (kn (!r4))) else none))) else none))) else none))
noncomputable def ddiref26_Query_J42 := hull (ddiref26_Query_J42_i)
theorem ddiref26_Query_J42_eq : ddiref26_Query_J42 = ddiref26_Query_J42_i := hull_eq _
noncomputable def a_ddiref26_Query_J42 : AC (Int × Bool) :=
  .seq (.draw [] [.op ⟨some 40, (.mv (.t 0)), none⟩,
 .op ⟨some 41, (.mv (.t 9)), none⟩,
 .op ⟨some 42, (.ia 8 (.t 40) (.t 41)), none⟩,
 .et 42 X_api_Rule,
 .op ⟨some 43, (.fa 0 (.t 42)), none⟩,
 .op ⟨some 44, (.load false 1 (.t 43)), none⟩,
 .op ⟨some 45, (.bin .neq (.t 44) (.c (.int .i64 2))), none⟩,
 .op ⟨some 46, (.mv (.t 45)), none⟩,
 .op ⟨some 47, (.mv (.t 0)), (some (46, false))⟩,
 .op ⟨some 48, (.mv (.t 9)), (some (46, false))⟩,
 .op ⟨some 49, (.ia 8 (.t 47) (.t 48)), (some (46, false))⟩,
 .et 49 X_api_Rule,
 .op ⟨some 50, (.fa 1 (.t 49)), (some (46, false))⟩,
 .op ⟨some 51, (.load false 1 (.t 50)), (some (46, false))⟩,
 .op ⟨some 52, (.fa 0 (.t 3)), (some (46, false))⟩,
 .op ⟨some 53, (.load false 1 (.t 52)), (some (46, false))⟩,
 .op ⟨some 54, (.bin .eql (.t 51) (.t 53)), (some (46, false))⟩,
 .op ⟨some 55, (.pick (.t 46) (.c (.bool true)) (.t 54)), none⟩,
 .op ⟨some 56, (.mv (.t 55)), none⟩,
 .op ⟨some 57, (.fa 0 (.t 3)), (some (56, false))⟩,
 .op ⟨some 58, (.load false 1 (.t 57)), (some (56, false))⟩,
 .op ⟨some 59, (.mv (.t 0)), (some (56, false))⟩,
 .op ⟨some 60, (.mv (.t 9)), (some (56, false))⟩,
 .op ⟨some 61, (.ia 8 (.t 59) (.t 60)), (some (56, false))⟩,
 .et 61 X_api_Rule,
 .op ⟨some 62, (.fa 1 (.t 61)), (some (56, false))⟩,
 .op ⟨some 63, (.load false 1 (.t 62)), (some (56, false))⟩] [.call ⟨some 64, (.call 22 [.t 58, .t 63]), (some (56, false))⟩ 22 ent_ddiref01_Under,
 .op ⟨some 65, (.un .not (.t 64)), (some (56, false))⟩,
 .op ⟨some 66, (.pick (.t 56) (.c (.bool true)) (.t 65)), none⟩]) (.view [.sel [0, 3, 7, 8, 9, 66] [0]])
theorem ok_ddiref26_Query_J42 : AC.ok Tryd.prog (TIof Tryd.prog) 82 0 (kret [.t 4, .t 5] dec_ddiref26_Query) a_ddiref26_Query_J42 := (zA (zA zT (zA (zA (EntOkB.ok k_ddiref01_Under) zT) rfl)) zT)
theorem t_ddiref26_Query_J42 (v0 : List AV) (v7 : Int) (v8 : Int) (v9 : Int) (b0_0 : List UInt8) (b0_1 : Int) (K : Ex → Env → Mem → Option (Int × Bool)) : den 0 (kret [.t 4, .t 5] dec_ddiref26_Query) a_ddiref26_Query_J42 (envOf [(0, (.sl 8 v0)), (3, (.ptr 0 0)), (7, (.int .i64 v7)), (8, (.int .i64 v8)), (9, (.int .i64 v9))]) (memOf [(some (.box true [(.str b0_0), (.int .i64 b0_1)]))]) K = ddiref26_Query_J42 v0 v7 v8 v9 b0_0 b0_1 (fun z_v66 => K .norm (envOf [(0, (.sl 8 v0)), (3, (.ptr 0 0)), (7, (.int .i64 v7)), (8, (.int .i64 v8)), (9, (.int .i64 v9)), (66, (.bool z_v66))]) (memOf [(some (.box true [(.str b0_0), (.int .i64 b0_1)]))])) := by
  rw [ddiref26_Query_J42_eq]; kernel_rfl
noncomputable def s_ddiref26_Query_J42 : Env → Mem → (Ex → Env → Mem → Option (Int × Bool)) → Option (Int × Bool) := fun t m K => chk (fitS0 shp_ddiref26_Query_J42 t m) (cond (hdS shp_ddiref26_Query_J42 t m) (ddiref26_Query_J42 (gL [t 0] 0) (gI [t 7] 0) (gI [t 8] 0) (gI [t 9] 0) (gS (bxC (m.s 0)) 0) (gI (bxC (m.s 0)) 1) (fun z_v66 => K .norm (envOf [(0, (.sl 8 (gL [t 0] 0))), (3, (.ptr 0 0)), (7, (.int .i64 (gI [t 7] 0))), (8, (.int .i64 (gI [t 8] 0))), (9, (.int .i64 (gI [t 9] 0))), (66, (.bool z_v66))]) (memOf [(some (.box true [(.str (gS (bxC (m.s 0)) 0)), (.int .i64 (gI (bxC (m.s 0)) 1))]))]))) none)
theorem o_ddiref26_Query_J42 : SubOk Tryd.prog (TIof Tryd.prog) 82 0 (kret [.t 4, .t 5] dec_ddiref26_Query) (scOf a_ddiref26_Query_J42) s_ddiref26_Query_J42 :=
  sub_of tabOk follows ok_ddiref26_Query_J42 (er_of (by kernel_rfl)) shp_ddiref26_Query_J42 (fun t m K => congrArg (fun z => chk (fitS0 shp_ddiref26_Query_J42 t m) (cond (hdS shp_ddiref26_Query_J42 t m) z none)) (t_ddiref26_Query_J42 (gL [t 0] 0) (gI [t 7] 0) (gI [t 8] 0) (gI [t 9] 0) (gS (bxC (m.s 0)) 0) (gI (bxC (m.s 0)) 1) K).symm)
def shp_ddiref26_Query_L31 : Shp := ⟨[(0, .one (.l (.sl 8))), (3, .one (.ptr 0 0)), (7, .one (.l (.i .i64))), (8, .one (.l (.i .i64))), (9, .one (.l (.i .i64)))], [.box true [(.l .s), (.l (.i .i64))]]⟩
noncomputable def ddiref26_Query_L31_b  (v0 : List AV) (v7 : Int) (v8 : Int) (v9 : Int) (b0_0 : List UInt8) (b0_1 : Int) (next : Int → Int → Int → Option (Int × Bool)) (kx2 : Int → Option (Int × Bool)) : Option (Int × Bool) :=
  (bif (decide (v9 < (v0.length : Int))) then (ddiref26_Query_J42 v0 v7 v8 v9 b0_0 b0_1 (fun v66q1 => (bif v66q1 then (next v7 v8 (IntKind.i64.wrap (v9 + (1 : Int)))) else (oB (ixB v0 v9) fun y2 => (bif fitC T_api_Rule y2.cells then (oB (ddiref01_Labels (gS y2.cells 1)) fun r3 => (bif (decide ((r3.length : Int) > v8)) then (next v9 (r3.length : Int) (IntKind.i64.wrap (v9 + (1 : Int)))) else (next v7 v8 (IntKind.i64.wrap (v9 + (1 : Int)))))) else none))))) else (kx2 v7))
noncomputable def ddiref26_Query_L31_i  (v0 : List AV) (b0_0 : List UInt8) (b0_1 : Int) (kx2 : Int → Option (Int × Bool)) : Nat → Int → Int → Int → Option (Int × Bool)
  | 0 => (fun _ _ _ => none)
  | n + 1 => (fun v7 v8 v9 => ddiref26_Query_L31_b v0 v7 v8 v9 b0_0 b0_1 (ddiref26_Query_L31_i v0 b0_0 b0_1 kx2 n) kx2)
noncomputable def ddiref26_Query_L31 := hull (ddiref26_Query_L31_i)
theorem ddiref26_Query_L31_eq : ddiref26_Query_L31 = ddiref26_Query_L31_i := hull_eq _
noncomputable def a_ddiref26_Query_L31 : AC (Int × Bool) :=
  .seq (.seq (.reg [.op ⟨some 34, (.mv (.t 9)), none⟩,
 .op ⟨some 35, (.mv (.t 0)), none⟩,
 .op ⟨some 36, (.len false (.t 35)), none⟩,
 .op ⟨some 37, (.bin .lss (.t 34) (.t 36)), none⟩]) (.cond (.t 37) (.skip) (.seq (.view [.sel [7] []]) (.exit 2)))) (.seq (.block 3 (.seq (.seq (.seq (.view [.sel [0, 3, 7, 8, 9] [0]]) (.sub (scOf a_ddiref26_Query_J42) s_ddiref26_Query_J42)) (.cond (.t 66) (.exit 3) (.skip))) (.seq (.reg [.op ⟨some 67, (.mv (.t 0)), none⟩,
 .op ⟨some 68, (.mv (.t 9)), none⟩,
 .op ⟨some 69, (.ia 8 (.t 67) (.t 68)), none⟩,
 .st (.etac 69 T_api_Rule),
 .op ⟨some 70, (.fa 1 (.t 69)), none⟩,
 .op ⟨some 71, (.load false 1 (.t 70)), none⟩,
 .callc ⟨some 72, (.call 23 [.t 71]), none⟩ 23 ent_ddiref01_Labels,
 .op ⟨some 73, (.len false (.t 72)), none⟩,
 .op ⟨some 10, (.mv (.t 73)), none⟩]) (.seq (.reg [.op ⟨some 74, (.mv (.t 10)), none⟩,
 .op ⟨some 75, (.mv (.t 8)), none⟩,
 .op ⟨some 76, (.bin .gtr (.t 74) (.t 75)), none⟩]) (.cond (.t 76) (.reg [.op ⟨some 77, (.mv (.t 9)), none⟩,
 .op ⟨some 78, (.mv (.t 10)), none⟩,
 .op ⟨some 7, (.mv (.t 77)), none⟩,
 .op ⟨some 8, (.mv (.t 78)), none⟩]) (.skip)))))) (.seq (.reg [.op ⟨some 38, (.mv (.t 9)), none⟩,
 .op ⟨some 39, (.bin .add (.t 38) (.c (.int .i64 1))), none⟩,
 .op ⟨some 9, (.mv (.t 39)), none⟩]) (.view [.sel [0, 3, 7, 8, 9] [0]])))
theorem ok_ddiref26_Query_L31 : AC.ok Tryd.prog (TIof Tryd.prog) 82 0 (kret [.t 4, .t 5] dec_ddiref26_Query) a_ddiref26_Query_L31 := (zA (zA zT (zA zT (zA zT zT))) (zA (zA (zA (zA zT o_ddiref26_Query_J42) (zA zT zT)) (zA (zA (EntOkB.ok k_ddiref01_Labels) zT) (zA zT (zA zT zT)))) (zA zT zT)))
theorem t_ddiref26_Query_L31_b (v0 : List AV) (v7 : Int) (v8 : Int) (v9 : Int) (b0_0 : List UInt8) (b0_1 : Int) (K : Ex → Env → Mem → Option (Int × Bool)) : den 0 (kret [.t 4, .t 5] dec_ddiref26_Query) a_ddiref26_Query_L31 (envOf [(0, (.sl 8 v0)), (3, (.ptr 0 0)), (7, (.int .i64 v7)), (8, (.int .i64 v8)), (9, (.int .i64 v9))]) (memOf [(some (.box true [(.str b0_0), (.int .i64 b0_1)]))]) K = ddiref26_Query_L31_b v0 v7 v8 v9 b0_0 b0_1 (fun z_v7 z_v8 z_v9 => K .norm (envOf [(0, (.sl 8 v0)), (3, (.ptr 0 0)), (7, (.int .i64 z_v7)), (8, (.int .i64 z_v8)), (9, (.int .i64 z_v9))]) (memOf [(some (.box true [(.str b0_0), (.int .i64 b0_1)]))])) (fun z_v7 => K (.exit 2) (envOf [(7, (.int .i64 z_v7))]) (memOf [])) := by kernel_rfl
theorem t_ddiref26_Query_L31 (v0 : List AV) (b0_0 : List UInt8) (b0_1 : Int) (K : Ex → Env → Mem → Option (Int × Bool)) : ∀ (n : Nat) (v7 : Int) (v8 : Int) (v9 : Int), iterD (den 0 (kret [.t 4, .t 5] dec_ddiref26_Query) a_ddiref26_Query_L31) n (envOf [(0, (.sl 8 v0)), (3, (.ptr 0 0)), (7, (.int .i64 v7)), (8, (.int .i64 v8)), (9, (.int .i64 v9))]) (memOf [(some (.box true [(.str b0_0), (.int .i64 b0_1)]))]) K = ddiref26_Query_L31 v0 b0_0 b0_1 (fun z_v7 => K (.exit 2) (envOf [(7, (.int .i64 z_v7))]) (memOf [])) n v7 v8 v9 := by
  rw [ddiref26_Query_L31_eq]
  intro n
  induction n with
  | zero => intros; rfl
  | succ n ih =>
 intro v7 v8 v9
 exact (t_ddiref26_Query_L31_b v0 v7 v8 v9 b0_0 b0_1 (itK (den 0 (kret [.t 4, .t 5] dec_ddiref26_Query) a_ddiref26_Query_L31) n K)).trans (congrArg (fun q => ddiref26_Query_L31_b v0 v7 v8 v9 b0_0 b0_1 q (fun z_v7 => K (.exit 2) (envOf [(7, (.int .i64 z_v7))]) (memOf []))) (funext fun v7 => funext fun v8 => funext fun v9 => ih v7 v8 v9))
noncomputable def s_ddiref26_Query_L31 : Env → Mem → (Ex → Env → Mem → Option (Int × Bool)) → Option (Int × Bool) := fun t m K => chk (fitS0 shp_ddiref26_Query_L31 t m) (cond (hdS shp_ddiref26_Query_L31 t m) (ddiref26_Query_L31 (gL [t 0] 0) (gS (bxC (m.s 0)) 0) (gI (bxC (m.s 0)) 1) (fun z_v7 => K (.exit 2) (envOf [(7, (.int .i64 z_v7))]) (memOf [])) FU (gI [t 7] 0) (gI [t 8] 0) (gI [t 9] 0)) none)
theorem o_ddiref26_Query_L31 : SubOk Tryd.prog (TIof Tryd.prog) 82 0 (kret [.t 4, .t 5] dec_ddiref26_Query) (.loop (scOf a_ddiref26_Query_L31)) s_ddiref26_Query_L31 :=
  loop_of tabOk follows ok_ddiref26_Query_L31 (er_of (by kernel_rfl)) shp_ddiref26_Query_L31 (fun t m K => congrArg (fun z => chk (fitS0 shp_ddiref26_Query_L31 t m) (cond (hdS shp_ddiref26_Query_L31 t m) z none)) (t_ddiref26_Query_L31 (gL [t 0] 0) (gS (bxC (m.s 0)) 0) (gI (bxC (m.s 0)) 1) K FU (gI [t 7] 0) (gI [t 8] 0) (gI [t 9] 0)).symm)
def shp_ddiref26_Query : Shp := ⟨[(0, .one (.l (.sl 8))), (1, .st [(.l .s), (.l (.i .i64))])], []⟩
noncomputable def ddiref26_Query_i (v0 : List AV) (v1_0 : List UInt8) (v1_1 : Int) : Option (Int × Bool) :=
  (ddiref26_Query_L6 v0 v1_0 v1_1 (fun (_ : Unit) => (ddiref26_Query_L31 v0 v1_0 v1_1 (fun v7q1 => (bif (decide (v7q1 < (0 : Int))) then (some ((0 : Int), false)) else (some (v7q1, true)))) FU (-1 : Int) (-1 : Int) (0 : Int))) FU (0 : Int))
noncomputable def ddiref26_Query := hull ddiref26_Query_i
theorem ddiref26_Query_eq : ddiref26_Query = ddiref26_Query_i := hull_eq _
noncomputable def a_ddiref26_Query : AC (Int × Bool) :=
  .seq (.reg [.op ⟨some 3, (.box (.t 1)), none⟩,
 .op ⟨some 4, (.mv (.c (.int .i64 0))), none⟩,
 .op ⟨some 5, (.mv (.c (.bool false))), none⟩]) (.seq (.seq (.reg [.op ⟨some 6, (.mv (.c (.int .i64 0))), none⟩]) (.block 0 (.seq (.view [.sel [0, 3, 6] [0]]) (.sub (.loop (scOf a_ddiref26_Query_L6)) s_ddiref26_Query_L6)))) (.seq (.reg [.op ⟨some 7, (.mv (.c (.int .i64 (-1)))), none⟩]) (.seq (.reg [.op ⟨some 8, (.mv (.c (.int .i64 (-1)))), none⟩]) (.seq (.seq (.reg [.op ⟨some 9, (.mv (.c (.int .i64 0))), none⟩]) (.block 2 (.seq (.view [.sel [0, 3, 7, 8, 9] [0]]) (.sub (.loop (scOf a_ddiref26_Query_L31)) s_ddiref26_Query_L31)))) (.seq (.seq (.reg [.op ⟨some 79, (.mv (.t 7)), none⟩,
 .op ⟨some 80, (.bin .lss (.t 79) (.c (.int .i64 0))), none⟩]) (.cond (.t 80) (.seq (.reg [.op ⟨some 4, (.mv (.c (.int .i64 0))), none⟩,
 .op ⟨some 5, (.mv (.c (.bool false))), none⟩]) (.ret)) (.skip))) (.seq (.reg [.op ⟨some 81, (.mv (.t 7)), none⟩,
 .op ⟨some 4, (.mv (.t 81)), none⟩,
 .op ⟨some 5, (.mv (.c (.bool true))), none⟩]) (.ret)))))))
theorem ok_ddiref26_Query : AC.ok Tryd.prog (TIof Tryd.prog) 82 0 (kret [.t 4, .t 5] dec_ddiref26_Query) a_ddiref26_Query := (zA zT (zA (zA zT (zA zT o_ddiref26_Query_L6)) (zA zT (zA zT (zA (zA zT (zA zT o_ddiref26_Query_L31)) (zA (zA zT (zA (zA zT zT) zT)) (zA zT zT)))))))
theorem t_ddiref26_Query (v0 : List AV) (v1_0 : List UInt8) (v1_1 : Int) : den 0 (kret [.t 4, .t 5] dec_ddiref26_Query) a_ddiref26_Query (envOf [(0, (.sl 8 v0)), (1, (.agg [(.str v1_0), (.int .i64 v1_1)]))]) (memOf []) (kend (kret [.t 4, .t 5] dec_ddiref26_Query)) = ddiref26_Query v0 v1_0 v1_1 := by
  rw [ddiref26_Query_eq]; kernel_rfl
theorem c_ddiref26_Query : cFn (TIof Tryd.prog) Tryd.f10 = some ⟨82, [.t 4, .t 5], scOf a_ddiref26_Query⟩ := by kernel_rfl
noncomputable def ent_ddiref26_Query {R : Type} (xs : List AV) (K : AV → Option R) : Option R := chk (fitS shp_ddiref26_Query (entry xs) Mem.none) (oB (ddiref26_Query (gL [(entry xs) 0] 0) (gS ((entry xs) 1).cells 0) (gI ((entry xs) 1).cells 1)) fun r => K (enc_ddiref26_Query r))
theorem k_ddiref26_Query {R : Type} : EntOkB Tryd.prog 10 (ent_ddiref26_Query (R := R)) :=
  ent_of (F := fun xs => ddiref26_Query (gL [(entry xs) 0] 0) (gS ((entry xs) 1).cells 0) (gI ((entry xs) 1).cells 1)) (enc := enc_ddiref26_Query) tabOk follows Tryd.func10 (by kernel_rfl) c_ddiref26_Query (fun z r h => by
 obtain ⟨h1, h2⟩ := cond_some h
 cases h2
 exact (fitTup_eq h1).symm) ok_ddiref26_Query (er_of (by kernel_rfl)) shp_ddiref26_Query (fun xs => t_ddiref26_Query (gL [(entry xs) 0] 0) (gS ((entry xs) 1).cells 0) (gI ((entry xs) 1).cells 1)) (fun xs K r h => by
 unfold ent_ddiref26_Query at h
 exact ⟨(chk_some h).1, oB_some (chk_some h).2⟩)
def dec_ddiref08_Reply (z : AV) : Option AV := cond (fitRV (.st [(.i .i64), (.i .i64), (.i .i64), .b, .b, .b, .b, .b, .b, .b, .b, (.i .i64), .s, (.i .i64), .nil, .nil, .nil]) z) (some (z)) none
def enc_ddiref08_Reply (r : AV) : AV := etaRV (.st [(.i .i64), (.i .i64), (.i .i64), .b, .b, .b, .b, .b, .b, .b, .b, (.i .i64), .s, (.i .i64), .nil, .nil, .nil]) r
def shp_ddiref08_Reply : Shp := ⟨[(0, .st [(.l (.i .i64)), (.l (.i .i64)), (.l (.i .i64)), (.l .b), (.l .b), (.l .b), (.l .b), (.l .b), (.l .b), (.l .b), (.l .b), (.l (.i .i64)), (.l .s), (.l (.i .i64)), (.l (.sl 16)), (.l (.sl 16)), (.l (.sl 16))]), (1, .one (.l (.i .i64)))], []⟩
noncomputable def ddiref08_Reply_i (v0_0 : Int) (v0_1 : Int) (v0_2 : Int) (v0_3 : Bool) (v0_4 : Bool) (v0_5 : Bool) (v0_6 : Bool) (v0_7 : Bool) (v0_8 : Bool) (v0_9 : Bool) (v0_10 : Bool) (v0_11 : Int) (v0_12 : List UInt8) (v0_13 : Int) (v0_14 : List AV) (v0_15 : List AV) (v0_16 : List AV) (v1 : Int) : Option AV :=
  (bif (v0_11 != (0 : Int)) then (some (.agg [(.int .i64 v0_0), (.int .i64 v0_1), (.int .i64 v1), (.bool true), (.bool false), (.bool false), (.bool v0_6), (.bool false), (.bool false), (.bool v0_9), (.bool v0_10), (.int .i64 (1232 : Int)), (.str v0_12), (.int .i64 v0_13), .nils, .nils, .nils])) else (some (.agg [(.int .i64 v0_0), (.int .i64 v0_1), (.int .i64 v1), (.bool true), (.bool false), (.bool false), (.bool v0_6), (.bool false), (.bool false), (.bool v0_9), (.bool v0_10), (.int .i64 (0 : Int)), (.str v0_12), (.int .i64 v0_13), .nils, .nils, .nils])))
noncomputable def ddiref08_Reply := hull ddiref08_Reply_i
theorem ddiref08_Reply_eq : ddiref08_Reply = ddiref08_Reply_i := hull_eq _
noncomputable def a_ddiref08_Reply : AC AV :=
  .seq (.reg [.op ⟨some 2, (.box (.t 0)), none⟩,
 .op ⟨some 4, (.alloc [(.int .i64 0), (.int .i64 0), (.int .i64 0), (.bool false), (.bool false), (.bool false), (.bool false), (.bool false), (.bool false), (.bool false), (.bool false), (.int .i64 0), (.str []), (.int .i64 0), .nils, .nils, .nils]), none⟩]) (.seq (.reg [.op ⟨some 6, (.fa 0 (.t 2)), none⟩,
 .op ⟨some 7, (.load false 1 (.t 6)), none⟩,
 .op ⟨some 8, (.fa 1 (.t 2)), none⟩,
 .op ⟨some 9, (.load false 1 (.t 8)), none⟩,
 .op ⟨some 10, (.mv (.t 1)), none⟩,
 .op ⟨some 11, (.fa 6 (.t 2)), none⟩,
 .op ⟨some 12, (.load false 1 (.t 11)), none⟩,
 .op ⟨some 13, (.fa 9 (.t 2)), none⟩,
 .op ⟨some 14, (.load false 1 (.t 13)), none⟩,
 .op ⟨some 15, (.fa 10 (.t 2)), none⟩,
 .op ⟨some 16, (.load false 1 (.t 15)), none⟩,
 .op ⟨some 17, (.fa 12 (.t 2)), none⟩,
 .op ⟨some 18, (.load true 2 (.t 17)), none⟩,
 .op ⟨some 19, (.build [(.int .i64 0), (.int .i64 0), (.int .i64 0), (.bool false), (.bool false), (.bool false), (.bool false), (.bool false), (.bool false), (.bool false), (.bool false), (.int .i64 0), (.str []), (.int .i64 0), .nils, .nils, .nils] [(0, (1, (.t 7))), (1, (1, (.t 9))), (2, (1, (.t 10))), (3, (1, (.c (.bool true)))), (6, (1, (.t 12))), (9, (1, (.t 14))), (10, (1, (.t 16))), (12, (2, (.t 18)))]), none⟩,
 .op ⟨some 5, (.alloc [(.int .i64 0), (.int .i64 0), (.int .i64 0), (.bool false), (.bool false), (.bool false), (.bool false), (.bool false), (.bool false), (.bool false), (.bool false), (.int .i64 0), (.str []), (.int .i64 0), .nils, .nils, .nils]), none⟩,
 .op ⟨none, (.store 17 (.t 5) (.t 19)), none⟩]) (.seq (.seq (.reg [.op ⟨some 20, (.fa 11 (.t 2)), none⟩,
 .op ⟨some 21, (.load false 1 (.t 20)), none⟩,
 .op ⟨some 22, (.bin .neq (.t 21) (.c (.int .i64 0))), none⟩]) (.cond (.t 22) (.reg [.op ⟨some 23, (.fa 11 (.t 5)), none⟩,
 .op ⟨none, (.store 1 (.t 23) (.c (.int .i64 1232))), none⟩]) (.skip))) (.seq (.reg [.op ⟨some 24, (.load true 17 (.t 5)), none⟩,
 .op ⟨none, (.store 17 (.t 4) (.t 24)), none⟩]) (.ret))))
theorem ok_ddiref08_Reply : AC.ok Tryd.prog (TIof Tryd.prog) 25 0 (kret [(.cell 4 true 17)] dec_ddiref08_Reply) a_ddiref08_Reply := (zA zT (zA zT (zA (zA zT (zA zT zT)) (zA zT zT))))
theorem t_ddiref08_Reply (v0_0 : Int) (v0_1 : Int) (v0_2 : Int) (v0_3 : Bool) (v0_4 : Bool) (v0_5 : Bool) (v0_6 : Bool) (v0_7 : Bool) (v0_8 : Bool) (v0_9 : Bool) (v0_10 : Bool) (v0_11 : Int) (v0_12 : List UInt8) (v0_13 : Int) (v0_14 : List AV) (v0_15 : List AV) (v0_16 : List AV) (v1 : Int) : den 0 (kret [(.cell 4 true 17)] dec_ddiref08_Reply) a_ddiref08_Reply (envOf [(0, (.agg [(.int .i64 v0_0), (.int .i64 v0_1), (.int .i64 v0_2), (.bool v0_3), (.bool v0_4), (.bool v0_5), (.bool v0_6), (.bool v0_7), (.bool v0_8), (.bool v0_9), (.bool v0_10), (.int .i64 v0_11), (.str v0_12), (.int .i64 v0_13), (.sl 16 v0_14), (.sl 16 v0_15), (.sl 16 v0_16)])), (1, (.int .i64 v1))]) (memOf []) (kend (kret [(.cell 4 true 17)] dec_ddiref08_Reply)) = ddiref08_Reply v0_0 v0_1 v0_2 v0_3 v0_4 v0_5 v0_6 v0_7 v0_8 v0_9 v0_10 v0_11 v0_12 v0_13 v0_14 v0_15 v0_16 v1 := by
  rw [ddiref08_Reply_eq]; kernel_rfl
theorem c_ddiref08_Reply : cFn (TIof Tryd.prog) Tryd.f49 = some ⟨25, [(.cell 4 true 17)], scOf a_ddiref08_Reply⟩ := by kernel_rfl
noncomputable def ent_ddiref08_Reply {R : Type} (xs : List AV) (K : AV → Option R) : Option R := chk (fitS shp_ddiref08_Reply (entry xs) Mem.none) (oB (ddiref08_Reply (gI ((entry xs) 0).cells 0) (gI ((entry xs) 0).cells 1) (gI ((entry xs) 0).cells 2) (gB ((entry xs) 0).cells 3) (gB ((entry xs) 0).cells 4) (gB ((entry xs) 0).cells 5) (gB ((entry xs) 0).cells 6) (gB ((entry xs) 0).cells 7) (gB ((entry xs) 0).cells 8) (gB ((entry xs) 0).cells 9) (gB ((entry xs) 0).cells 10) (gI ((entry xs) 0).cells 11) (gS ((entry xs) 0).cells 12) (gI ((entry xs) 0).cells 13) (gL ((entry xs) 0).cells 14) (gL ((entry xs) 0).cells 15) (gL ((entry xs) 0).cells 16) (gI [(entry xs) 1] 0)) fun r => K (enc_ddiref08_Reply r))
theorem k_ddiref08_Reply {R : Type} : EntOkB Tryd.prog 49 (ent_ddiref08_Reply (R := R)) :=
  ent_of (F := fun xs => ddiref08_Reply (gI ((entry xs) 0).cells 0) (gI ((entry xs) 0).cells 1) (gI ((entry xs) 0).cells 2) (gB ((entry xs) 0).cells 3) (gB ((entry xs) 0).cells 4) (gB ((entry xs) 0).cells 5) (gB ((entry xs) 0).cells 6) (gB ((entry xs) 0).cells 7) (gB ((entry xs) 0).cells 8) (gB ((entry xs) 0).cells 9) (gB ((entry xs) 0).cells 10) (gI ((entry xs) 0).cells 11) (gS ((entry xs) 0).cells 12) (gI ((entry xs) 0).cells 13) (gL ((entry xs) 0).cells 14) (gL ((entry xs) 0).cells 15) (gL ((entry xs) 0).cells 16) (gI [(entry xs) 1] 0)) (enc := enc_ddiref08_Reply) tabOk follows Tryd.func49 (by kernel_rfl) c_ddiref08_Reply (fun z r h => by
 obtain ⟨h1, h2⟩ := cond_some h
 cases h2
 exact (etaRV_eq h1).symm) ok_ddiref08_Reply (er_of (by kernel_rfl)) shp_ddiref08_Reply (fun xs => t_ddiref08_Reply (gI ((entry xs) 0).cells 0) (gI ((entry xs) 0).cells 1) (gI ((entry xs) 0).cells 2) (gB ((entry xs) 0).cells 3) (gB ((entry xs) 0).cells 4) (gB ((entry xs) 0).cells 5) (gB ((entry xs) 0).cells 6) (gB ((entry xs) 0).cells 7) (gB ((entry xs) 0).cells 8) (gB ((entry xs) 0).cells 9) (gB ((entry xs) 0).cells 10) (gI ((entry xs) 0).cells 11) (gS ((entry xs) 0).cells 12) (gI ((entry xs) 0).cells 13) (gL ((entry xs) 0).cells 14) (gL ((entry xs) 0).cells 15) (gL ((entry xs) 0).cells 16) (gI [(entry xs) 1] 0)) (fun xs K r h => by
 unfold ent_ddiref08_Reply at h
 exact ⟨(chk_some h).1, oB_some (chk_some h).2⟩)
def dec_ddiref26_typed (z : AV) : Option (List AV) := cond (fitRV (.one (.fr true 16)) z) (some (aL z)) none
def enc_ddiref26_typed (r : (List AV)) : AV := .fr true 16 r
def shp_ddiref26_typed_L8 : Shp := ⟨[(0, .one (.l (.sl 16))), (1, .one (.l (.i .i64))), (2, .one (.l .s)), (7, .one (.own 0)), (8, .one (.l (.i .i64)))], [.arr true 16]⟩
noncomputable def ddiref26_typed_L8_b  (v0 : List AV) (v1 : Int) (v2 : List UInt8) (v8 : Int) (a0 : List AV) (next : Int → (List AV) → Option (List AV)) (kx0 : (List AV) → Option (List AV)) : Option (List AV) :=
  (bif (decide (v8 < (v0.length : Int))) then (oB (ixB v0 v8) fun y1 => (bif fitC T_api_Record y1.cells then (bif (((gI y1.cells 1) == v1) || (v1 == (255 : Int))) then (oB (ixB v0 v8) fun y2 => (bif fitC T_api_Record y2.cells then (bif hd a0 a0.length then (bif hd ([(.agg [(.str v2), (.int .i64 (gI y2.cells 1)), (.int .i64 (gI y2.cells 2)), (.bool (gB y2.cells 3)), (.int .u64 (gI y2.cells 4)), (.int .u64 (gI y2.cells 5)), (.str (gS y2.cells 6)), (.str (gS y2.cells 7)), (.str (gS y2.cells 8)), (.int .i64 (gI y2.cells 9)), (.int .i64 (gI y2.cells 10)), (.int .i64 (gI y2.cells 11)), (.int .i64 (gI y2.cells 12)), (.int .i64 (gI y2.cells 13)), (.int .i64 (gI y2.cells 14)), (.int .u64 (gI y2.cells 15))])] : List AV) (([(.agg [(.str v2), (.int .i64 (gI y2.cells 1)), (.int .i64 (gI y2.cells 2)), (.bool (gB y2.cells 3)), (.int .u64 (gI y2.cells 4)), (.int .u64 (gI y2.cells 5)), (.str (gS y2.cells 6)), (.str (gS y2.cells 7)), (.str (gS y2.cells 8)), (.int .i64 (gI y2.cells 9)), (.int .i64 (gI y2.cells 10)), (.int .i64 (gI y2.cells 11)), (.int .i64 (gI y2.cells 12)), (.int .i64 (gI y2.cells 13)), (.int .i64 (gI y2.cells 14)), (.int .u64 (gI y2.cells 15))])] : List AV).length) then (bif decide ((a0.length + ([(.agg [(.str v2), (.int .i64 (gI y2.cells 1)), (.int .i64 (gI y2.cells 2)), (.bool (gB y2.cells 3)), (.int .u64 (gI y2.cells 4)), (.int .u64 (gI y2.cells 5)), (.str (gS y2.cells 6)), (.str (gS y2.cells 7)), (.str (gS y2.cells 8)), (.int .i64 (gI y2.cells 9)), (.int .i64 (gI y2.cells 10)), (.int .i64 (gI y2.cells 11)), (.int .i64 (gI y2.cells 12)), (.int .i64 (gI y2.cells 13)), (.int .i64 (gI y2.cells 14)), (.int .u64 (gI y2.cells 15))])] : List AV).length) * 160 ≤ 140737488355328) then (next (IntKind.i64.wrap (v8 + (1 : Int))) (a0 ++ ([(.agg [(.str v2), (.int .i64 (gI y2.cells 1)), (.int .i64 (gI y2.cells 2)), (.bool (gB y2.cells 3)), (.int .u64 (gI y2.cells 4)), (.int .u64 (gI y2.cells 5)), (.str (gS y2.cells 6)), (.str (gS y2.cells 7)), (.str (gS y2.cells 8)), (.int .i64 (gI y2.cells 9)), (.int .i64 (gI y2.cells 10)), (.int .i64 (gI y2.cells 11)), (.int .i64 (gI y2.cells 12)), (.int .i64 (gI y2.cells 13)), (.int .i64 (gI y2.cells 14)), (.int .u64 (gI y2.cells 15))])] : List AV))) else none) else none) else none) else none)) else (next (IntKind.i64.wrap (v8 + (1 : Int))) a0)) else none)) else (kx0 a0))
noncomputable def ddiref26_typed_L8_i  (v0 : List AV) (v1 : Int) (v2 : List UInt8) (kx0 : (List AV) → Option (List AV)) : Nat → Int → (List AV) → Option (List AV)
  | 0 => (fun _ _ => none)
  | n + 1 => (fun v8 a0 => ddiref26_typed_L8_b v0 v1 v2 v8 a0 (ddiref26_typed_L8_i v0 v1 v2 kx0 n) kx0)
noncomputable def ddiref26_typed_L8 := hull (ddiref26_typed_L8_i)
theorem ddiref26_typed_L8_eq : ddiref26_typed_L8 = ddiref26_typed_L8_i := hull_eq _
noncomputable def a_ddiref26_typed_L8 : AC (List AV) :=
  .seq (.seq (.reg [.op ⟨some 10, (.mv (.t 8)), none⟩,
 .op ⟨some 11, (.mv (.t 0)), none⟩,
 .op ⟨some 12, (.len false (.t 11)), none⟩,
 .op ⟨some 13, (.bin .lss (.t 10) (.t 12)), none⟩]) (.cond (.t 13) (.skip) (.seq (.view [.sel [7] [0]]) (.exit 0)))) (.seq (.block 1 (.seq (.reg [.op ⟨some 16, (.mv (.t 0)), none⟩,
 .op ⟨some 17, (.mv (.t 8)), none⟩,
 .op ⟨some 18, (.ia 16 (.t 16) (.t 17)), none⟩,
 .st (.etac 18 T_api_Record),
 .op ⟨some 19, (.fa 1 (.t 18)), none⟩,
 .op ⟨some 20, (.load false 1 (.t 19)), none⟩,
 .op ⟨some 21, (.mv (.t 1)), none⟩,
 .op ⟨some 22, (.bin .eql (.t 20) (.t 21)), none⟩,
 .op ⟨some 23, (.mv (.t 22)), none⟩,
 .grp 23 false [⟨some 24, (.mv (.t 1)), (some (23, false))⟩, ⟨some 25, (.bin .eql (.t 24) (.c (.int .i64 255))), (some (23, false))⟩] 26 (.t 25)]) (.cond (.t 26) (.seq (.reg [.op ⟨some 27, (.mv (.t 0)), none⟩,
 .op ⟨some 28, (.mv (.t 8)), none⟩,
 .op ⟨some 29, (.ia 16 (.t 27) (.t 28)), none⟩,
 .st (.etac 29 T_api_Record),
 .op ⟨some 30, (.load true 16 (.t 29)), none⟩,
 .op ⟨some 9, (.alloc [(.str []), (.int .i64 0), (.int .i64 0), (.bool false), (.int .u64 0), (.int .u64 0), (.str []), (.str []), (.str []), (.int .i64 0), (.int .i64 0), (.int .i64 0), (.int .i64 0), (.int .i64 0), (.int .i64 0), (.int .u64 0)]), none⟩,
 .op ⟨none, (.store 16 (.t 9) (.t 30)), none⟩]) (.seq (.reg [.op ⟨some 31, (.mv (.t 2)), none⟩,
 .op ⟨some 32, (.fa 0 (.t 9)), none⟩,
 .op ⟨none, (.store 1 (.t 32) (.t 31)), none⟩]) (.reg [.op ⟨some 33, (.mv (.t 7)), none⟩,
 .op ⟨some 34, (.load true 16 (.t 9)), none⟩,
 .op ⟨some 35, (.bsl 16 [.t 34]), none⟩,
 .op ⟨some 36, (.app 16 160 (.t 33) (.t 35)), none⟩,
 .op ⟨some 7, (.mv (.t 36)), none⟩]))) (.skip)))) (.seq (.reg [.op ⟨some 14, (.mv (.t 8)), none⟩,
 .op ⟨some 15, (.bin .add (.t 14) (.c (.int .i64 1))), none⟩,
 .op ⟨some 8, (.mv (.t 15)), none⟩]) (.view [.sel [0, 1, 2, 7, 8] [0]])))
theorem ok_ddiref26_typed_L8 : AC.ok Tryd.prog (TIof Tryd.prog) 38 0 (kret [.t 6] dec_ddiref26_typed) a_ddiref26_typed_L8 := (zA (zA zT (zA zT (zA zT zT))) (zA (zA zT (zA (zA zT (zA zT zT)) zT)) (zA zT zT)))
theorem t_ddiref26_typed_L8_b (v0 : List AV) (v1 : Int) (v2 : List UInt8) (v8 : Int) (a0 : List AV) (K : Ex → Env → Mem → Option (List AV)) : den 0 (kret [.t 6] dec_ddiref26_typed) a_ddiref26_typed_L8 (envOf [(0, (.sl 16 v0)), (1, (.int .i64 v1)), (2, (.str v2)), (7, (.own 0 a0.length)), (8, (.int .i64 v8))]) (memOf [(some (.arr true 16 a0))]) K = ddiref26_typed_L8_b v0 v1 v2 v8 a0 (fun z_v8 z_a0 => K .norm (envOf [(0, (.sl 16 v0)), (1, (.int .i64 v1)), (2, (.str v2)), (7, (.own 0 z_a0.length)), (8, (.int .i64 z_v8))]) (memOf [(some (.arr true 16 z_a0))])) (fun z_a0 => K (.exit 0) (envOf [(7, (.own 0 z_a0.length))]) (memOf [(some (.arr true 16 z_a0))])) := by kernel_rfl
theorem t_ddiref26_typed_L8 (v0 : List AV) (v1 : Int) (v2 : List UInt8) (K : Ex → Env → Mem → Option (List AV)) : ∀ (n : Nat) (v8 : Int) (a0 : List AV), iterD (den 0 (kret [.t 6] dec_ddiref26_typed) a_ddiref26_typed_L8) n (envOf [(0, (.sl 16 v0)), (1, (.int .i64 v1)), (2, (.str v2)), (7, (.own 0 a0.length)), (8, (.int .i64 v8))]) (memOf [(some (.arr true 16 a0))]) K = ddiref26_typed_L8 v0 v1 v2 (fun z_a0 => K (.exit 0) (envOf [(7, (.own 0 z_a0.length))]) (memOf [(some (.arr true 16 z_a0))])) n v8 a0 := by
  rw [ddiref26_typed_L8_eq]
  intro n
  induction n with
  | zero => intros; rfl
  | succ n ih =>
 intro v8 a0
 exact (t_ddiref26_typed_L8_b v0 v1 v2 v8 a0 (itK (den 0 (kret [.t 6] dec_ddiref26_typed) a_ddiref26_typed_L8) n K)).trans (congrArg (fun q => ddiref26_typed_L8_b v0 v1 v2 v8 a0 q (fun z_a0 => K (.exit 0) (envOf [(7, (.own 0 z_a0.length))]) (memOf [(some (.arr true 16 z_a0))]))) (funext fun v8 => funext fun a0 => ih v8 a0))
noncomputable def s_ddiref26_typed_L8 : Env → Mem → (Ex → Env → Mem → Option (List AV)) → Option (List AV) := fun t m K => chk (fitS0 shp_ddiref26_typed_L8 t m) (cond (hdS shp_ddiref26_typed_L8 t m) (ddiref26_typed_L8 (gL [t 0] 0) (gI [t 1] 0) (gS [t 2] 0) (fun z_a0 => K (.exit 0) (envOf [(7, (.own 0 z_a0.length))]) (memOf [(some (.arr true 16 z_a0))])) FU (gI [t 8] 0) (arL (m.s 0))) none)
theorem o_ddiref26_typed_L8 : SubOk Tryd.prog (TIof Tryd.prog) 38 0 (kret [.t 6] dec_ddiref26_typed) (.loop (scOf a_ddiref26_typed_L8)) s_ddiref26_typed_L8 :=
  loop_of tabOk follows ok_ddiref26_typed_L8 (er_of (by kernel_rfl)) shp_ddiref26_typed_L8 (fun t m K => congrArg (fun z => chk (fitS0 shp_ddiref26_typed_L8 t m) (cond (hdS shp_ddiref26_typed_L8 t m) z none)) (t_ddiref26_typed_L8 (gL [t 0] 0) (gI [t 1] 0) (gS [t 2] 0) K FU (gI [t 8] 0) (arL (m.s 0))).symm)
def shp_ddiref26_typed : Shp := ⟨[(0, .one (.l (.sl 16))), (1, .one (.l (.i .i64))), (2, .one (.l .s))], []⟩
noncomputable def ddiref26_typed_i (v0 : List AV) (v1 : Int) (v2 : List UInt8) : Option (List AV) :=
  (bif (hd ([] : List AV) (([] : List AV).length) && true) then (ddiref26_typed_L8 v0 v1 v2 (fun a0q1 => (bif hd a0q1 a0q1.length then (some a0q1) else none)) FU (0 : Int) ([] : List AV)) else none)
noncomputable def ddiref26_typed := hull ddiref26_typed_i
theorem ddiref26_typed_eq : ddiref26_typed = ddiref26_typed_i := hull_eq _
noncomputable def a_ddiref26_typed : AC (List AV) :=
  .seq (.reg [.op ⟨some 6, (.mv (.c .nils)), none⟩]) (.seq (.reg [.op ⟨some 7, (.mv (.c .nils)), none⟩]) (.seq (.seq (.reg [.op ⟨some 8, (.mv (.c (.int .i64 0))), none⟩]) (.block 0 (.seq (.view [.own 7 16, .sel [0, 1, 2, 7, 8] [0]]) (.sub (.loop (scOf a_ddiref26_typed_L8)) s_ddiref26_typed_L8)))) (.seq (.reg [.op ⟨some 37, (.mv (.t 7)), none⟩,
 .op ⟨some 6, (.mv (.t 37)), none⟩]) (.ret))))
theorem ok_ddiref26_typed : AC.ok Tryd.prog (TIof Tryd.prog) 38 0 (kret [.t 6] dec_ddiref26_typed) a_ddiref26_typed := (zA zT (zA zT (zA (zA zT (zA zT o_ddiref26_typed_L8)) (zA zT zT))))
theorem t_ddiref26_typed (v0 : List AV) (v1 : Int) (v2 : List UInt8) : den 0 (kret [.t 6] dec_ddiref26_typed) a_ddiref26_typed (envOf [(0, (.sl 16 v0)), (1, (.int .i64 v1)), (2, (.str v2))]) (memOf []) (kend (kret [.t 6] dec_ddiref26_typed)) = ddiref26_typed v0 v1 v2 := by
  rw [ddiref26_typed_eq]; kernel_rfl
theorem c_ddiref26_typed : cFn (TIof Tryd.prog) Tryd.f50 = some ⟨38, [.t 6], scOf a_ddiref26_typed⟩ := by kernel_rfl
noncomputable def ent_ddiref26_typed {R : Type} (xs : List AV) (K : AV → Option R) : Option R := chk (fitS shp_ddiref26_typed (entry xs) Mem.none) (oB (ddiref26_typed (gL [(entry xs) 0] 0) (gI [(entry xs) 1] 0) (gS [(entry xs) 2] 0)) fun r => K (enc_ddiref26_typed r))
theorem k_ddiref26_typed {R : Type} : EntOkB Tryd.prog 50 (ent_ddiref26_typed (R := R)) :=
  ent_of (F := fun xs => ddiref26_typed (gL [(entry xs) 0] 0) (gI [(entry xs) 1] 0) (gS [(entry xs) 2] 0)) (enc := enc_ddiref26_typed) tabOk follows Tryd.func50 (by kernel_rfl) c_ddiref26_typed (fun z r h => by
 obtain ⟨h1, h2⟩ := cond_some h
 cases h2
 exact (etaRV_eq h1).symm) ok_ddiref26_typed (er_of (by kernel_rfl)) shp_ddiref26_typed (fun xs => t_ddiref26_typed (gL [(entry xs) 0] 0) (gI [(entry xs) 1] 0) (gS [(entry xs) 2] 0)) (fun xs K r h => by
 unfold ent_ddiref26_typed at h
 exact ⟨(chk_some h).1, oB_some (chk_some h).2⟩)
def dec_ddiref26_Act (z : AV) : Option AV := cond (fitRV (.st [(.i .i64), (.i .i64), (.i .i64), .b, .b, .b, .b, .b, .b, .b, .b, (.i .i64), .s, (.i .i64), (.sl 16), (.sl 16), (.sl 16)]) z) (some (z)) none
def enc_ddiref26_Act (r : AV) : AV := etaRV (.st [(.i .i64), (.i .i64), (.i .i64), .b, .b, .b, .b, .b, .b, .b, .b, (.i .i64), .s, (.i .i64), (.sl 16), (.sl 16), (.sl 16)]) r
def shp_ddiref26_Act_J13 : Shp := ⟨[(3, .one (.ptr 0 0)), (4, .one (.ptr 1 0)), (5, .one (.ptr 2 0)), (6, .one (.ptr 3 0)), (7, .one (.l (.i .i64)))], [.box true [(.l (.i .i64)), (.l .s), (.l .b), (.l (.i .u64)), (.l (.i .u64)), (.l (.i .i64)), (.l (.i .i64)), (.l (.sl 16))], .box true [(.l (.i .i64)), (.l (.i .i64)), (.l (.i .i64)), (.l .b), (.l .b), (.l .b), (.l .b), (.l .b), (.l .b), (.l .b), (.l .b), (.l (.i .i64)), (.l .s), (.l (.i .i64)), (.l (.sl 16)), (.l (.sl 16)), (.l (.sl 16))], .box true [(.l (.i .i64)), (.l (.i .i64)), (.l (.i .i64)), (.l .b), (.l .b), (.l .b), (.l .b), (.l .b), (.l .b), (.l .b), (.l .b), (.l (.i .i64)), (.l .s), (.l (.i .i64)), (.l (.sl 16)), (.l (.sl 16)), (.l (.sl 16))], .box true [(.l (.i .i64)), (.l (.i .i64)), (.l (.i .i64)), (.l .b), (.l .b), (.l .b), (.l .b), (.l .b), (.l .b), (.l .b), (.l .b), (.l (.i .i64)), (.l .s), (.l (.i .i64)), (.l .nil), (.l .nil), (.l .nil)]]⟩
noncomputable def ddiref26_Act_J13_i  (v7 : Int) (b0_0 : Int) (b0_1 : List UInt8) (b0_2 : Bool) (b0_3 : Int) (b0_4 : Int) (b0_5 : Int) (b0_6 : Int) (b0_7 : List AV) (b1_0 : Int) (b1_1 : Int) (b1_2 : Int) (b1_3 : Bool) (b1_4 : Bool) (b1_5 : Bool) (b1_6 : Bool) (b1_7 : Bool) (b1_8 : Bool) (b1_9 : Bool) (b1_10 : Bool) (b1_11 : Int) (b1_12 : List UInt8) (b1_13 : Int) (b1_14 : List AV) (b1_15 : List AV) (b1_16 : List AV) (b2_0 : Int) (b2_1 : Int) (b2_2 : Int) (b2_3 : Bool) (b2_4 : Bool) (b2_5 : Bool) (b2_6 : Bool) (b2_7 : Bool) (b2_8 : Bool) (b2_9 : Bool) (b2_10 : Bool) (b2_11 : Int) (b2_12 : List UInt8) (b2_13 : Int) (b2_14 : List AV) (b2_15 : List AV) (b2_16 : List AV) (b3_0 : Int) (b3_1 : Int) (b3_2 : Int) (b3_3 : Bool) (b3_4 : Bool) (b3_5 : Bool) (b3_6 : Bool) (b3_7 : Bool) (b3_8 : Bool) (b3_9 : Bool) (b3_10 : Bool) (b3_11 : Int) (b3_12 : List UInt8) (b3_13 : Int) (kn : Int → Option AV) : Option AV :=
  (bif (b0_6 == (2 : Int)) then (kn (3 : Int)) else (kn v7))
noncomputable def ddiref26_Act_J13 := hull (ddiref26_Act_J13_i)
theorem ddiref26_Act_J13_eq : ddiref26_Act_J13 = ddiref26_Act_J13_i := hull_eq _
noncomputable def a_ddiref26_Act_J13 : AC AV :=
  .seq (.reg [.op ⟨some 13, (.fa 6 (.t 3)), none⟩,
 .op ⟨some 14, (.load false 1 (.t 13)), none⟩,
 .op ⟨some 15, (.bin .eql (.t 14) (.c (.int .i64 2))), none⟩]) (.cond (.t 15) (.seq (.reg [.op ⟨some 7, (.mv (.c (.int .i64 3))), none⟩]) (.view [.sel [3, 4, 5, 6, 7] [0, 1, 2, 3]])) (.seq (.skip) (.view [.sel [3, 4, 5, 6, 7] [0, 1, 2, 3]])))
theorem ok_ddiref26_Act_J13 : AC.ok Tryd.prog (TIof Tryd.prog) 50 0 (kret [(.cell 6 true 17)] dec_ddiref26_Act) a_ddiref26_Act_J13 := (zA zT (zA (zA zT zT) (zA zT zT)))
theorem t_ddiref26_Act_J13 (v7 : Int) (b0_0 : Int) (b0_1 : List UInt8) (b0_2 : Bool) (b0_3 : Int) (b0_4 : Int) (b0_5 : Int) (b0_6 : Int) (b0_7 : List AV) (b1_0 : Int) (b1_1 : Int) (b1_2 : Int) (b1_3 : Bool) (b1_4 : Bool) (b1_5 : Bool) (b1_6 : Bool) (b1_7 : Bool) (b1_8 : Bool) (b1_9 : Bool) (b1_10 : Bool) (b1_11 : Int) (b1_12 : List UInt8) (b1_13 : Int) (b1_14 : List AV) (b1_15 : List AV) (b1_16 : List AV) (b2_0 : Int) (b2_1 : Int) (b2_2 : Int) (b2_3 : Bool) (b2_4 : Bool) (b2_5 : Bool) (b2_6 : Bool) (b2_7 : Bool) (b2_8 : Bool) (b2_9 : Bool) (b2_10 : Bool) (b2_11 : Int) (b2_12 : List UInt8) (b2_13 : Int) (b2_14 : List AV) (b2_15 : List AV) (b2_16 : List AV) (b3_0 : Int) (b3_1 : Int) (b3_2 : Int) (b3_3 : Bool) (b3_4 : Bool) (b3_5 : Bool) (b3_6 : Bool) (b3_7 : Bool) (b3_8 : Bool) (b3_9 : Bool) (b3_10 : Bool) (b3_11 : Int) (b3_12 : List UInt8) (b3_13 : Int) (K : Ex → Env → Mem → Option AV) : den 0 (kret [(.cell 6 true 17)] dec_ddiref26_Act) a_ddiref26_Act_J13 (envOf [(3, (.ptr 0 0)), (4, (.ptr 1 0)), (5, (.ptr 2 0)), (6, (.ptr 3 0)), (7, (.int .i64 v7))]) (memOf [(some (.box true [(.int .i64 b0_0), (.str b0_1), (.bool b0_2), (.int .u64 b0_3), (.int .u64 b0_4), (.int .i64 b0_5), (.int .i64 b0_6), (.sl 16 b0_7)])), (some (.box true [(.int .i64 b1_0), (.int .i64 b1_1), (.int .i64 b1_2), (.bool b1_3), (.bool b1_4), (.bool b1_5), (.bool b1_6), (.bool b1_7), (.bool b1_8), (.bool b1_9), (.bool b1_10), (.int .i64 b1_11), (.str b1_12), (.int .i64 b1_13), (.sl 16 b1_14), (.sl 16 b1_15), (.sl 16 b1_16)])), (some (.box true [(.int .i64 b2_0), (.int .i64 b2_1), (.int .i64 b2_2), (.bool b2_3), (.bool b2_4), (.bool b2_5), (.bool b2_6), (.bool b2_7), (.bool b2_8), (.bool b2_9), (.bool b2_10), (.int .i64 b2_11), (.str b2_12), (.int .i64 b2_13), (.sl 16 b2_14), (.sl 16 b2_15), (.sl 16 b2_16)])), (some (.box true [(.int .i64 b3_0), (.int .i64 b3_1), (.int .i64 b3_2), (.bool b3_3), (.bool b3_4), (.bool b3_5), (.bool b3_6), (.bool b3_7), (.bool b3_8), (.bool b3_9), (.bool b3_10), (.int .i64 b3_11), (.str b3_12), (.int .i64 b3_13), .nils, .nils, .nils]))]) K = ddiref26_Act_J13 v7 b0_0 b0_1 b0_2 b0_3 b0_4 b0_5 b0_6 b0_7 b1_0 b1_1 b1_2 b1_3 b1_4 b1_5 b1_6 b1_7 b1_8 b1_9 b1_10 b1_11 b1_12 b1_13 b1_14 b1_15 b1_16 b2_0 b2_1 b2_2 b2_3 b2_4 b2_5 b2_6 b2_7 b2_8 b2_9 b2_10 b2_11 b2_12 b2_13 b2_14 b2_15 b2_16 b3_0 b3_1 b3_2 b3_3 b3_4 b3_5 b3_6 b3_7 b3_8 b3_9 b3_10 b3_11 b3_12 b3_13 (fun z_v7 => K .norm (envOf [(3, (.ptr 0 0)), (4, (.ptr 1 0)), (5, (.ptr 2 0)), (6, (.ptr 3 0)), (7, (.int .i64 z_v7))]) (memOf [(some (.box true [(.int .i64 b0_0), (.str b0_1), (.bool b0_2), (.int .u64 b0_3), (.int .u64 b0_4), (.int .i64 b0_5), (.int .i64 b0_6), (.sl 16 b0_7)])), (some (.box true [(.int .i64 b1_0), (.int .i64 b1_1), (.int .i64 b1_2), (.bool b1_3), (.bool b1_4), (.bool b1_5), (.bool b1_6), (.bool b1_7), (.bool b1_8), (.bool b1_9), (.bool b1_10), (.int .i64 b1_11), (.str b1_12), (.int .i64 b1_13), (.sl 16 b1_14), (.sl 16 b1_15), (.sl 16 b1_16)])), (some (.box true [(.int .i64 b2_0), (.int .i64 b2_1), (.int .i64 b2_2), (.bool b2_3), (.bool b2_4), (.bool b2_5), (.bool b2_6), (.bool b2_7), (.bool b2_8), (.bool b2_9), (.bool b2_10), (.int .i64 b2_11), (.str b2_12), (.int .i64 b2_13), (.sl 16 b2_14), (.sl 16 b2_15), (.sl 16 b2_16)])), (some (.box true [(.int .i64 b3_0), (.int .i64 b3_1), (.int .i64 b3_2), (.bool b3_3), (.bool b3_4), (.bool b3_5), (.bool b3_6), (.bool b3_7), (.bool b3_8), (.bool b3_9), (.bool b3_10), (.int .i64 b3_11), (.str b3_12), (.int .i64 b3_13), .nils, .nils, .nils]))])) := by
  rw [ddiref26_Act_J13_eq]; kernel_rfl
noncomputable def s_ddiref26_Act_J13 : Env → Mem → (Ex → Env → Mem → Option AV) → Option AV := fun t m K => chk (fitS0 shp_ddiref26_Act_J13 t m) (cond (hdS shp_ddiref26_Act_J13 t m) (ddiref26_Act_J13 (gI [t 7] 0) (gI (bxC (m.s 0)) 0) (gS (bxC (m.s 0)) 1) (gB (bxC (m.s 0)) 2) (gI (bxC (m.s 0)) 3) (gI (bxC (m.s 0)) 4) (gI (bxC (m.s 0)) 5) (gI (bxC (m.s 0)) 6) (gL (bxC (m.s 0)) 7) (gI (bxC (m.s 1)) 0) (gI (bxC (m.s 1)) 1) (gI (bxC (m.s 1)) 2) (gB (bxC (m.s 1)) 3) (gB (bxC (m.s 1)) 4) (gB (bxC (m.s 1)) 5) (gB (bxC (m.s 1)) 6) (gB (bxC (m.s 1)) 7) (gB (bxC (m.s 1)) 8) (gB (bxC (m.s 1)) 9) (gB (bxC (m.s 1)) 10) (gI (bxC (m.s 1)) 11) (gS (bxC (m.s 1)) 12) (gI (bxC (m.s 1)) 13) (gL (bxC (m.s 1)) 14) (gL (bxC (m.s 1)) 15) (gL (bxC (m.s 1)) 16) (gI (bxC (m.s 2)) 0) (gI (bxC (m.s 2)) 1) (gI (bxC (m.s 2)) 2) (gB (bxC (m.s 2)) 3) (gB (bxC (m.s 2)) 4) (gB (bxC (m.s 2)) 5) (gB (bxC (m.s 2)) 6) (gB (bxC (m.s 2)) 7) (gB (bxC (m.s 2)) 8) (gB (bxC (m.s 2)) 9) (gB (bxC (m.s 2)) 10) (gI (bxC (m.s 2)) 11) (gS (bxC (m.s 2)) 12) (gI (bxC (m.s 2)) 13) (gL (bxC (m.s 2)) 14) (gL (bxC (m.s 2)) 15) (gL (bxC (m.s 2)) 16) (gI (bxC (m.s 3)) 0) (gI (bxC (m.s 3)) 1) (gI (bxC (m.s 3)) 2) (gB (bxC (m.s 3)) 3) (gB (bxC (m.s 3)) 4) (gB (bxC (m.s 3)) 5) (gB (bxC (m.s 3)) 6) (gB (bxC (m.s 3)) 7) (gB (bxC (m.s 3)) 8) (gB (bxC (m.s 3)) 9) (gB (bxC (m.s 3)) 10) (gI (bxC (m.s 3)) 11) (gS (bxC (m.s 3)) 12) (gI (bxC (m.s 3)) 13) (fun z_v7 => K .norm (envOf [(3, (.ptr 0 0)), (4, (.ptr 1 0)), (5, (.ptr 2 0)), (6, (.ptr 3 0)), (7, (.int .i64 z_v7))]) (memOf [(some (.box true [(.int .i64 (gI (bxC (m.s 0)) 0)), (.str (gS (bxC (m.s 0)) 1)), (.bool (gB (bxC (m.s 0)) 2)), (.int .u64 (gI (bxC (m.s 0)) 3)), (.int .u64 (gI (bxC (m.s 0)) 4)), (.int .i64 (gI (bxC (m.s 0)) 5)), (.int .i64 (gI (bxC (m.s 0)) 6)), (.sl 16 (gL (bxC (m.s 0)) 7))])), (some (.box true [(.int .i64 (gI (bxC (m.s 1)) 0)), (.int .i64 (gI (bxC (m.s 1)) 1)), (.int .i64 (gI (bxC (m.s 1)) 2)), (.bool (gB (bxC (m.s 1)) 3)), (.bool (gB (bxC (m.s 1)) 4)), (.bool (gB (bxC (m.s 1)) 5)), (.bool (gB (bxC (m.s 1)) 6)), (.bool (gB (bxC (m.s 1)) 7)), (.bool (gB (bxC (m.s 1)) 8)), (.bool (gB (bxC (m.s 1)) 9)), (.bool (gB (bxC (m.s 1)) 10)), (.int .i64 (gI (bxC (m.s 1)) 11)), (.str (gS (bxC (m.s 1)) 12)), (.int .i64 (gI (bxC (m.s 1)) 13)), (.sl 16 (gL (bxC (m.s 1)) 14)), (.sl 16 (gL (bxC (m.s 1)) 15)), (.sl 16 (gL (bxC (m.s 1)) 16))])), (some (.box true [(.int .i64 (gI (bxC (m.s 2)) 0)), (.int .i64 (gI (bxC (m.s 2)) 1)), (.int .i64 (gI (bxC (m.s 2)) 2)), (.bool (gB (bxC (m.s 2)) 3)), (.bool (gB (bxC (m.s 2)) 4)), (.bool (gB (bxC (m.s 2)) 5)), (.bool (gB (bxC (m.s 2)) 6)), (.bool (gB (bxC (m.s 2)) 7)), (.bool (gB (bxC (m.s 2)) 8)), (.bool (gB (bxC (m.s 2)) 9)), (.bool (gB (bxC (m.s 2)) 10)), (.int .i64 (gI (bxC (m.s 2)) 11)), (.str (gS (bxC (m.s 2)) 12)), (.int .i64 (gI (bxC (m.s 2)) 13)), (.sl 16 (gL (bxC (m.s 2)) 14)), (.sl 16 (gL (bxC (m.s 2)) 15)), (.sl 16 (gL (bxC (m.s 2)) 16))])), (some (.box true [(.int .i64 (gI (bxC (m.s 3)) 0)), (.int .i64 (gI (bxC (m.s 3)) 1)), (.int .i64 (gI (bxC (m.s 3)) 2)), (.bool (gB (bxC (m.s 3)) 3)), (.bool (gB (bxC (m.s 3)) 4)), (.bool (gB (bxC (m.s 3)) 5)), (.bool (gB (bxC (m.s 3)) 6)), (.bool (gB (bxC (m.s 3)) 7)), (.bool (gB (bxC (m.s 3)) 8)), (.bool (gB (bxC (m.s 3)) 9)), (.bool (gB (bxC (m.s 3)) 10)), (.int .i64 (gI (bxC (m.s 3)) 11)), (.str (gS (bxC (m.s 3)) 12)), (.int .i64 (gI (bxC (m.s 3)) 13)), .nils, .nils, .nils]))]))) none)
theorem o_ddiref26_Act_J13 : SubOk Tryd.prog (TIof Tryd.prog) 50 0 (kret [(.cell 6 true 17)] dec_ddiref26_Act) (scOf a_ddiref26_Act_J13) s_ddiref26_Act_J13 :=
  sub_of tabOk follows ok_ddiref26_Act_J13 (er_of (by kernel_rfl)) shp_ddiref26_Act_J13 (fun t m K => congrArg (fun z => chk (fitS0 shp_ddiref26_Act_J13 t m) (cond (hdS shp_ddiref26_Act_J13 t m) z none)) (t_ddiref26_Act_J13 (gI [t 7] 0) (gI (bxC (m.s 0)) 0) (gS (bxC (m.s 0)) 1) (gB (bxC (m.s 0)) 2) (gI (bxC (m.s 0)) 3) (gI (bxC (m.s 0)) 4) (gI (bxC (m.s 0)) 5) (gI (bxC (m.s 0)) 6) (gL (bxC (m.s 0)) 7) (gI (bxC (m.s 1)) 0) (gI (bxC (m.s 1)) 1) (gI (bxC (m.s 1)) 2) (gB (bxC (m.s 1)) 3) (gB (bxC (m.s 1)) 4) (gB (bxC (m.s 1)) 5) (gB (bxC (m.s 1)) 6) (gB (bxC (m.s 1)) 7) (gB (bxC (m.s 1)) 8) (gB (bxC (m.s 1)) 9) (gB (bxC (m.s 1)) 10) (gI (bxC (m.s 1)) 11) (gS (bxC (m.s 1)) 12) (gI (bxC (m.s 1)) 13) (gL (bxC (m.s 1)) 14) (gL (bxC (m.s 1)) 15) (gL (bxC (m.s 1)) 16) (gI (bxC (m.s 2)) 0) (gI (bxC (m.s 2)) 1) (gI (bxC (m.s 2)) 2) (gB (bxC (m.s 2)) 3) (gB (bxC (m.s 2)) 4) (gB (bxC (m.s 2)) 5) (gB (bxC (m.s 2)) 6) (gB (bxC (m.s 2)) 7) (gB (bxC (m.s 2)) 8) (gB (bxC (m.s 2)) 9) (gB (bxC (m.s 2)) 10) (gI (bxC (m.s 2)) 11) (gS (bxC (m.s 2)) 12) (gI (bxC (m.s 2)) 13) (gL (bxC (m.s 2)) 14) (gL (bxC (m.s 2)) 15) (gL (bxC (m.s 2)) 16) (gI (bxC (m.s 3)) 0) (gI (bxC (m.s 3)) 1) (gI (bxC (m.s 3)) 2) (gB (bxC (m.s 3)) 3) (gB (bxC (m.s 3)) 4) (gB (bxC (m.s 3)) 5) (gB (bxC (m.s 3)) 6) (gB (bxC (m.s 3)) 7) (gB (bxC (m.s 3)) 8) (gB (bxC (m.s 3)) 9) (gB (bxC (m.s 3)) 10) (gI (bxC (m.s 3)) 11) (gS (bxC (m.s 3)) 12) (gI (bxC (m.s 3)) 13) K).symm)
def shp_ddiref26_Act_J19 : Shp := ⟨[(3, .one (.ptr 0 0)), (4, .one (.ptr 1 0)), (5, .one (.ptr 2 0)), (6, .one (.ptr 3 0)), (7, .one (.l (.i .i64)))], [.box true [(.l (.i .i64)), (.l .s), (.l .b), (.l (.i .u64)), (.l (.i .u64)), (.l (.i .i64)), (.l (.i .i64)), (.l (.sl 16))], .box true [(.l (.i .i64)), (.l (.i .i64)), (.l (.i .i64)), (.l .b), (.l .b), (.l .b), (.l .b), (.l .b), (.l .b), (.l .b), (.l .b), (.l (.i .i64)), (.l .s), (.l (.i .i64)), (.l (.sl 16)), (.l (.sl 16)), (.l (.sl 16))], .box true [(.l (.i .i64)), (.l (.i .i64)), (.l (.i .i64)), (.l .b), (.l .b), (.l .b), (.l .b), (.l .b), (.l .b), (.l .b), (.l .b), (.l (.i .i64)), (.l .s), (.l (.i .i64)), (.l (.sl 16)), (.l (.sl 16)), (.l (.sl 16))], .box true [(.l (.i .i64)), (.l (.i .i64)), (.l (.i .i64)), (.l .b), (.l .b), (.l .b), (.l .b), (.l .b), (.l .b), (.l .b), (.l .b), (.l (.i .i64)), (.l .s), (.l (.i .i64)), (.l .nil), (.l .nil), (.l .nil)]]⟩
noncomputable def ddiref26_Act_J19_i  (v7 : Int) (b0_0 : Int) (b0_1 : List UInt8) (b0_2 : Bool) (b0_3 : Int) (b0_4 : Int) (b0_5 : Int) (b0_6 : Int) (b0_7 : List AV) (b1_0 : Int) (b1_1 : Int) (b1_2 : Int) (b1_3 : Bool) (b1_4 : Bool) (b1_5 : Bool) (b1_6 : Bool) (b1_7 : Bool) (b1_8 : Bool) (b1_9 : Bool) (b1_10 : Bool) (b1_11 : Int) (b1_12 : List UInt8) (b1_13 : Int) (b1_14 : List AV) (b1_15 : List AV) (b1_16 : List AV) (b2_0 : Int) (b2_1 : Int) (b2_2 : Int) (b2_3 : Bool) (b2_4 : Bool) (b2_5 : Bool) (b2_6 : Bool) (b2_7 : Bool) (b2_8 : Bool) (b2_9 : Bool) (b2_10 : Bool) (b2_11 : Int) (b2_12 : List UInt8) (b2_13 : Int) (b2_14 : List AV) (b2_15 : List AV) (b2_16 : List AV) (b3_0 : Int) (b3_1 : Int) (b3_2 : Int) (b3_3 : Bool) (b3_4 : Bool) (b3_5 : Bool) (b3_6 : Bool) (b3_7 : Bool) (b3_8 : Bool) (b3_9 : Bool) (b3_10 : Bool) (b3_11 : Int) (b3_12 : List UInt8) (b3_13 : Int) (kn : Int → Option AV) : Option AV :=
  (bif (b0_6 == (5 : Int)) then (kn (5 : Int)) else (kn v7))
noncomputable def ddiref26_Act_J19 := hull (ddiref26_Act_J19_i)
theorem ddiref26_Act_J19_eq : ddiref26_Act_J19 = ddiref26_Act_J19_i := hull_eq _
noncomputable def a_ddiref26_Act_J19 : AC AV :=
  .seq (.reg [.op ⟨some 16, (.fa 6 (.t 3)), none⟩,
 .op ⟨some 17, (.load false 1 (.t 16)), none⟩,
 .op ⟨some 18, (.bin .eql (.t 17) (.c (.int .i64 5))), none⟩]) (.cond (.t 18) (.seq (.reg [.op ⟨some 7, (.mv (.c (.int .i64 5))), none⟩]) (.view [.sel [3, 4, 5, 6, 7] [0, 1, 2, 3]])) (.seq (.skip) (.view [.sel [3, 4, 5, 6, 7] [0, 1, 2, 3]])))
theorem ok_ddiref26_Act_J19 : AC.ok Tryd.prog (TIof Tryd.prog) 50 0 (kret [(.cell 6 true 17)] dec_ddiref26_Act) a_ddiref26_Act_J19 := (zA zT (zA (zA zT zT) (zA zT zT)))
theorem t_ddiref26_Act_J19 (v7 : Int) (b0_0 : Int) (b0_1 : List UInt8) (b0_2 : Bool) (b0_3 : Int) (b0_4 : Int) (b0_5 : Int) (b0_6 : Int) (b0_7 : List AV) (b1_0 : Int) (b1_1 : Int) (b1_2 : Int) (b1_3 : Bool) (b1_4 : Bool) (b1_5 : Bool) (b1_6 : Bool) (b1_7 : Bool) (b1_8 : Bool) (b1_9 : Bool) (b1_10 : Bool) (b1_11 : Int) (b1_12 : List UInt8) (b1_13 : Int) (b1_14 : List AV) (b1_15 : List AV) (b1_16 : List AV) (b2_0 : Int) (b2_1 : Int) (b2_2 : Int) (b2_3 : Bool) (b2_4 : Bool) (b2_5 : Bool) (b2_6 : Bool) (b2_7 : Bool) (b2_8 : Bool) (b2_9 : Bool) (b2_10 : Bool) (b2_11 : Int) (b2_12 : List UInt8) (b2_13 : Int) (b2_14 : List AV) (b2_15 : List AV) (b2_16 : List AV) (b3_0 : Int) (b3_1 : Int) (b3_2 : Int) (b3_3 : Bool) (b3_4 : Bool) (b3_5 : Bool) (b3_6 : Bool) (b3_7 : Bool) (b3_8 : Bool) (b3_9 : Bool) (b3_10 : Bool) (b3_11 : Int) (b3_12 : List UInt8) (b3_13 : Int) (K : Ex → Env → Mem → Option AV) : den 0 (kret [(.cell 6 true 17)] dec_ddiref26_Act) a_ddiref26_Act_J19 (envOf [(3, (.ptr 0 0)), (4, (.ptr 1 0)), (5, (.ptr 2 0)), (6, (.ptr 3 0)), (7, (.int .i64 v7))]) (memOf [(some (.box true [(.int .i64 b0_0), (.str b0_1), (.bool b0_2), (.int .u64 b0_3), (.int .u64 b0_4), (.int .i64 b0_5), (.int .i64 b0_6), (.sl 16 b0_7)])), (some (.box true [(.int .i64 b1_0), (.int .i64 b1_1), (.int .i64 b1_2), (.bool b1_3), (.bool b1_4), (.bool b1_5), (.bool b1_6), (.bool b1_7), (.bool b1_8), (.bool b1_9), (.bool b1_10), (.int .i64 b1_11), (.str b1_12), (.int .i64 b1_13), (.sl 16 b1_14), (.sl 16 b1_15), (.sl 16 b1_16)])), (some (.box true [(.int .i64 b2_0), (.int .i64 b2_1), (.int .i64 b2_2), (.bool b2_3), (.bool b2_4), (.bool b2_5), (.bool b2_6), (.bool b2_7), (.bool b2_8), (.bool b2_9), (.bool b2_10), (.int .i64 b2_11), (.str b2_12), (.int .i64 b2_13), (.sl 16 b2_14), (.sl 16 b2_15), (.sl 16 b2_16)])), (some (.box true [(.int .i64 b3_0), (.int .i64 b3_1), (.int .i64 b3_2), (.bool b3_3), (.bool b3_4), (.bool b3_5), (.bool b3_6), (.bool b3_7), (.bool b3_8), (.bool b3_9), (.bool b3_10), (.int .i64 b3_11), (.str b3_12), (.int .i64 b3_13), .nils, .nils, .nils]))]) K = ddiref26_Act_J19 v7 b0_0 b0_1 b0_2 b0_3 b0_4 b0_5 b0_6 b0_7 b1_0 b1_1 b1_2 b1_3 b1_4 b1_5 b1_6 b1_7 b1_8 b1_9 b1_10 b1_11 b1_12 b1_13 b1_14 b1_15 b1_16 b2_0 b2_1 b2_2 b2_3 b2_4 b2_5 b2_6 b2_7 b2_8 b2_9 b2_10 b2_11 b2_12 b2_13 b2_14 b2_15 b2_16 b3_0 b3_1 b3_2 b3_3 b3_4 b3_5 b3_6 b3_7 b3_8 b3_9 b3_10 b3_11 b3_12 b3_13 (fun z_v7 => K .norm (envOf [(3, (.ptr 0 0)), (4, (.ptr 1 0)), (5, (.ptr 2 0)), (6, (.ptr 3 0)), (7, (.int .i64 z_v7))]) (memOf [(some (.box true [(.int .i64 b0_0), (.str b0_1), (.bool b0_2), (.int .u64 b0_3), (.int .u64 b0_4), (.int .i64 b0_5), (.int .i64 b0_6), (.sl 16 b0_7)])), (some (.box true [(.int .i64 b1_0), (.int .i64 b1_1), (.int .i64 b1_2), (.bool b1_3), (.bool b1_4), (.bool b1_5), (.bool b1_6), (.bool b1_7), (.bool b1_8), (.bool b1_9), (.bool b1_10), (.int .i64 b1_11), (.str b1_12), (.int .i64 b1_13), (.sl 16 b1_14), (.sl 16 b1_15), (.sl 16 b1_16)])), (some (.box true [(.int .i64 b2_0), (.int .i64 b2_1), (.int .i64 b2_2), (.bool b2_3), (.bool b2_4), (.bool b2_5), (.bool b2_6), (.bool b2_7), (.bool b2_8), (.bool b2_9), (.bool b2_10), (.int .i64 b2_11), (.str b2_12), (.int .i64 b2_13), (.sl 16 b2_14), (.sl 16 b2_15), (.sl 16 b2_16)])), (some (.box true [(.int .i64 b3_0), (.int .i64 b3_1), (.int .i64 b3_2), (.bool b3_3), (.bool b3_4), (.bool b3_5), (.bool b3_6), (.bool b3_7), (.bool b3_8), (.bool b3_9), (.bool b3_10), (.int .i64 b3_11), (.str b3_12), (.int .i64 b3_13), .nils, .nils, .nils]))])) := by
  rw [ddiref26_Act_J19_eq]; kernel_rfl
noncomputable def s_ddiref26_Act_J19 : Env → Mem → (Ex → Env → Mem → Option AV) → Option AV := fun t m K => chk (fitS0 shp_ddiref26_Act_J19 t m) (cond (hdS shp_ddiref26_Act_J19 t m) (ddiref26_Act_J19 (gI [t 7] 0) (gI (bxC (m.s 0)) 0) (gS (bxC (m.s 0)) 1) (gB (bxC (m.s 0)) 2) (gI (bxC (m.s 0)) 3) (gI (bxC (m.s 0)) 4) (gI (bxC (m.s 0)) 5) (gI (bxC (m.s 0)) 6) (gL (bxC (m.s 0)) 7) (gI (bxC (m.s 1)) 0) (gI (bxC (m.s 1)) 1) (gI (bxC (m.s 1)) 2) (gB (bxC (m.s 1)) 3) (gB (bxC (m.s 1)) 4) (gB (bxC (m.s 1)) 5) (gB (bxC (m.s 1)) 6) (gB (bxC (m.s 1)) 7) (gB (bxC (m.s 1)) 8) (gB (bxC (m.s 1)) 9) (gB (bxC (m.s 1)) 10) (gI (bxC (m.s 1)) 11) (gS (bxC (m.s 1)) 12) (gI (bxC (m.s 1)) 13) (gL (bxC (m.s 1)) 14) (gL (bxC (m.s 1)) 15) (gL (bxC (m.s 1)) 16) (gI (bxC (m.s 2)) 0) (gI (bxC (m.s 2)) 1) (gI (bxC (m.s 2)) 2) (gB (bxC (m.s 2)) 3) (gB (bxC (m.s 2)) 4) (gB (bxC (m.s 2)) 5) (gB (bxC (m.s 2)) 6) (gB (bxC (m.s 2)) 7) (gB (bxC (m.s 2)) 8) (gB (bxC (m.s 2)) 9) (gB (bxC (m.s 2)) 10) (gI (bxC (m.s 2)) 11) (gS (bxC (m.s 2)) 12) (gI (bxC (m.s 2)) 13) (gL (bxC (m.s 2)) 14) (gL (bxC (m.s 2)) 15) (gL (bxC (m.s 2)) 16) (gI (bxC (m.s 3)) 0) (gI (bxC (m.s 3)) 1) (gI (bxC (m.s 3)) 2) (gB (bxC (m.s 3)) 3) (gB (bxC (m.s 3)) 4) (gB (bxC (m.s 3)) 5) (gB (bxC (m.s 3)) 6) (gB (bxC (m.s 3)) 7) (gB (bxC (m.s 3)) 8) (gB (bxC (m.s 3)) 9) (gB (bxC (m.s 3)) 10) (gI (bxC (m.s 3)) 11) (gS (bxC (m.s 3)) 12) (gI (bxC (m.s 3)) 13) (fun z_v7 => K .norm (envOf [(3, (.ptr 0 0)), (4, (.ptr 1 0)), (5, (.ptr 2 0)), (6, (.ptr 3 0)), (7, (.int .i64 z_v7))]) (memOf [(some (.box true [(.int .i64 (gI (bxC (m.s 0)) 0)), (.str (gS (bxC (m.s 0)) 1)), (.bool (gB (bxC (m.s 0)) 2)), (.int .u64 (gI (bxC (m.s 0)) 3)), (.int .u64 (gI (bxC (m.s 0)) 4)), (.int .i64 (gI (bxC (m.s 0)) 5)), (.int .i64 (gI (bxC (m.s 0)) 6)), (.sl 16 (gL (bxC (m.s 0)) 7))])), (some (.box true [(.int .i64 (gI (bxC (m.s 1)) 0)), (.int .i64 (gI (bxC (m.s 1)) 1)), (.int .i64 (gI (bxC (m.s 1)) 2)), (.bool (gB (bxC (m.s 1)) 3)), (.bool (gB (bxC (m.s 1)) 4)), (.bool (gB (bxC (m.s 1)) 5)), (.bool (gB (bxC (m.s 1)) 6)), (.bool (gB (bxC (m.s 1)) 7)), (.bool (gB (bxC (m.s 1)) 8)), (.bool (gB (bxC (m.s 1)) 9)), (.bool (gB (bxC (m.s 1)) 10)), (.int .i64 (gI (bxC (m.s 1)) 11)), (.str (gS (bxC (m.s 1)) 12)), (.int .i64 (gI (bxC (m.s 1)) 13)), (.sl 16 (gL (bxC (m.s 1)) 14)), (.sl 16 (gL (bxC (m.s 1)) 15)), (.sl 16 (gL (bxC (m.s 1)) 16))])), (some (.box true [(.int .i64 (gI (bxC (m.s 2)) 0)), (.int .i64 (gI (bxC (m.s 2)) 1)), (.int .i64 (gI (bxC (m.s 2)) 2)), (.bool (gB (bxC (m.s 2)) 3)), (.bool (gB (bxC (m.s 2)) 4)), (.bool (gB (bxC (m.s 2)) 5)), (.bool (gB (bxC (m.s 2)) 6)), (.bool (gB (bxC (m.s 2)) 7)), (.bool (gB (bxC (m.s 2)) 8)), (.bool (gB (bxC (m.s 2)) 9)), (.bool (gB (bxC (m.s 2)) 10)), (.int .i64 (gI (bxC (m.s 2)) 11)), (.str (gS (bxC (m.s 2)) 12)), (.int .i64 (gI (bxC (m.s 2)) 13)), (.sl 16 (gL (bxC (m.s 2)) 14)), (.sl 16 (gL (bxC (m.s 2)) 15)), (.sl 16 (gL (bxC (m.s 2)) 16))])), (some (.box true [(.int .i64 (gI (bxC (m.s 3)) 0)), (.int .i64 (gI (bxC (m.s 3)) 1)), (.int .i64 (gI (bxC (m.s 3)) 2)), (.bool (gB (bxC (m.s 3)) 3)), (.bool (gB (bxC (m.s 3)) 4)), (.bool (gB (bxC (m.s 3)) 5)), (.bool (gB (bxC (m.s 3)) 6)), (.bool (gB (bxC (m.s 3)) 7)), (.bool (gB (bxC (m.s 3)) 8)), (.bool (gB (bxC (m.s 3)) 9)), (.bool (gB (bxC (m.s 3)) 10)), (.int .i64 (gI (bxC (m.s 3)) 11)), (.str (gS (bxC (m.s 3)) 12)), (.int .i64 (gI (bxC (m.s 3)) 13)), .nils, .nils, .nils]))]))) none)
theorem o_ddiref26_Act_J19 : SubOk Tryd.prog (TIof Tryd.prog) 50 0 (kret [(.cell 6 true 17)] dec_ddiref26_Act) (scOf a_ddiref26_Act_J19) s_ddiref26_Act_J19 :=
  sub_of tabOk follows ok_ddiref26_Act_J19 (er_of (by kernel_rfl)) shp_ddiref26_Act_J19 (fun t m K => congrArg (fun z => chk (fitS0 shp_ddiref26_Act_J19 t m) (cond (hdS shp_ddiref26_Act_J19 t m) z none)) (t_ddiref26_Act_J19 (gI [t 7] 0) (gI (bxC (m.s 0)) 0) (gS (bxC (m.s 0)) 1) (gB (bxC (m.s 0)) 2) (gI (bxC (m.s 0)) 3) (gI (bxC (m.s 0)) 4) (gI (bxC (m.s 0)) 5) (gI (bxC (m.s 0)) 6) (gL (bxC (m.s 0)) 7) (gI (bxC (m.s 1)) 0) (gI (bxC (m.s 1)) 1) (gI (bxC (m.s 1)) 2) (gB (bxC (m.s 1)) 3) (gB (bxC (m.s 1)) 4) (gB (bxC (m.s 1)) 5) (gB (bxC (m.s 1)) 6) (gB (bxC (m.s 1)) 7) (gB (bxC (m.s 1)) 8) (gB (bxC (m.s 1)) 9) (gB (bxC (m.s 1)) 10) (gI (bxC (m.s 1)) 11) (gS (bxC (m.s 1)) 12) (gI (bxC (m.s 1)) 13) (gL (bxC (m.s 1)) 14) (gL (bxC (m.s 1)) 15) (gL (bxC (m.s 1)) 16) (gI (bxC (m.s 2)) 0) (gI (bxC (m.s 2)) 1) (gI (bxC (m.s 2)) 2) (gB (bxC (m.s 2)) 3) (gB (bxC (m.s 2)) 4) (gB (bxC (m.s 2)) 5) (gB (bxC (m.s 2)) 6) (gB (bxC (m.s 2)) 7) (gB (bxC (m.s 2)) 8) (gB (bxC (m.s 2)) 9) (gB (bxC (m.s 2)) 10) (gI (bxC (m.s 2)) 11) (gS (bxC (m.s 2)) 12) (gI (bxC (m.s 2)) 13) (gL (bxC (m.s 2)) 14) (gL (bxC (m.s 2)) 15) (gL (bxC (m.s 2)) 16) (gI (bxC (m.s 3)) 0) (gI (bxC (m.s 3)) 1) (gI (bxC (m.s 3)) 2) (gB (bxC (m.s 3)) 3) (gB (bxC (m.s 3)) 4) (gB (bxC (m.s 3)) 5) (gB (bxC (m.s 3)) 6) (gB (bxC (m.s 3)) 7) (gB (bxC (m.s 3)) 8) (gB (bxC (m.s 3)) 9) (gB (bxC (m.s 3)) 10) (gI (bxC (m.s 3)) 11) (gS (bxC (m.s 3)) 12) (gI (bxC (m.s 3)) 13) K).symm)
def shp_ddiref26_Act : Shp := ⟨[(0, .st [(.l (.i .i64)), (.l .s), (.l .b), (.l (.i .u64)), (.l (.i .u64)), (.l (.i .i64)), (.l (.i .i64)), (.l (.sl 16))]), (1, .st [(.l (.i .i64)), (.l (.i .i64)), (.l (.i .i64)), (.l .b), (.l .b), (.l .b), (.l .b), (.l .b), (.l .b), (.l .b), (.l .b), (.l (.i .i64)), (.l .s), (.l (.i .i64)), (.l (.sl 16)), (.l (.sl 16)), (.l (.sl 16))]), (2, .st [(.l (.i .i64)), (.l (.i .i64)), (.l (.i .i64)), (.l .b), (.l .b), (.l .b), (.l .b), (.l .b), (.l .b), (.l .b), (.l .b), (.l (.i .i64)), (.l .s), (.l (.i .i64)), (.l (.sl 16)), (.l (.sl 16)), (.l (.sl 16))])], []⟩
noncomputable def ddiref26_Act_i (v0_0 : Int) (v0_1 : List UInt8) (v0_2 : Bool) (v0_3 : Int) (v0_4 : Int) (v0_5 : Int) (v0_6 : Int) (v0_7 : List AV) (v1_0 : Int) (v1_1 : Int) (v1_2 : Int) (v1_3 : Bool) (v1_4 : Bool) (v1_5 : Bool) (v1_6 : Bool) (v1_7 : Bool) (v1_8 : Bool) (v1_9 : Bool) (v1_10 : Bool) (v1_11 : Int) (v1_12 : List UInt8) (v1_13 : Int) (v1_14 : List AV) (v1_15 : List AV) (v1_16 : List AV) (v2_0 : Int) (v2_1 : Int) (v2_2 : Int) (v2_3 : Bool) (v2_4 : Bool) (v2_5 : Bool) (v2_6 : Bool) (v2_7 : Bool) (v2_8 : Bool) (v2_9 : Bool) (v2_10 : Bool) (v2_11 : Int) (v2_12 : List UInt8) (v2_13 : Int) (v2_14 : List AV) (v2_15 : List AV) (v2_16 : List AV) : Option AV :=
  (bif (v0_6 == (1 : Int)) then (some (.agg [(.int .i64 v2_0), (.int .i64 v2_1), (.int .i64 v2_2), (.bool v2_3), (.bool v2_4), (.bool v2_5), (.bool v2_6), (.bool v2_7), (.bool v2_8), (.bool v2_9), (.bool v2_10), (.int .i64 v2_11), (.str v2_12), (.int .i64 v2_13), (.sl 16 v2_14), (.sl 16 v2_15), (.sl 16 v2_16)])) else (ddiref26_Act_J13 (0 : Int) v0_0 v0_1 v0_2 v0_3 v0_4 v0_5 v0_6 v0_7 v1_0 v1_1 v1_2 v1_3 v1_4 v1_5 v1_6 v1_7 v1_8 v1_9 v1_10 v1_11 v1_12 v1_13 v1_14 v1_15 v1_16 v2_0 v2_1 v2_2 v2_3 v2_4 v2_5 v2_6 v2_7 v2_8 v2_9 v2_10 v2_11 v2_12 v2_13 v2_14 v2_15 v2_16 (0 : Int) (0 : Int) (0 : Int) false false false false false false false false (0 : Int) ([] : List UInt8) (0 : Int) (fun v7q1 => (ddiref26_Act_J19 v7q1 v0_0 v0_1 v0_2 v0_3 v0_4 v0_5 v0_6 v0_7 v1_0 v1_1 v1_2 v1_3 v1_4 v1_5 v1_6 v1_7 v1_8 v1_9 v1_10 v1_11 v1_12 v1_13 v1_14 v1_15 v1_16 v2_0 v2_1 v2_2 v2_3 v2_4 v2_5 v2_6 v2_7 v2_8 v2_9 v2_10 v2_11 v2_12 v2_13 v2_14 v2_15 v2_16 (0 : Int) (0 : Int) (0 : Int) false false false false false false false false (0 : Int) ([] : List UInt8) (0 : Int) (fun v7q2 => (oB (ddiref08_Reply v1_0 v1_1 v1_2 v1_3 v1_4 v1_5 v1_6 v1_7 v1_8 v1_9 v1_10 v1_11 v1_12 v1_13 v1_14 v1_15 v1_16 v7q2) fun r3 => (bif (v0_6 == (4 : Int)) then (oB (ddiref26_typed v0_7 v1_13 v1_12) fun r4 => (bif ((r4.length : Int) == (0 : Int)) then (oB (ddiref26_typed v0_7 (5 : Int) v1_12) fun r5 => (some (.agg [(.int .i64 (gI r3.cells 0)), (.int .i64 (gI r3.cells 1)), (.int .i64 (gI r3.cells 2)), (.bool (gB r3.cells 3)), (.bool (gB r3.cells 4)), (.bool (gB r3.cells 5)), (.bool (gB r3.cells 6)), (.bool v2_7), (.bool (gB r3.cells 8)), (.bool (gB r3.cells 9)), (.bool (gB r3.cells 10)), (.int .i64 (gI r3.cells 11)), (.str (gS r3.cells 12)), (.int .i64 (gI r3.cells 13)), (.sl 16 r5), (.sl 16 ([] : List AV)), (.sl 16 ([] : List AV))]))) else (some (.agg [(.int .i64 (gI r3.cells 0)), (.int .i64 (gI r3.cells 1)), (.int .i64 (gI r3.cells 2)), (.bool (gB r3.cells 3)), (.bool (gB r3.cells 4)), (.bool (gB r3.cells 5)), (.bool (gB r3.cells 6)), (.bool v2_7), (.bool (gB r3.cells 8)), (.bool (gB r3.cells 9)), (.bool (gB r3.cells 10)), (.int .i64 (gI r3.cells 11)), (.str (gS r3.cells 12)), (.int .i64 (gI r3.cells 13)), (.sl 16 r4), (.sl 16 ([] : List AV)), (.sl 16 ([] : List AV))])))) else (some (.agg [(.int .i64 (gI r3.cells 0)), (.int .i64 (gI r3.cells 1)), (.int .i64 (gI r3.cells 2)), (.bool (gB r3.cells 3)), (.bool (gB r3.cells 4)), (.bool (gB r3.cells 5)), (.bool (gB r3.cells 6)), (.bool v2_7), (.bool (gB r3.cells 8)), (.bool (gB r3.cells 9)), (.bool (gB r3.cells 10)), (.int .i64 (gI r3.cells 11)), (.str (gS r3.cells 12)), (.int .i64 (gI r3.cells 13)), (.sl 16 ([] : List AV)), (.sl 16 ([] : List AV)), (.sl 16 ([] : List AV))])))))))))
noncomputable def ddiref26_Act := hull ddiref26_Act_i
theorem ddiref26_Act_eq : ddiref26_Act = ddiref26_Act_i := hull_eq _
noncomputable def a_ddiref26_Act : AC AV :=
  .seq (.reg [.op ⟨some 3, (.box (.t 0)), none⟩,
 .op ⟨some 4, (.box (.t 1)), none⟩,
 .op ⟨some 5, (.box (.t 2)), none⟩,
 .op ⟨some 6, (.alloc [(.int .i64 0), (.int .i64 0), (.int .i64 0), (.bool false), (.bool false), (.bool false), (.bool false), (.bool false), (.bool false), (.bool false), (.bool false), (.int .i64 0), (.str []), (.int .i64 0), .nils, .nils, .nils]), none⟩]) (.seq (.seq (.reg [.op ⟨some 9, (.fa 6 (.t 3)), none⟩,
 .op ⟨some 10, (.load false 1 (.t 9)), none⟩,
 .op ⟨some 11, (.bin .eql (.t 10) (.c (.int .i64 1))), none⟩]) (.cond (.t 11) (.seq (.reg [.op ⟨some 12, (.load true 17 (.t 5)), none⟩,
 .op ⟨none, (.store 17 (.t 6) (.t 12)), none⟩]) (.ret)) (.skip))) (.seq (.reg [.op ⟨some 7, (.mv (.c (.int .i64 0))), none⟩]) (.seq (.seq (.view [.sel [3, 4, 5, 6, 7] [0, 1, 2, 3]]) (.sub (scOf a_ddiref26_Act_J13) s_ddiref26_Act_J13)) (.seq (.seq (.view [.sel [3, 4, 5, 6, 7] [0, 1, 2, 3]]) (.sub (scOf a_ddiref26_Act_J19) s_ddiref26_Act_J19)) (.seq (.reg [.op ⟨some 19, (.load true 17 (.t 4)), none⟩,
 .op ⟨some 20, (.mv (.t 7)), none⟩,
 .call ⟨some 21, (.call 49 [.t 19, .t 20]), none⟩ 49 ent_ddiref08_Reply,
 .op ⟨some 8, (.alloc [(.int .i64 0), (.int .i64 0), (.int .i64 0), (.bool false), (.bool false), (.bool false), (.bool false), (.bool false), (.bool false), (.bool false), (.bool false), (.int .i64 0), (.str []), (.int .i64 0), .nils, .nils, .nils]), none⟩,
 .op ⟨none, (.store 17 (.t 8) (.t 21)), none⟩]) (.seq (.reg [.op ⟨some 22, (.fa 7 (.t 5)), none⟩,
 .op ⟨some 23, (.load false 1 (.t 22)), none⟩,
 .op ⟨some 24, (.fa 7 (.t 8)), none⟩,
 .op ⟨none, (.store 1 (.t 24) (.t 23)), none⟩]) (.seq (.seq (.reg [.op ⟨some 25, (.fa 6 (.t 3)), none⟩,
 .op ⟨some 26, (.load false 1 (.t 25)), none⟩,
 .op ⟨some 27, (.bin .eql (.t 26) (.c (.int .i64 4))), none⟩]) (.cond (.t 27) (.seq (.reg [.op ⟨some 28, (.fa 7 (.t 3)), none⟩,
 .op ⟨some 29, (.load false 1 (.t 28)), none⟩,
 .op ⟨some 30, (.fa 12 (.t 4)), none⟩,
 .op ⟨some 31, (.fa 1 (.t 30)), none⟩,
 .op ⟨some 32, (.load false 1 (.t 31)), none⟩,
 .op ⟨some 33, (.fa 12 (.t 4)), none⟩,
 .op ⟨some 34, (.fa 0 (.t 33)), none⟩,
 .op ⟨some 35, (.load false 1 (.t 34)), none⟩,
 .callc ⟨some 36, (.call 50 [.t 29, .t 32, .t 35]), none⟩ 50 ent_ddiref26_typed,
 .op ⟨some 37, (.fa 14 (.t 8)), none⟩,
 .op ⟨none, (.store 1 (.t 37) (.t 36)), none⟩]) (.seq (.reg [.op ⟨some 38, (.fa 14 (.t 8)), none⟩,
 .op ⟨some 39, (.load false 1 (.t 38)), none⟩,
 .op ⟨some 40, (.len false (.t 39)), none⟩,
 .op ⟨some 41, (.bin .eql (.t 40) (.c (.int .i64 0))), none⟩]) (.cond (.t 41) (.reg [.op ⟨some 42, (.fa 7 (.t 3)), none⟩,
 .op ⟨some 43, (.load false 1 (.t 42)), none⟩,
 .op ⟨some 44, (.fa 12 (.t 4)), none⟩,
 .op ⟨some 45, (.fa 0 (.t 44)), none⟩,
 .op ⟨some 46, (.load false 1 (.t 45)), none⟩,
 .callc ⟨some 47, (.call 50 [.t 43, (.c (.int .i64 5)), .t 46]), none⟩ 50 ent_ddiref26_typed,
 .op ⟨some 48, (.fa 14 (.t 8)), none⟩,
 .op ⟨none, (.store 1 (.t 48) (.t 47)), none⟩]) (.skip)))) (.skip))) (.seq (.reg [.op ⟨some 49, (.load true 17 (.t 8)), none⟩,
 .op ⟨none, (.store 17 (.t 6) (.t 49)), none⟩]) (.seq (.view [.nilc 3 15 16, .nilc 3 16 16, .nilc 3 14 16]) (.ret))))))))))
theorem ok_ddiref26_Act : AC.ok Tryd.prog (TIof Tryd.prog) 50 0 (kret [(.cell 6 true 17)] dec_ddiref26_Act) a_ddiref26_Act := (zA zT (zA (zA zT (zA (zA zT zT) zT)) (zA zT (zA (zA zT o_ddiref26_Act_J13) (zA (zA zT o_ddiref26_Act_J19) (zA (zA (EntOkB.ok k_ddiref08_Reply) zT) (zA zT (zA (zA zT (zA (zA (zA (EntOkB.ok k_ddiref26_typed) zT) (zA zT (zA (zA (EntOkB.ok k_ddiref26_typed) zT) zT))) zT)) (zA zT (zA zT zT))))))))))
theorem t_ddiref26_Act (v0_0 : Int) (v0_1 : List UInt8) (v0_2 : Bool) (v0_3 : Int) (v0_4 : Int) (v0_5 : Int) (v0_6 : Int) (v0_7 : List AV) (v1_0 : Int) (v1_1 : Int) (v1_2 : Int) (v1_3 : Bool) (v1_4 : Bool) (v1_5 : Bool) (v1_6 : Bool) (v1_7 : Bool) (v1_8 : Bool) (v1_9 : Bool) (v1_10 : Bool) (v1_11 : Int) (v1_12 : List UInt8) (v1_13 : Int) (v1_14 : List AV) (v1_15 : List AV) (v1_16 : List AV) (v2_0 : Int) (v2_1 : Int) (v2_2 : Int) (v2_3 : Bool) (v2_4 : Bool) (v2_5 : Bool) (v2_6 : Bool) (v2_7 : Bool) (v2_8 : Bool) (v2_9 : Bool) (v2_10 : Bool) (v2_11 : Int) (v2_12 : List UInt8) (v2_13 : Int) (v2_14 : List AV) (v2_15 : List AV) (v2_16 : List AV) : den 0 (kret [(.cell 6 true 17)] dec_ddiref26_Act) a_ddiref26_Act (envOf [(0, (.agg [(.int .i64 v0_0), (.str v0_1), (.bool v0_2), (.int .u64 v0_3), (.int .u64 v0_4), (.int .i64 v0_5), (.int .i64 v0_6), (.sl 16 v0_7)])), (1, (.agg [(.int .i64 v1_0), (.int .i64 v1_1), (.int .i64 v1_2), (.bool v1_3), (.bool v1_4), (.bool v1_5), (.bool v1_6), (.bool v1_7), (.bool v1_8), (.bool v1_9), (.bool v1_10), (.int .i64 v1_11), (.str v1_12), (.int .i64 v1_13), (.sl 16 v1_14), (.sl 16 v1_15), (.sl 16 v1_16)])), (2, (.agg [(.int .i64 v2_0), (.int .i64 v2_1), (.int .i64 v2_2), (.bool v2_3), (.bool v2_4), (.bool v2_5), (.bool v2_6), (.bool v2_7), (.bool v2_8), (.bool v2_9), (.bool v2_10), (.int .i64 v2_11), (.str v2_12), (.int .i64 v2_13), (.sl 16 v2_14), (.sl 16 v2_15), (.sl 16 v2_16)]))]) (memOf []) (kend (kret [(.cell 6 true 17)] dec_ddiref26_Act)) = ddiref26_Act v0_0 v0_1 v0_2 v0_3 v0_4 v0_5 v0_6 v0_7 v1_0 v1_1 v1_2 v1_3 v1_4 v1_5 v1_6 v1_7 v1_8 v1_9 v1_10 v1_11 v1_12 v1_13 v1_14 v1_15 v1_16 v2_0 v2_1 v2_2 v2_3 v2_4 v2_5 v2_6 v2_7 v2_8 v2_9 v2_10 v2_11 v2_12 v2_13 v2_14 v2_15 v2_16 := by
  rw [ddiref26_Act_eq]; kernel_rfl
theorem c_ddiref26_Act : cFn (TIof Tryd.prog) Tryd.f30 = some ⟨50, [(.cell 6 true 17)], scOf a_ddiref26_Act⟩ := by kernel_rfl
noncomputable def ent_ddiref26_Act {R : Type} (xs : List AV) (K : AV → Option R) : Option R := chk (fitS shp_ddiref26_Act (entry xs) Mem.none) (oB (ddiref26_Act (gI ((entry xs) 0).cells 0) (gS ((entry xs) 0).cells 1) (gB ((entry xs) 0).cells 2) (gI ((entry xs) 0).cells 3) (gI ((entry xs) 0).cells 4) (gI ((entry xs) 0).cells 5) (gI ((entry xs) 0).cells 6) (gL ((entry xs) 0).cells 7) (gI ((entry xs) 1).cells 0) (gI ((entry xs) 1).cells 1) (gI ((entry xs) 1).cells 2) (gB ((entry xs) 1).cells 3) (gB ((entry xs) 1).cells 4) (gB ((entry xs) 1).cells 5) (gB ((entry xs) 1).cells 6) (gB ((entry xs) 1).cells 7) (gB ((entry xs) 1).cells 8) (gB ((entry xs) 1).cells 9) (gB ((entry xs) 1).cells 10) (gI ((entry xs) 1).cells 11) (gS ((entry xs) 1).cells 12) (gI ((entry xs) 1).cells 13) (gL ((entry xs) 1).cells 14) (gL ((entry xs) 1).cells 15) (gL ((entry xs) 1).cells 16) (gI ((entry xs) 2).cells 0) (gI ((entry xs) 2).cells 1) (gI ((entry xs) 2).cells 2) (gB ((entry xs) 2).cells 3) (gB ((entry xs) 2).cells 4) (gB ((entry xs) 2).cells 5) (gB ((entry xs) 2).cells 6) (gB ((entry xs) 2).cells 7) (gB ((entry xs) 2).cells 8) (gB ((entry xs) 2).cells 9) (gB ((entry xs) 2).cells 10) (gI ((entry xs) 2).cells 11) (gS ((entry xs) 2).cells 12) (gI ((entry xs) 2).cells 13) (gL ((entry xs) 2).cells 14) (gL ((entry xs) 2).cells 15) (gL ((entry xs) 2).cells 16)) fun r => K (enc_ddiref26_Act r))
theorem k_ddiref26_Act {R : Type} : EntOkB Tryd.prog 30 (ent_ddiref26_Act (R := R)) :=
  ent_of (F := fun xs => ddiref26_Act (gI ((entry xs) 0).cells 0) (gS ((entry xs) 0).cells 1) (gB ((entry xs) 0).cells 2) (gI ((entry xs) 0).cells 3) (gI ((entry xs) 0).cells 4) (gI ((entry xs) 0).cells 5) (gI ((entry xs) 0).cells 6) (gL ((entry xs) 0).cells 7) (gI ((entry xs) 1).cells 0) (gI ((entry xs) 1).cells 1) (gI ((entry xs) 1).cells 2) (gB ((entry xs) 1).cells 3) (gB ((entry xs) 1).cells 4) (gB ((entry xs) 1).cells 5) (gB ((entry xs) 1).cells 6) (gB ((entry xs) 1).cells 7) (gB ((entry xs) 1).cells 8) (gB ((entry xs) 1).cells 9) (gB ((entry xs) 1).cells 10) (gI ((entry xs) 1).cells 11) (gS ((entry xs) 1).cells 12) (gI ((entry xs) 1).cells 13) (gL ((entry xs) 1).cells 14) (gL ((entry xs) 1).cells 15) (gL ((entry xs) 1).cells 16) (gI ((entry xs) 2).cells 0) (gI ((entry xs) 2).cells 1) (gI ((entry xs) 2).cells 2) (gB ((entry xs) 2).cells 3) (gB ((entry xs) 2).cells 4) (gB ((entry xs) 2).cells 5) (gB ((entry xs) 2).cells 6) (gB ((entry xs) 2).cells 7) (gB ((entry xs) 2).cells 8) (gB ((entry xs) 2).cells 9) (gB ((entry xs) 2).cells 10) (gI ((entry xs) 2).cells 11) (gS ((entry xs) 2).cells 12) (gI ((entry xs) 2).cells 13) (gL ((entry xs) 2).cells 14) (gL ((entry xs) 2).cells 15) (gL ((entry xs) 2).cells 16)) (enc := enc_ddiref26_Act) tabOk follows Tryd.func30 (by kernel_rfl) c_ddiref26_Act (fun z r h => by
 obtain ⟨h1, h2⟩ := cond_some h
 cases h2
 exact (etaRV_eq h1).symm) ok_ddiref26_Act (er_of (by kernel_rfl)) shp_ddiref26_Act (fun xs => t_ddiref26_Act (gI ((entry xs) 0).cells 0) (gS ((entry xs) 0).cells 1) (gB ((entry xs) 0).cells 2) (gI ((entry xs) 0).cells 3) (gI ((entry xs) 0).cells 4) (gI ((entry xs) 0).cells 5) (gI ((entry xs) 0).cells 6) (gL ((entry xs) 0).cells 7) (gI ((entry xs) 1).cells 0) (gI ((entry xs) 1).cells 1) (gI ((entry xs) 1).cells 2) (gB ((entry xs) 1).cells 3) (gB ((entry xs) 1).cells 4) (gB ((entry xs) 1).cells 5) (gB ((entry xs) 1).cells 6) (gB ((entry xs) 1).cells 7) (gB ((entry xs) 1).cells 8) (gB ((entry xs) 1).cells 9) (gB ((entry xs) 1).cells 10) (gI ((entry xs) 1).cells 11) (gS ((entry xs) 1).cells 12) (gI ((entry xs) 1).cells 13) (gL ((entry xs) 1).cells 14) (gL ((entry xs) 1).cells 15) (gL ((entry xs) 1).cells 16) (gI ((entry xs) 2).cells 0) (gI ((entry xs) 2).cells 1) (gI ((entry xs) 2).cells 2) (gB ((entry xs) 2).cells 3) (gB ((entry xs) 2).cells 4) (gB ((entry xs) 2).cells 5) (gB ((entry xs) 2).cells 6) (gB ((entry xs) 2).cells 7) (gB ((entry xs) 2).cells 8) (gB ((entry xs) 2).cells 9) (gB ((entry xs) 2).cells 10) (gI ((entry xs) 2).cells 11) (gS ((entry xs) 2).cells 12) (gI ((entry xs) 2).cells 13) (gL ((entry xs) 2).cells 14) (gL ((entry xs) 2).cells 15) (gL ((entry xs) 2).cells 16)) (fun xs K r h => by
 unfold ent_ddiref26_Act at h
 exact ⟨(chk_some h).1, oB_some (chk_some h).2⟩)
def dec_ddiref03_Of (z : AV) : Option (AV × Bool) := cond (fitTup [(.st [.b, (.i .u64), (.i .u64), (.i .i64)]), (.one .b)] z) (some ((gC (tpL z) 0), aB (gC (tpL z) 1))) none
def enc_ddiref03_Of (r : AV × Bool) : AV := .tup [etaRV (.st [.b, (.i .u64), (.i .u64), (.i .i64)]) r.1, .bool r.2]
def shp_ddiref03_Of_J4 : Shp := ⟨[(1, .one (.l (.i .i64))), (2, .one (.ptr 0 0)), (4, .one (.ptr 1 0))], [.box true [(.l .b), (.l (.i .u64)), (.l (.i .u64))], .box true [(.l .b), (.l (.i .u64)), (.l (.i .u64)), (.l (.i .i64))]]⟩
noncomputable def ddiref03_Of_J4_i  (v1 : Int) (b0_0 : Bool) (b0_1 : Int) (b0_2 : Int) (b1_0 : Bool) (b1_1 : Int) (b1_2 : Int) (b1_3 : Int) (kn : Bool → Option (AV × Bool)) : Option (AV × Bool) :=
  (oB (ddiref02_Valid b0_0 b0_1 b0_2) fun r1 => (bif ((!r1) || (decide (v1 < (0 : Int)))) then (kn true) else (oB (ddiref03_Long b0_0) fun r2 => (kn (decide (v1 > r2))))))
noncomputable def ddiref03_Of_J4 := hull (ddiref03_Of_J4_i)
theorem ddiref03_Of_J4_eq : ddiref03_Of_J4 = ddiref03_Of_J4_i := hull_eq _
noncomputable def a_ddiref03_Of_J4 : AC (AV × Bool) :=
  .seq (.reg [.op ⟨some 9, (.load true 3 (.t 2)), none⟩,
 .call ⟨some 10, (.call 40 [.t 9]), none⟩ 40 ent_ddiref02_Valid,
 .op ⟨some 11, (.un .not (.t 10)), none⟩,
 .op ⟨some 12, (.mv (.t 11)), none⟩,
 .grp 12 false [⟨some 13, (.mv (.t 1)), (some (12, false))⟩, ⟨some 14, (.bin .lss (.t 13) (.c (.int .i64 0))), (some (12, false))⟩] 15 (.t 14),
 .op ⟨some 16, (.mv (.t 15)), none⟩,
 .op ⟨some 17, (.mv (.t 1)), (some (16, false))⟩,
 .op ⟨some 18, (.fa 0 (.t 2)), (some (16, false))⟩,
 .op ⟨some 19, (.load false 1 (.t 18)), (some (16, false))⟩,
 .call ⟨some 20, (.call 57 [.t 19]), (some (16, false))⟩ 57 ent_ddiref03_Long,
 .op ⟨some 21, (.bin .gtr (.t 17) (.t 20)), (some (16, false))⟩,
 .op ⟨some 22, (.pick (.t 16) (.c (.bool true)) (.t 21)), none⟩]) (.view [.sel [1, 2, 4, 22] [0, 1]])
theorem ok_ddiref03_Of_J4 : AC.ok Tryd.prog (TIof Tryd.prog) 53 0 (kret [(.cell 4 true 4), .t 5] dec_ddiref03_Of) a_ddiref03_Of_J4 := (zA (zA (EntOkB.ok k_ddiref02_Valid) (zA (EntOkB.ok k_ddiref03_Long) zT)) zT)
theorem t_ddiref03_Of_J4 (v1 : Int) (b0_0 : Bool) (b0_1 : Int) (b0_2 : Int) (b1_0 : Bool) (b1_1 : Int) (b1_2 : Int) (b1_3 : Int) (K : Ex → Env → Mem → Option (AV × Bool)) : den 0 (kret [(.cell 4 true 4), .t 5] dec_ddiref03_Of) a_ddiref03_Of_J4 (envOf [(1, (.int .i64 v1)), (2, (.ptr 0 0)), (4, (.ptr 1 0))]) (memOf [(some (.box true [(.bool b0_0), (.int .u64 b0_1), (.int .u64 b0_2)])), (some (.box true [(.bool b1_0), (.int .u64 b1_1), (.int .u64 b1_2), (.int .i64 b1_3)]))]) K = ddiref03_Of_J4 v1 b0_0 b0_1 b0_2 b1_0 b1_1 b1_2 b1_3 (fun z_v22 => K .norm (envOf [(1, (.int .i64 v1)), (2, (.ptr 0 0)), (4, (.ptr 1 0)), (22, (.bool z_v22))]) (memOf [(some (.box true [(.bool b0_0), (.int .u64 b0_1), (.int .u64 b0_2)])), (some (.box true [(.bool b1_0), (.int .u64 b1_1), (.int .u64 b1_2), (.int .i64 b1_3)]))])) := by
  rw [ddiref03_Of_J4_eq]; kernel_rfl
noncomputable def s_ddiref03_Of_J4 : Env → Mem → (Ex → Env → Mem → Option (AV × Bool)) → Option (AV × Bool) := fun t m K => chk (fitS0 shp_ddiref03_Of_J4 t m) (cond (hdS shp_ddiref03_Of_J4 t m) (ddiref03_Of_J4 (gI [t 1] 0) (gB (bxC (m.s 0)) 0) (gI (bxC (m.s 0)) 1) (gI (bxC (m.s 0)) 2) (gB (bxC (m.s 1)) 0) (gI (bxC (m.s 1)) 1) (gI (bxC (m.s 1)) 2) (gI (bxC (m.s 1)) 3) (fun z_v22 => K .norm (envOf [(1, (.int .i64 (gI [t 1] 0))), (2, (.ptr 0 0)), (4, (.ptr 1 0)), (22, (.bool z_v22))]) (memOf [(some (.box true [(.bool (gB (bxC (m.s 0)) 0)), (.int .u64 (gI (bxC (m.s 0)) 1)), (.int .u64 (gI (bxC (m.s 0)) 2))])), (some (.box true [(.bool (gB (bxC (m.s 1)) 0)), (.int .u64 (gI (bxC (m.s 1)) 1)), (.int .u64 (gI (bxC (m.s 1)) 2)), (.int .i64 (gI (bxC (m.s 1)) 3))]))]))) none)
theorem o_ddiref03_Of_J4 : SubOk Tryd.prog (TIof Tryd.prog) 53 0 (kret [(.cell 4 true 4), .t 5] dec_ddiref03_Of) (scOf a_ddiref03_Of_J4) s_ddiref03_Of_J4 :=
  sub_of tabOk follows ok_ddiref03_Of_J4 (er_of (by kernel_rfl)) shp_ddiref03_Of_J4 (fun t m K => congrArg (fun z => chk (fitS0 shp_ddiref03_Of_J4 t m) (cond (hdS shp_ddiref03_Of_J4 t m) z none)) (t_ddiref03_Of_J4 (gI [t 1] 0) (gB (bxC (m.s 0)) 0) (gI (bxC (m.s 0)) 1) (gI (bxC (m.s 0)) 2) (gB (bxC (m.s 1)) 0) (gI (bxC (m.s 1)) 1) (gI (bxC (m.s 1)) 2) (gI (bxC (m.s 1)) 3) K).symm)
def shp_ddiref03_Of : Shp := ⟨[(0, .st [(.l .b), (.l (.i .u64)), (.l (.i .u64))]), (1, .one (.l (.i .i64)))], []⟩
noncomputable def ddiref03_Of_i (v0_0 : Bool) (v0_1 : Int) (v0_2 : Int) (v1 : Int) : Option (AV × Bool) :=
  (ddiref03_Of_J4 v1 v0_0 v0_1 v0_2 false (0 : Int) (0 : Int) (0 : Int) (fun v22q1 => (bif v22q1 then (some ((.agg [(.bool false), (.int .u64 (0 : Int)), (.int .u64 (0 : Int)), (.int .i64 (0 : Int))]), false)) else (oB (ddiref03_Long v0_0) fun r2 => (oB (ddiref03_ones (IntKind.i64.wrap (r2 - v1))) fun r3 => (some ((.agg [(.bool v0_0), (.int .u64 (IntKind.u64.wrap (v0_1 - (ibits .and .u64 v0_1 r3.1)))), (.int .u64 (IntKind.u64.wrap (v0_2 - (ibits .and .u64 v0_2 r3.2)))), (.int .i64 v1)]), true)))))))
noncomputable def ddiref03_Of := hull ddiref03_Of_i
theorem ddiref03_Of_eq : ddiref03_Of = ddiref03_Of_i := hull_eq _
noncomputable def a_ddiref03_Of : AC (AV × Bool) :=
  .seq (.reg [.op ⟨some 2, (.box (.t 0)), none⟩,
 .op ⟨some 4, (.alloc [(.bool false), (.int .u64 0), (.int .u64 0), (.int .i64 0)]), none⟩,
 .op ⟨some 5, (.mv (.c (.bool false))), none⟩]) (.seq (.seq (.seq (.view [.sel [1, 2, 4] [0, 1]]) (.sub (scOf a_ddiref03_Of_J4) s_ddiref03_Of_J4)) (.cond (.t 22) (.seq (.reg [.op ⟨some 23, (.build [(.bool false), (.int .u64 0), (.int .u64 0), (.int .i64 0)] []), none⟩,
 .op ⟨none, (.store 4 (.t 4) (.t 23)), none⟩,
 .op ⟨some 5, (.mv (.c (.bool false))), none⟩]) (.ret)) (.skip))) (.seq (.reg [.op ⟨some 25, (.fa 0 (.t 2)), none⟩,
 .op ⟨some 26, (.load false 1 (.t 25)), none⟩,
 .call ⟨some 27, (.call 57 [.t 26]), none⟩ 57 ent_ddiref03_Long,
 .op ⟨some 28, (.mv (.t 1)), none⟩,
 .op ⟨some 29, (.bin .sub (.t 27) (.t 28)), none⟩,
 .call ⟨some 30, (.call 58 [.t 29]), none⟩ 58 ent_ddiref03_ones,
 .op ⟨some 24, (.mv (.t 30)), none⟩,
 .op ⟨some 31, (.ext (.t 24) 0), none⟩,
 .op ⟨some 32, (.ext (.t 24) 1), none⟩,
 .op ⟨some 6, (.mv (.t 31)), none⟩,
 .op ⟨some 7, (.mv (.t 32)), none⟩]) (.seq (.reg [.op ⟨some 33, (.fa 0 (.t 2)), none⟩,
 .op ⟨some 34, (.load false 1 (.t 33)), none⟩,
 .op ⟨some 35, (.fa 1 (.t 2)), none⟩,
 .op ⟨some 36, (.load false 1 (.t 35)), none⟩,
 .op ⟨some 37, (.fa 1 (.t 2)), none⟩,
 .op ⟨some 38, (.load false 1 (.t 37)), none⟩,
 .op ⟨some 39, (.mv (.t 6)), none⟩,
 .op ⟨some 40, (.bin .and (.t 38) (.t 39)), none⟩,
 .op ⟨some 41, (.bin .sub (.t 36) (.t 40)), none⟩,
 .op ⟨some 42, (.fa 2 (.t 2)), none⟩,
 .op ⟨some 43, (.load false 1 (.t 42)), none⟩,
 .op ⟨some 44, (.fa 2 (.t 2)), none⟩,
 .op ⟨some 45, (.load false 1 (.t 44)), none⟩,
 .op ⟨some 46, (.mv (.t 7)), none⟩,
 .op ⟨some 47, (.bin .and (.t 45) (.t 46)), none⟩,
 .op ⟨some 48, (.bin .sub (.t 43) (.t 47)), none⟩,
 .op ⟨some 49, (.build [(.bool false), (.int .u64 0), (.int .u64 0)] [(0, (1, (.t 34))), (1, (1, (.t 41))), (2, (1, (.t 48)))]), none⟩,
 .op ⟨some 8, (.alloc [(.bool false), (.int .u64 0), (.int .u64 0)]), none⟩,
 .op ⟨none, (.store 3 (.t 8) (.t 49)), none⟩]) (.seq (.reg [.op ⟨some 50, (.load true 3 (.t 8)), none⟩,
 .op ⟨some 51, (.mv (.t 1)), none⟩,
 .op ⟨some 52, (.build [(.bool false), (.int .u64 0), (.int .u64 0), (.int .i64 0)] [(0, (3, (.t 50))), (3, (1, (.t 51)))]), none⟩,
 .op ⟨none, (.store 4 (.t 4) (.t 52)), none⟩,
 .op ⟨some 5, (.mv (.c (.bool true))), none⟩]) (.ret)))))
theorem ok_ddiref03_Of : AC.ok Tryd.prog (TIof Tryd.prog) 53 0 (kret [(.cell 4 true 4), .t 5] dec_ddiref03_Of) a_ddiref03_Of := (zA zT (zA (zA (zA zT o_ddiref03_Of_J4) (zA (zA zT zT) zT)) (zA (zA (EntOkB.ok k_ddiref03_Long) (zA (EntOkB.ok k_ddiref03_ones) zT)) (zA zT (zA zT zT)))))
theorem t_ddiref03_Of (v0_0 : Bool) (v0_1 : Int) (v0_2 : Int) (v1 : Int) : den 0 (kret [(.cell 4 true 4), .t 5] dec_ddiref03_Of) a_ddiref03_Of (envOf [(0, (.agg [(.bool v0_0), (.int .u64 v0_1), (.int .u64 v0_2)])), (1, (.int .i64 v1))]) (memOf []) (kend (kret [(.cell 4 true 4), .t 5] dec_ddiref03_Of)) = ddiref03_Of v0_0 v0_1 v0_2 v1 := by
  rw [ddiref03_Of_eq]; kernel_rfl
theorem c_ddiref03_Of : cFn (TIof Tryd.prog) Tryd.f41 = some ⟨53, [(.cell 4 true 4), .t 5], scOf a_ddiref03_Of⟩ := by kernel_rfl
noncomputable def ent_ddiref03_Of {R : Type} (xs : List AV) (K : AV → Option R) : Option R := chk (fitS shp_ddiref03_Of (entry xs) Mem.none) (oB (ddiref03_Of (gB ((entry xs) 0).cells 0) (gI ((entry xs) 0).cells 1) (gI ((entry xs) 0).cells 2) (gI [(entry xs) 1] 0)) fun r => K (enc_ddiref03_Of r))
theorem k_ddiref03_Of {R : Type} : EntOkB Tryd.prog 41 (ent_ddiref03_Of (R := R)) :=
  ent_of (F := fun xs => ddiref03_Of (gB ((entry xs) 0).cells 0) (gI ((entry xs) 0).cells 1) (gI ((entry xs) 0).cells 2) (gI [(entry xs) 1] 0)) (enc := enc_ddiref03_Of) tabOk follows Tryd.func41 (by kernel_rfl) c_ddiref03_Of (fun z r h => by
 obtain ⟨h1, h2⟩ := cond_some h
 cases h2
 exact (fitTup_eq h1).symm) ok_ddiref03_Of (er_of (by kernel_rfl)) shp_ddiref03_Of (fun xs => t_ddiref03_Of (gB ((entry xs) 0).cells 0) (gI ((entry xs) 0).cells 1) (gI ((entry xs) 0).cells 2) (gI [(entry xs) 1] 0)) (fun xs K r h => by
 unfold ent_ddiref03_Of at h
 exact ⟨(chk_some h).1, oB_some (chk_some h).2⟩)
def dec_ddiref03_Contains (z : AV) : Option Bool := cond (fitRV (.one .b) z) (some (aB z)) none
def enc_ddiref03_Contains (r : Bool) : AV := .bool r
def shp_ddiref03_Contains_J4 : Shp := ⟨[(2, .one (.ptr 0 0)), (3, .one (.ptr 1 0))], [.box true [(.l .b), (.l (.i .u64)), (.l (.i .u64)), (.l (.i .i64))], .box true [(.l .b), (.l (.i .u64)), (.l (.i .u64))]]⟩
noncomputable def ddiref03_Contains_J4_i  (b0_0 : Bool) (b0_1 : Int) (b0_2 : Int) (b0_3 : Int) (b1_0 : Bool) (b1_1 : Int) (b1_2 : Int) (kn : Bool → Option Bool) : Option Bool :=
  (oB (ddiref03_Valid b0_0 b0_1 b0_2 b0_3) fun r1 => (bif (!r1) then (kn true) else (oB (ddiref02_Valid b1_0 b1_1 b1_2) fun r2 => (kn ((!r2) || (!((b0_0 == b1_0) && true)))))))
noncomputable def ddiref03_Contains_J4 := hull (ddiref03_Contains_J4_i)
theorem ddiref03_Contains_J4_eq : ddiref03_Contains_J4 = ddiref03_Contains_J4_i := hull_eq _
noncomputable def a_ddiref03_Contains_J4 : AC Bool :=
  .seq (.reg [.op ⟨some 7, (.load true 4 (.t 2)), none⟩,
 .call ⟨some 8, (.call 39 [.t 7]), none⟩ 39 ent_ddiref03_Valid,
 .op ⟨some 9, (.un .not (.t 8)), none⟩,
 .op ⟨some 10, (.mv (.t 9)), none⟩,
 .op ⟨some 11, (.load true 3 (.t 3)), (some (10, false))⟩,
 .call ⟨some 12, (.call 40 [.t 11]), (some (10, false))⟩ 40 ent_ddiref02_Valid,
 .op ⟨some 13, (.un .not (.t 12)), (some (10, false))⟩,
 .op ⟨some 14, (.pick (.t 10) (.c (.bool true)) (.t 13)), none⟩,
 .op ⟨some 15, (.mv (.t 14)), none⟩,
 .grp 15 false [⟨some 16, (.fa 0 (.t 2)), (some (15, false))⟩, ⟨some 17, (.fa 0 (.t 16)), (some (15, false))⟩, ⟨some 18, (.load false 1 (.t 17)), (some (15, false))⟩, ⟨some 19, (.fa 0 (.t 3)), (some (15, false))⟩, ⟨some 20, (.load false 1 (.t 19)), (some (15, false))⟩, ⟨some 21, (.eq true false [.b] (.t 18) (.t 20)), (some (15, false))⟩] 22 (.t 21)]) (.view [.sel [2, 3, 22] [0, 1]])
theorem ok_ddiref03_Contains_J4 : AC.ok Tryd.prog (TIof Tryd.prog) 33 0 (kret [.t 4] dec_ddiref03_Contains) a_ddiref03_Contains_J4 := (zA (zA (EntOkB.ok k_ddiref03_Valid) (zA (EntOkB.ok k_ddiref02_Valid) zT)) zT)
theorem t_ddiref03_Contains_J4 (b0_0 : Bool) (b0_1 : Int) (b0_2 : Int) (b0_3 : Int) (b1_0 : Bool) (b1_1 : Int) (b1_2 : Int) (K : Ex → Env → Mem → Option Bool) : den 0 (kret [.t 4] dec_ddiref03_Contains) a_ddiref03_Contains_J4 (envOf [(2, (.ptr 0 0)), (3, (.ptr 1 0))]) (memOf [(some (.box true [(.bool b0_0), (.int .u64 b0_1), (.int .u64 b0_2), (.int .i64 b0_3)])), (some (.box true [(.bool b1_0), (.int .u64 b1_1), (.int .u64 b1_2)]))]) K = ddiref03_Contains_J4 b0_0 b0_1 b0_2 b0_3 b1_0 b1_1 b1_2 (fun z_v22 => K .norm (envOf [(2, (.ptr 0 0)), (3, (.ptr 1 0)), (22, (.bool z_v22))]) (memOf [(some (.box true [(.bool b0_0), (.int .u64 b0_1), (.int .u64 b0_2), (.int .i64 b0_3)])), (some (.box true [(.bool b1_0), (.int .u64 b1_1), (.int .u64 b1_2)]))])) := by
  rw [ddiref03_Contains_J4_eq]; kernel_rfl
noncomputable def s_ddiref03_Contains_J4 : Env → Mem → (Ex → Env → Mem → Option Bool) → Option Bool := fun t m K => chk (fitS0 shp_ddiref03_Contains_J4 t m) (cond (hdS shp_ddiref03_Contains_J4 t m) (ddiref03_Contains_J4 (gB (bxC (m.s 0)) 0) (gI (bxC (m.s 0)) 1) (gI (bxC (m.s 0)) 2) (gI (bxC (m.s 0)) 3) (gB (bxC (m.s 1)) 0) (gI (bxC (m.s 1)) 1) (gI (bxC (m.s 1)) 2) (fun z_v22 => K .norm (envOf [(2, (.ptr 0 0)), (3, (.ptr 1 0)), (22, (.bool z_v22))]) (memOf [(some (.box true [(.bool (gB (bxC (m.s 0)) 0)), (.int .u64 (gI (bxC (m.s 0)) 1)), (.int .u64 (gI (bxC (m.s 0)) 2)), (.int .i64 (gI (bxC (m.s 0)) 3))])), (some (.box true [(.bool (gB (bxC (m.s 1)) 0)), (.int .u64 (gI (bxC (m.s 1)) 1)), (.int .u64 (gI (bxC (m.s 1)) 2))]))]))) none)
theorem o_ddiref03_Contains_J4 : SubOk Tryd.prog (TIof Tryd.prog) 33 0 (kret [.t 4] dec_ddiref03_Contains) (scOf a_ddiref03_Contains_J4) s_ddiref03_Contains_J4 :=
  sub_of tabOk follows ok_ddiref03_Contains_J4 (er_of (by kernel_rfl)) shp_ddiref03_Contains_J4 (fun t m K => congrArg (fun z => chk (fitS0 shp_ddiref03_Contains_J4 t m) (cond (hdS shp_ddiref03_Contains_J4 t m) z none)) (t_ddiref03_Contains_J4 (gB (bxC (m.s 0)) 0) (gI (bxC (m.s 0)) 1) (gI (bxC (m.s 0)) 2) (gI (bxC (m.s 0)) 3) (gB (bxC (m.s 1)) 0) (gI (bxC (m.s 1)) 1) (gI (bxC (m.s 1)) 2) K).symm)
def shp_ddiref03_Contains : Shp := ⟨[(0, .st [(.l .b), (.l (.i .u64)), (.l (.i .u64)), (.l (.i .i64))]), (1, .st [(.l .b), (.l (.i .u64)), (.l (.i .u64))])], []⟩
noncomputable def ddiref03_Contains_i (v0_0 : Bool) (v0_1 : Int) (v0_2 : Int) (v0_3 : Int) (v1_0 : Bool) (v1_1 : Int) (v1_2 : Int) : Option Bool :=
  (ddiref03_Contains_J4 v0_0 v0_1 v0_2 v0_3 v1_0 v1_1 v1_2 (fun v22q1 => (bif v22q1 then (some false) else (oB (ddiref03_Of v1_0 v1_1 v1_2 v0_3) fun r2 => (some (((gB r2.1.cells 0) == v0_0) && (((gI r2.1.cells 1) == v0_1) && (((gI r2.1.cells 2) == v0_2) && (((gI r2.1.cells 3) == v0_3) && true)))))))))
noncomputable def ddiref03_Contains := hull ddiref03_Contains_i
theorem ddiref03_Contains_eq : ddiref03_Contains = ddiref03_Contains_i := hull_eq _
noncomputable def a_ddiref03_Contains : AC Bool :=
  .seq (.reg [.op ⟨some 2, (.box (.t 0)), none⟩,
 .op ⟨some 3, (.box (.t 1)), none⟩,
 .op ⟨some 4, (.mv (.c (.bool false))), none⟩]) (.seq (.seq (.seq (.view [.sel [2, 3] [0, 1]]) (.sub (scOf a_ddiref03_Contains_J4) s_ddiref03_Contains_J4)) (.cond (.t 22) (.seq (.reg [.op ⟨some 4, (.mv (.c (.bool false))), none⟩]) (.ret)) (.skip))) (.seq (.reg [.op ⟨some 24, (.load true 3 (.t 3)), none⟩,
 .op ⟨some 25, (.fa 3 (.t 2)), none⟩,
 .op ⟨some 26, (.load false 1 (.t 25)), none⟩,
 .call ⟨some 27, (.call 41 [.t 24, .t 26]), none⟩ 41 ent_ddiref03_Of,
 .op ⟨some 23, (.mv (.t 27)), none⟩,
 .op ⟨some 28, (.ext (.t 23) 0), none⟩,
 .op ⟨some 29, (.ext (.t 23) 1), none⟩,
 .op ⟨some 5, (.alloc [(.bool false), (.int .u64 0), (.int .u64 0), (.int .i64 0)]), none⟩,
 .op ⟨none, (.store 4 (.t 5) (.t 28)), none⟩,
 .op ⟨some 6, (.mv (.t 29)), none⟩]) (.seq (.reg [.op ⟨some 30, (.load true 4 (.t 5)), none⟩,
 .op ⟨some 31, (.load true 4 (.t 2)), none⟩,
 .op ⟨some 32, (.eq false true [.b, (.i .u64), (.i .u64), (.i .i64)] (.t 30) (.t 31)), none⟩,
 .op ⟨some 4, (.mv (.t 32)), none⟩]) (.ret))))
theorem ok_ddiref03_Contains : AC.ok Tryd.prog (TIof Tryd.prog) 33 0 (kret [.t 4] dec_ddiref03_Contains) a_ddiref03_Contains := (zA zT (zA (zA (zA zT o_ddiref03_Contains_J4) (zA (zA zT zT) zT)) (zA (zA (EntOkB.ok k_ddiref03_Of) zT) (zA zT zT))))
theorem t_ddiref03_Contains (v0_0 : Bool) (v0_1 : Int) (v0_2 : Int) (v0_3 : Int) (v1_0 : Bool) (v1_1 : Int) (v1_2 : Int) : den 0 (kret [.t 4] dec_ddiref03_Contains) a_ddiref03_Contains (envOf [(0, (.agg [(.bool v0_0), (.int .u64 v0_1), (.int .u64 v0_2), (.int .i64 v0_3)])), (1, (.agg [(.bool v1_0), (.int .u64 v1_1), (.int .u64 v1_2)]))]) (memOf []) (kend (kret [.t 4] dec_ddiref03_Contains)) = ddiref03_Contains v0_0 v0_1 v0_2 v0_3 v1_0 v1_1 v1_2 := by
  rw [ddiref03_Contains_eq]; kernel_rfl
theorem c_ddiref03_Contains : cFn (TIof Tryd.prog) Tryd.f25 = some ⟨33, [.t 4], scOf a_ddiref03_Contains⟩ := by kernel_rfl
noncomputable def ent_ddiref03_Contains {R : Type} (xs : List AV) (K : AV → Option R) : Option R := chk (fitS shp_ddiref03_Contains (entry xs) Mem.none) (oB (ddiref03_Contains (gB ((entry xs) 0).cells 0) (gI ((entry xs) 0).cells 1) (gI ((entry xs) 0).cells 2) (gI ((entry xs) 0).cells 3) (gB ((entry xs) 1).cells 0) (gI ((entry xs) 1).cells 1) (gI ((entry xs) 1).cells 2)) fun r => K (enc_ddiref03_Contains r))
theorem k_ddiref03_Contains {R : Type} : EntOkB Tryd.prog 25 (ent_ddiref03_Contains (R := R)) :=
  ent_of (F := fun xs => ddiref03_Contains (gB ((entry xs) 0).cells 0) (gI ((entry xs) 0).cells 1) (gI ((entry xs) 0).cells 2) (gI ((entry xs) 0).cells 3) (gB ((entry xs) 1).cells 0) (gI ((entry xs) 1).cells 1) (gI ((entry xs) 1).cells 2)) (enc := enc_ddiref03_Contains) tabOk follows Tryd.func25 (by kernel_rfl) c_ddiref03_Contains (fun z r h => by
 obtain ⟨h1, h2⟩ := cond_some h
 cases h2
 exact (etaRV_eq h1).symm) ok_ddiref03_Contains (er_of (by kernel_rfl)) shp_ddiref03_Contains (fun xs => t_ddiref03_Contains (gB ((entry xs) 0).cells 0) (gI ((entry xs) 0).cells 1) (gI ((entry xs) 0).cells 2) (gI ((entry xs) 0).cells 3) (gB ((entry xs) 1).cells 0) (gI ((entry xs) 1).cells 1) (gI ((entry xs) 1).cells 2)) (fun xs K r h => by
 unfold ent_ddiref03_Contains at h
 exact ⟨(chk_some h).1, oB_some (chk_some h).2⟩)
def dec_ddiref26_Response (z : AV) : Option (Int × Bool) := cond (fitTup [(.one (.i .i64)), (.one .b)] z) (some (aI (gC (tpL z) 0), aB (gC (tpL z) 1))) none
def enc_ddiref26_Response (r : Int × Bool) : AV := .tup [.int .i64 r.1, .bool r.2]
def shp_ddiref26_Response_J36 : Shp := ⟨[(0, .one (.l (.sl 8))), (3, .one (.ptr 0 0)), (6, .one (.l (.i .i64))), (7, .one (.l (.i .i64))), (8, .one (.ptr 1 0))], [.box true [(.l (.i .i64)), (.l (.i .i64)), (.l (.i .i64)), (.l .b), (.l .b), (.l .b), (.l .b), (.l .b), (.l .b), (.l .b), (.l .b), (.l (.i .i64)), (.l .s), (.l (.i .i64)), (.l (.sl 16)), (.l (.sl 16)), (.l (.sl 16))], .box true [(.l .s), (.l (.i .i64)), (.l (.i .i64)), (.l .b), (.l (.i .u64)), (.l (.i .u64)), (.l .s), (.l .s), (.l .s), (.l (.i .i64)), (.l (.i .i64)), (.l (.i .i64)), (.l (.i .i64)), (.l (.i .i64)), (.l (.i .i64)), (.l (.i .u64))]]⟩
noncomputable def ddiref26_Response_J36_i  (v0 : List AV) (v6 : Int) (v7 : Int) (b0_0 : Int) (b0_1 : Int) (b0_2 : Int) (b0_3 : Bool) (b0_4 : Bool) (b0_5 : Bool) (b0_6 : Bool) (b0_7 : Bool) (b0_8 : Bool) (b0_9 : Bool) (b0_10 : Bool) (b0_11 : Int) (b0_12 : List UInt8) (b0_13 : Int) (b0_14 : List AV) (b0_15 : List AV) (b0_16 : List AV) (b1_0 : List UInt8) (b1_1 : Int) (b1_2 : Int) (b1_3 : Bool) (b1_4 : Int) (b1_5 : Int) (b1_6 : List UInt8) (b1_7 : List UInt8) (b1_8 : List UInt8) (b1_9 : Int) (b1_10 : Int) (b1_11 : Int) (b1_12 : Int) (b1_13 : Int) (b1_14 : Int) (b1_15 : Int) (kn : Bool → Option (Int × Bool)) : Option (Int × Bool) :=
  (bif (b1_1 == (1 : Int)) then (oB (ixB v0 v6) fun y1 => (bif fitC X_api_Rule y1.cells then (oB (ddiref03_Contains (gB y1.cells 2) (gI y1.cells 3) (gI y1.cells 4) (gI y1.cells 5) b1_3 b1_4 b1_5) fun r2 => (kn r2)) else none)) else (bif (b1_1 == (28 : Int)) then (oB (ixB v0 v6) fun y3 => (bif fitC X_api_Rule y3.cells then (oB (ddiref03_Contains (gB y3.cells 2) (gI y3.cells 3) (gI y3.cells 4) (gI y3.cells 5) b1_3 b1_4 b1_5) fun r4 => (kn r4)) else none)) else (kn false)))
noncomputable def ddiref26_Response_J36 := hull (ddiref26_Response_J36_i)
theorem ddiref26_Response_J36_eq : ddiref26_Response_J36 = ddiref26_Response_J36_i := hull_eq _
noncomputable def a_ddiref26_Response_J36 : AC (Int × Bool) :=
  .seq (.draw [] [.op ⟨some 33, (.fa 1 (.t 8)), none⟩,
 .op ⟨some 34, (.load false 1 (.t 33)), none⟩,
 .op ⟨some 35, (.bin .eql (.t 34) (.c (.int .i64 1))), none⟩,
 .op ⟨some 36, (.mv (.t 35)), none⟩,
 .op ⟨some 37, (.fa 1 (.t 8)), (some (36, false))⟩,
 .op ⟨some 38, (.load false 1 (.t 37)), (some (36, false))⟩,
 .op ⟨some 39, (.bin .eql (.t 38) (.c (.int .i64 28))), (some (36, false))⟩,
 .op ⟨some 40, (.pick (.t 36) (.c (.bool true)) (.t 39)), none⟩,
 .op ⟨some 41, (.mv (.t 40)), none⟩,
 .op ⟨some 42, (.mv (.t 0)), (some (41, true))⟩,
 .op ⟨some 43, (.mv (.t 6)), (some (41, true))⟩,
 .op ⟨some 44, (.ia 8 (.t 42) (.t 43)), (some (41, true))⟩,
 .et 44 X_api_Rule,
 .op ⟨some 45, (.fa 2 (.t 44)), (some (41, true))⟩,
 .op ⟨some 46, (.load true 4 (.t 45)), (some (41, true))⟩,
 .op ⟨some 47, (.fa 3 (.t 8)), (some (41, true))⟩,
 .op ⟨some 48, (.fa 0 (.t 47)), (some (41, true))⟩,
 .op ⟨some 49, (.load true 3 (.t 48)), (some (41, true))⟩] [.call ⟨some 50, (.call 25 [.t 46, .t 49]), (some (41, true))⟩ 25 ent_ddiref03_Contains,
 .op ⟨some 51, (.pick (.t 41) (.t 50) (.c (.bool false))), none⟩]) (.view [.sel [0, 3, 6, 7, 51] [0]])
theorem ok_ddiref26_Response_J36 : AC.ok Tryd.prog (TIof Tryd.prog) 53 0 (kret [.t 4, .t 5] dec_ddiref26_Response) a_ddiref26_Response_J36 := (zA (zA zT (zA (zA (EntOkB.ok k_ddiref03_Contains) zT) rfl)) zT)
theorem t_ddiref26_Response_J36 (v0 : List AV) (v6 : Int) (v7 : Int) (b0_0 : Int) (b0_1 : Int) (b0_2 : Int) (b0_3 : Bool) (b0_4 : Bool) (b0_5 : Bool) (b0_6 : Bool) (b0_7 : Bool) (b0_8 : Bool) (b0_9 : Bool) (b0_10 : Bool) (b0_11 : Int) (b0_12 : List UInt8) (b0_13 : Int) (b0_14 : List AV) (b0_15 : List AV) (b0_16 : List AV) (b1_0 : List UInt8) (b1_1 : Int) (b1_2 : Int) (b1_3 : Bool) (b1_4 : Int) (b1_5 : Int) (b1_6 : List UInt8) (b1_7 : List UInt8) (b1_8 : List UInt8) (b1_9 : Int) (b1_10 : Int) (b1_11 : Int) (b1_12 : Int) (b1_13 : Int) (b1_14 : Int) (b1_15 : Int) (K : Ex → Env → Mem → Option (Int × Bool)) : den 0 (kret [.t 4, .t 5] dec_ddiref26_Response) a_ddiref26_Response_J36 (envOf [(0, (.sl 8 v0)), (3, (.ptr 0 0)), (6, (.int .i64 v6)), (7, (.int .i64 v7)), (8, (.ptr 1 0))]) (memOf [(some (.box true [(.int .i64 b0_0), (.int .i64 b0_1), (.int .i64 b0_2), (.bool b0_3), (.bool b0_4), (.bool b0_5), (.bool b0_6), (.bool b0_7), (.bool b0_8), (.bool b0_9), (.bool b0_10), (.int .i64 b0_11), (.str b0_12), (.int .i64 b0_13), (.sl 16 b0_14), (.sl 16 b0_15), (.sl 16 b0_16)])), (some (.box true [(.str b1_0), (.int .i64 b1_1), (.int .i64 b1_2), (.bool b1_3), (.int .u64 b1_4), (.int .u64 b1_5), (.str b1_6), (.str b1_7), (.str b1_8), (.int .i64 b1_9), (.int .i64 b1_10), (.int .i64 b1_11), (.int .i64 b1_12), (.int .i64 b1_13), (.int .i64 b1_14), (.int .u64 b1_15)]))]) K = ddiref26_Response_J36 v0 v6 v7 b0_0 b0_1 b0_2 b0_3 b0_4 b0_5 b0_6 b0_7 b0_8 b0_9 b0_10 b0_11 b0_12 b0_13 b0_14 b0_15 b0_16 b1_0 b1_1 b1_2 b1_3 b1_4 b1_5 b1_6 b1_7 b1_8 b1_9 b1_10 b1_11 b1_12 b1_13 b1_14 b1_15 (fun z_v51 => K .norm (envOf [(0, (.sl 8 v0)), (3, (.ptr 0 0)), (6, (.int .i64 v6)), (7, (.int .i64 v7)), (51, (.bool z_v51))]) (memOf [(some (.box true [(.int .i64 b0_0), (.int .i64 b0_1), (.int .i64 b0_2), (.bool b0_3), (.bool b0_4), (.bool b0_5), (.bool b0_6), (.bool b0_7), (.bool b0_8), (.bool b0_9), (.bool b0_10), (.int .i64 b0_11), (.str b0_12), (.int .i64 b0_13), (.sl 16 b0_14), (.sl 16 b0_15), (.sl 16 b0_16)]))])) := by
  rw [ddiref26_Response_J36_eq]; kernel_rfl
noncomputable def s_ddiref26_Response_J36 : Env → Mem → (Ex → Env → Mem → Option (Int × Bool)) → Option (Int × Bool) := fun t m K => chk (fitS0 shp_ddiref26_Response_J36 t m) (cond (hdS shp_ddiref26_Response_J36 t m) (ddiref26_Response_J36 (gL [t 0] 0) (gI [t 6] 0) (gI [t 7] 0) (gI (bxC (m.s 0)) 0) (gI (bxC (m.s 0)) 1) (gI (bxC (m.s 0)) 2) (gB (bxC (m.s 0)) 3) (gB (bxC (m.s 0)) 4) (gB (bxC (m.s 0)) 5) (gB (bxC (m.s 0)) 6) (gB (bxC (m.s 0)) 7) (gB (bxC (m.s 0)) 8) (gB (bxC (m.s 0)) 9) (gB (bxC (m.s 0)) 10) (gI (bxC (m.s 0)) 11) (gS (bxC (m.s 0)) 12) (gI (bxC (m.s 0)) 13) (gL (bxC (m.s 0)) 14) (gL (bxC (m.s 0)) 15) (gL (bxC (m.s 0)) 16) (gS (bxC (m.s 1)) 0) (gI (bxC (m.s 1)) 1) (gI (bxC (m.s 1)) 2) (gB (bxC (m.s 1)) 3) (gI (bxC (m.s 1)) 4) (gI (bxC (m.s 1)) 5) (gS (bxC (m.s 1)) 6) (gS (bxC (m.s 1)) 7) (gS (bxC (m.s 1)) 8) (gI (bxC (m.s 1)) 9) (gI (bxC (m.s 1)) 10) (gI (bxC (m.s 1)) 11) (gI (bxC (m.s 1)) 12) (gI (bxC (m.s 1)) 13) (gI (bxC (m.s 1)) 14) (gI (bxC (m.s 1)) 15) (fun z_v51 => K .norm (envOf [(0, (.sl 8 (gL [t 0] 0))), (3, (.ptr 0 0)), (6, (.int .i64 (gI [t 6] 0))), (7, (.int .i64 (gI [t 7] 0))), (51, (.bool z_v51))]) (memOf [(some (.box true [(.int .i64 (gI (bxC (m.s 0)) 0)), (.int .i64 (gI (bxC (m.s 0)) 1)), (.int .i64 (gI (bxC (m.s 0)) 2)), (.bool (gB (bxC (m.s 0)) 3)), (.bool (gB (bxC (m.s 0)) 4)), (.bool (gB (bxC (m.s 0)) 5)), (.bool (gB (bxC (m.s 0)) 6)), (.bool (gB (bxC (m.s 0)) 7)), (.bool (gB (bxC (m.s 0)) 8)), (.bool (gB (bxC (m.s 0)) 9)), (.bool (gB (bxC (m.s 0)) 10)), (.int .i64 (gI (bxC (m.s 0)) 11)), (.str (gS (bxC (m.s 0)) 12)), (.int .i64 (gI (bxC (m.s 0)) 13)), (.sl 16 (gL (bxC (m.s 0)) 14)), (.sl 16 (gL (bxC (m.s 0)) 15)), (.sl 16 (gL (bxC (m.s 0)) 16))]))]))) none)
theorem o_ddiref26_Response_J36 : SubOk Tryd.prog (TIof Tryd.prog) 53 0 (kret [.t 4, .t 5] dec_ddiref26_Response) (scOf a_ddiref26_Response_J36) s_ddiref26_Response_J36 :=
  sub_of tabOk follows ok_ddiref26_Response_J36 (er_of (by kernel_rfl)) shp_ddiref26_Response_J36 (fun t m K => congrArg (fun z => chk (fitS0 shp_ddiref26_Response_J36 t m) (cond (hdS shp_ddiref26_Response_J36 t m) z none)) (t_ddiref26_Response_J36 (gL [t 0] 0) (gI [t 6] 0) (gI [t 7] 0) (gI (bxC (m.s 0)) 0) (gI (bxC (m.s 0)) 1) (gI (bxC (m.s 0)) 2) (gB (bxC (m.s 0)) 3) (gB (bxC (m.s 0)) 4) (gB (bxC (m.s 0)) 5) (gB (bxC (m.s 0)) 6) (gB (bxC (m.s 0)) 7) (gB (bxC (m.s 0)) 8) (gB (bxC (m.s 0)) 9) (gB (bxC (m.s 0)) 10) (gI (bxC (m.s 0)) 11) (gS (bxC (m.s 0)) 12) (gI (bxC (m.s 0)) 13) (gL (bxC (m.s 0)) 14) (gL (bxC (m.s 0)) 15) (gL (bxC (m.s 0)) 16) (gS (bxC (m.s 1)) 0) (gI (bxC (m.s 1)) 1) (gI (bxC (m.s 1)) 2) (gB (bxC (m.s 1)) 3) (gI (bxC (m.s 1)) 4) (gI (bxC (m.s 1)) 5) (gS (bxC (m.s 1)) 6) (gS (bxC (m.s 1)) 7) (gS (bxC (m.s 1)) 8) (gI (bxC (m.s 1)) 9) (gI (bxC (m.s 1)) 10) (gI (bxC (m.s 1)) 11) (gI (bxC (m.s 1)) 12) (gI (bxC (m.s 1)) 13) (gI (bxC (m.s 1)) 14) (gI (bxC (m.s 1)) 15) K).symm)
def shp_ddiref26_Response_L24 : Shp := ⟨[(0, .one (.l (.sl 8))), (3, .one (.ptr 0 0)), (6, .one (.l (.i .i64))), (7, .one (.l (.i .i64)))], [.box true [(.l (.i .i64)), (.l (.i .i64)), (.l (.i .i64)), (.l .b), (.l .b), (.l .b), (.l .b), (.l .b), (.l .b), (.l .b), (.l .b), (.l (.i .i64)), (.l .s), (.l (.i .i64)), (.l (.sl 16)), (.l (.sl 16)), (.l (.sl 16))]]⟩
noncomputable def ddiref26_Response_L24_b  (v0 : List AV) (v6 : Int) (v7 : Int) (b0_0 : Int) (b0_1 : Int) (b0_2 : Int) (b0_3 : Bool) (b0_4 : Bool) (b0_5 : Bool) (b0_6 : Bool) (b0_7 : Bool) (b0_8 : Bool) (b0_9 : Bool) (b0_10 : Bool) (b0_11 : Int) (b0_12 : List UInt8) (b0_13 : Int) (b0_14 : List AV) (b0_15 : List AV) (b0_16 : List AV) (next : Int → Option (Int × Bool)) (kx2 : Unit → Option (Int × Bool)) : Option (Int × Bool) :=
  (bif (decide (v7 < (b0_14.length : Int))) then (oB (ixB b0_14 v7) fun y1 => (bif fitC T_api_Record y1.cells then (ddiref26_Response_J36 v0 v6 v7 b0_0 b0_1 b0_2 b0_3 b0_4 b0_5 b0_6 b0_7 b0_8 b0_9 b0_10 b0_11 b0_12 b0_13 b0_14 b0_15 b0_16 (gS y1.cells 0) (gI y1.cells 1) (gI y1.cells 2) (gB y1.cells 3) (gI y1.cells 4) (gI y1.cells 5) (gS y1.cells 6) (gS y1.cells 7) (gS y1.cells 8) (gI y1.cells 9) (gI y1.cells 10) (gI y1.cells 11) (gI y1.cells 12) (gI y1.cells 13) (gI y1.cells 14) (gI y1.cells 15) (fun v51q2 => (bif v51q2 then (some (v6, true)) else (next (IntKind.i64.wrap (v7 + (1 : Int))))))) else none)) else (kx2 ()))
noncomputable def ddiref26_Response_L24_i  (v0 : List AV) (v6 : Int) (b0_0 : Int) (b0_1 : Int) (b0_2 : Int) (b0_3 : Bool) (b0_4 : Bool) (b0_5 : Bool) (b0_6 : Bool) (b0_7 : Bool) (b0_8 : Bool) (b0_9 : Bool) (b0_10 : Bool) (b0_11 : Int) (b0_12 : List UInt8) (b0_13 : Int) (b0_14 : List AV) (b0_15 : List AV) (b0_16 : List AV) (kx2 : Unit → Option (Int × Bool)) : Nat → Int → Option (Int × Bool)
  | 0 => (fun _ => none)
  | n + 1 => (fun v7 => ddiref26_Response_L24_b v0 v6 v7 b0_0 b0_1 b0_2 b0_3 b0_4 b0_5 b0_6 b0_7 b0_8 b0_9 b0_10 b0_11 b0_12 b0_13 b0_14 b0_15 b0_16 (ddiref26_Response_L24_i v0 v6 b0_0 b0_1 b0_2 b0_3 b0_4 b0_5 b0_6 b0_7 b0_8 b0_9 b0_10 b0_11 b0_12 b0_13 b0_14 b0_15 b0_16 kx2 n) kx2)
noncomputable def ddiref26_Response_L24 := hull (ddiref26_Response_L24_i)
theorem ddiref26_Response_L24_eq : ddiref26_Response_L24 = ddiref26_Response_L24_i := hull_eq _
noncomputable def a_ddiref26_Response_L24 : AC (Int × Bool) :=
  .seq (.seq (.reg [.op ⟨some 21, (.mv (.t 7)), none⟩,
 .op ⟨some 22, (.fa 14 (.t 3)), none⟩,
 .op ⟨some 23, (.load false 1 (.t 22)), none⟩,
 .op ⟨some 24, (.len false (.t 23)), none⟩,
 .op ⟨some 25, (.bin .lss (.t 21) (.t 24)), none⟩]) (.cond (.t 25) (.skip) (.seq (.view [.sel [0, 3, 6] [0]]) (.exit 2)))) (.seq (.block 3 (.seq (.reg [.op ⟨some 28, (.fa 14 (.t 3)), none⟩,
 .op ⟨some 29, (.load false 1 (.t 28)), none⟩,
 .op ⟨some 30, (.mv (.t 7)), none⟩,
 .op ⟨some 31, (.ia 16 (.t 29) (.t 30)), none⟩,
 .st (.etac 31 T_api_Record),
 .op ⟨some 32, (.load true 16 (.t 31)), none⟩,
 .op ⟨some 8, (.alloc [(.str []), (.int .i64 0), (.int .i64 0), (.bool false), (.int .u64 0), (.int .u64 0), (.str []), (.str []), (.str []), (.int .i64 0), (.int .i64 0), (.int .i64 0), (.int .i64 0), (.int .i64 0), (.int .i64 0), (.int .u64 0)]), none⟩,
 .op ⟨none, (.store 16 (.t 8) (.t 32)), none⟩]) (.seq (.seq (.view [.sel [0, 3, 6, 7, 8] [0, 1]]) (.sub (scOf a_ddiref26_Response_J36) s_ddiref26_Response_J36)) (.cond (.t 51) (.seq (.reg [.op ⟨some 52, (.mv (.t 6)), none⟩,
 .op ⟨some 4, (.mv (.t 52)), none⟩,
 .op ⟨some 5, (.mv (.c (.bool true))), none⟩]) (.ret)) (.skip))))) (.seq (.reg [.op ⟨some 26, (.mv (.t 7)), none⟩,
 .op ⟨some 27, (.bin .add (.t 26) (.c (.int .i64 1))), none⟩,
 .op ⟨some 7, (.mv (.t 27)), none⟩]) (.view [.sel [0, 3, 6, 7] [0]])))
theorem ok_ddiref26_Response_L24 : AC.ok Tryd.prog (TIof Tryd.prog) 53 0 (kret [.t 4, .t 5] dec_ddiref26_Response) a_ddiref26_Response_L24 := (zA (zA zT (zA zT (zA zT zT))) (zA (zA zT (zA (zA zT o_ddiref26_Response_J36) (zA (zA zT zT) zT))) (zA zT zT)))
theorem t_ddiref26_Response_L24_b (v0 : List AV) (v6 : Int) (v7 : Int) (b0_0 : Int) (b0_1 : Int) (b0_2 : Int) (b0_3 : Bool) (b0_4 : Bool) (b0_5 : Bool) (b0_6 : Bool) (b0_7 : Bool) (b0_8 : Bool) (b0_9 : Bool) (b0_10 : Bool) (b0_11 : Int) (b0_12 : List UInt8) (b0_13 : Int) (b0_14 : List AV) (b0_15 : List AV) (b0_16 : List AV) (K : Ex → Env → Mem → Option (Int × Bool)) : den 0 (kret [.t 4, .t 5] dec_ddiref26_Response) a_ddiref26_Response_L24 (envOf [(0, (.sl 8 v0)), (3, (.ptr 0 0)), (6, (.int .i64 v6)), (7, (.int .i64 v7))]) (memOf [(some (.box true [(.int .i64 b0_0), (.int .i64 b0_1), (.int .i64 b0_2), (.bool b0_3), (.bool b0_4), (.bool b0_5), (.bool b0_6), (.bool b0_7), (.bool b0_8), (.bool b0_9), (.bool b0_10), (.int .i64 b0_11), (.str b0_12), (.int .i64 b0_13), (.sl 16 b0_14), (.sl 16 b0_15), (.sl 16 b0_16)]))]) K = ddiref26_Response_L24_b v0 v6 v7 b0_0 b0_1 b0_2 b0_3 b0_4 b0_5 b0_6 b0_7 b0_8 b0_9 b0_10 b0_11 b0_12 b0_13 b0_14 b0_15 b0_16 (fun z_v7 => K .norm (envOf [(0, (.sl 8 v0)), (3, (.ptr 0 0)), (6, (.int .i64 v6)), (7, (.int .i64 z_v7))]) (memOf [(some (.box true [(.int .i64 b0_0), (.int .i64 b0_1), (.int .i64 b0_2), (.bool b0_3), (.bool b0_4), (.bool b0_5), (.bool b0_6), (.bool b0_7), (.bool b0_8), (.bool b0_9), (.bool b0_10), (.int .i64 b0_11), (.str b0_12), (.int .i64 b0_13), (.sl 16 b0_14), (.sl 16 b0_15), (.sl 16 b0_16)]))])) (fun _ => K (.exit 2) (envOf [(0, (.sl 8 v0)), (3, (.ptr 0 0)), (6, (.int .i64 v6))]) (memOf [(some (.box true [(.int .i64 b0_0), (.int .i64 b0_1), (.int .i64 b0_2), (.bool b0_3), (.bool b0_4), (.bool b0_5), (.bool b0_6), (.bool b0_7), (.bool b0_8), (.bool b0_9), (.bool b0_10), (.int .i64 b0_11), (.str b0_12), (.int .i64 b0_13), (.sl 16 b0_14), (.sl 16 b0_15), (.sl 16 b0_16)]))])) := by kernel_rfl
theorem t_ddiref26_Response_L24 (v0 : List AV) (v6 : Int) (b0_0 : Int) (b0_1 : Int) (b0_2 : Int) (b0_3 : Bool) (b0_4 : Bool) (b0_5 : Bool) (b0_6 : Bool) (b0_7 : Bool) (b0_8 : Bool) (b0_9 : Bool) (b0_10 : Bool) (b0_11 : Int) (b0_12 : List UInt8) (b0_13 : Int) (b0_14 : List AV) (b0_15 : List AV) (b0_16 : List AV) (K : Ex → Env → Mem → Option (Int × Bool)) : ∀ (n : Nat) (v7 : Int), iterD (den 0 (kret [.t 4, .t 5] dec_ddiref26_Response) a_ddiref26_Response_L24) n (envOf [(0, (.sl 8 v0)), (3, (.ptr 0 0)), (6, (.int .i64 v6)), (7, (.int .i64 v7))]) (memOf [(some (.box true [(.int .i64 b0_0), (.int .i64 b0_1), (.int .i64 b0_2), (.bool b0_3), (.bool b0_4), (.bool b0_5), (.bool b0_6), (.bool b0_7), (.bool b0_8), (.bool b0_9), (.bool b0_10), (.int .i64 b0_11), (.str b0_12), (.int .i64 b0_13), (.sl 16 b0_14), (.sl 16 b0_15), (.sl 16 b0_16)]))]) K = ddiref26_Response_L24 v0 v6 b0_0 b0_1 b0_2 b0_3 b0_4 b0_5 b0_6 b0_7 b0_8 b0_9 b0_10 b0_11 b0_12 b0_13 b0_14 b0_15 b0_16 (fun _ => K (.exit 2) (envOf [(0, (.sl 8 v0)), (3, (.ptr 0 0)), (6, (.int .i64 v6))]) (memOf [(some (.box true [(.int .i64 b0_0), (.int .i64 b0_1), (.int .i64 b0_2), (.bool b0_3), (.bool b0_4), (.bool b0_5), (.bool b0_6), (.bool b0_7), (.bool b0_8), (.bool b0_9), (.bool b0_10), (.int .i64 b0_11), (.str b0_12), (.int .i64 b0_13), (.sl 16 b0_14), (.sl 16 b0_15), (.sl 16 b0_16)]))])) n v7 := by
  rw [ddiref26_Response_L24_eq]
  intro n
  induction n with
  | zero => intros; rfl
  | succ n ih =>
 intro v7
 exact (t_ddiref26_Response_L24_b v0 v6 v7 b0_0 b0_1 b0_2 b0_3 b0_4 b0_5 b0_6 b0_7 b0_8 b0_9 b0_10 b0_11 b0_12 b0_13 b0_14 b0_15 b0_16 (itK (den 0 (kret [.t 4, .t 5] dec_ddiref26_Response) a_ddiref26_Response_L24) n K)).trans (congrArg (fun q => ddiref26_Response_L24_b v0 v6 v7 b0_0 b0_1 b0_2 b0_3 b0_4 b0_5 b0_6 b0_7 b0_8 b0_9 b0_10 b0_11 b0_12 b0_13 b0_14 b0_15 b0_16 q (fun _ => K (.exit 2) (envOf [(0, (.sl 8 v0)), (3, (.ptr 0 0)), (6, (.int .i64 v6))]) (memOf [(some (.box true [(.int .i64 b0_0), (.int .i64 b0_1), (.int .i64 b0_2), (.bool b0_3), (.bool b0_4), (.bool b0_5), (.bool b0_6), (.bool b0_7), (.bool b0_8), (.bool b0_9), (.bool b0_10), (.int .i64 b0_11), (.str b0_12), (.int .i64 b0_13), (.sl 16 b0_14), (.sl 16 b0_15), (.sl 16 b0_16)]))]))) (funext fun v7 => ih v7))
noncomputable def s_ddiref26_Response_L24 : Env → Mem → (Ex → Env → Mem → Option (Int × Bool)) → Option (Int × Bool) := fun t m K => chk (fitS0 shp_ddiref26_Response_L24 t m) (cond (hdS shp_ddiref26_Response_L24 t m) (ddiref26_Response_L24 (gL [t 0] 0) (gI [t 6] 0) (gI (bxC (m.s 0)) 0) (gI (bxC (m.s 0)) 1) (gI (bxC (m.s 0)) 2) (gB (bxC (m.s 0)) 3) (gB (bxC (m.s 0)) 4) (gB (bxC (m.s 0)) 5) (gB (bxC (m.s 0)) 6) (gB (bxC (m.s 0)) 7) (gB (bxC (m.s 0)) 8) (gB (bxC (m.s 0)) 9) (gB (bxC (m.s 0)) 10) (gI (bxC (m.s 0)) 11) (gS (bxC (m.s 0)) 12) (gI (bxC (m.s 0)) 13) (gL (bxC (m.s 0)) 14) (gL (bxC (m.s 0)) 15) (gL (bxC (m.s 0)) 16) (fun _ => K (.exit 2) (envOf [(0, (.sl 8 (gL [t 0] 0))), (3, (.ptr 0 0)), (6, (.int .i64 (gI [t 6] 0)))]) (memOf [(some (.box true [(.int .i64 (gI (bxC (m.s 0)) 0)), (.int .i64 (gI (bxC (m.s 0)) 1)), (.int .i64 (gI (bxC (m.s 0)) 2)), (.bool (gB (bxC (m.s 0)) 3)), (.bool (gB (bxC (m.s 0)) 4)), (.bool (gB (bxC (m.s 0)) 5)), (.bool (gB (bxC (m.s 0)) 6)), (.bool (gB (bxC (m.s 0)) 7)), (.bool (gB (bxC (m.s 0)) 8)), (.bool (gB (bxC (m.s 0)) 9)), (.bool (gB (bxC (m.s 0)) 10)), (.int .i64 (gI (bxC (m.s 0)) 11)), (.str (gS (bxC (m.s 0)) 12)), (.int .i64 (gI (bxC (m.s 0)) 13)), (.sl 16 (gL (bxC (m.s 0)) 14)), (.sl 16 (gL (bxC (m.s 0)) 15)), (.sl 16 (gL (bxC (m.s 0)) 16))]))])) FU (gI [t 7] 0)) none)
theorem o_ddiref26_Response_L24 : SubOk Tryd.prog (TIof Tryd.prog) 53 0 (kret [.t 4, .t 5] dec_ddiref26_Response) (.loop (scOf a_ddiref26_Response_L24)) s_ddiref26_Response_L24 :=
  loop_of tabOk follows ok_ddiref26_Response_L24 (er_of (by kernel_rfl)) shp_ddiref26_Response_L24 (fun t m K => congrArg (fun z => chk (fitS0 shp_ddiref26_Response_L24 t m) (cond (hdS shp_ddiref26_Response_L24 t m) z none)) (t_ddiref26_Response_L24 (gL [t 0] 0) (gI [t 6] 0) (gI (bxC (m.s 0)) 0) (gI (bxC (m.s 0)) 1) (gI (bxC (m.s 0)) 2) (gB (bxC (m.s 0)) 3) (gB (bxC (m.s 0)) 4) (gB (bxC (m.s 0)) 5) (gB (bxC (m.s 0)) 6) (gB (bxC (m.s 0)) 7) (gB (bxC (m.s 0)) 8) (gB (bxC (m.s 0)) 9) (gB (bxC (m.s 0)) 10) (gI (bxC (m.s 0)) 11) (gS (bxC (m.s 0)) 12) (gI (bxC (m.s 0)) 13) (gL (bxC (m.s 0)) 14) (gL (bxC (m.s 0)) 15) (gL (bxC (m.s 0)) 16) K FU (gI [t 7] 0)).symm)
def shp_ddiref26_Response_L6 : Shp := ⟨[(0, .one (.l (.sl 8))), (3, .one (.ptr 0 0)), (6, .one (.l (.i .i64)))], [.box true [(.l (.i .i64)), (.l (.i .i64)), (.l (.i .i64)), (.l .b), (.l .b), (.l .b), (.l .b), (.l .b), (.l .b), (.l .b), (.l .b), (.l (.i .i64)), (.l .s), (.l (.i .i64)), (.l (.sl 16)), (.l (.sl 16)), (.l (.sl 16))]]⟩
noncomputable def ddiref26_Response_L6_b  (v0 : List AV) (v6 : Int) (b0_0 : Int) (b0_1 : Int) (b0_2 : Int) (b0_3 : Bool) (b0_4 : Bool) (b0_5 : Bool) (b0_6 : Bool) (b0_7 : Bool) (b0_8 : Bool) (b0_9 : Bool) (b0_10 : Bool) (b0_11 : Int) (b0_12 : List UInt8) (b0_13 : Int) (b0_14 : List AV) (b0_15 : List AV) (b0_16 : List AV) (next : Int → Option (Int × Bool)) (kx0 : Unit → Option (Int × Bool)) : Option (Int × Bool) :=
  (bif (decide (v6 < (v0.length : Int))) then (oB (ixB v0 v6) fun y1 => (bif fitC T_api_Rule y1.cells then (bif ((gI y1.cells 0) != (3 : Int)) then (next (IntKind.i64.wrap (v6 + (1 : Int)))) else (ddiref26_Response_L24 v0 v6 b0_0 b0_1 b0_2 b0_3 b0_4 b0_5 b0_6 b0_7 b0_8 b0_9 b0_10 b0_11 b0_12 b0_13 b0_14 b0_15 b0_16 (fun (_ : Unit) => (next (IntKind.i64.wrap (v6 + (1 : Int))))) FU (0 : Int))) else none)) else (kx0 ()))
noncomputable def ddiref26_Response_L6_i  (v0 : List AV) (b0_0 : Int) (b0_1 : Int) (b0_2 : Int) (b0_3 : Bool) (b0_4 : Bool) (b0_5 : Bool) (b0_6 : Bool) (b0_7 : Bool) (b0_8 : Bool) (b0_9 : Bool) (b0_10 : Bool) (b0_11 : Int) (b0_12 : List UInt8) (b0_13 : Int) (b0_14 : List AV) (b0_15 : List AV) (b0_16 : List AV) (kx0 : Unit → Option (Int × Bool)) : Nat → Int → Option (Int × Bool)
  | 0 => (fun _ => none)
  | n + 1 => (fun v6 => ddiref26_Response_L6_b v0 v6 b0_0 b0_1 b0_2 b0_3 b0_4 b0_5 b0_6 b0_7 b0_8 b0_9 b0_10 b0_11 b0_12 b0_13 b0_14 b0_15 b0_16 (ddiref26_Response_L6_i v0 b0_0 b0_1 b0_2 b0_3 b0_4 b0_5 b0_6 b0_7 b0_8 b0_9 b0_10 b0_11 b0_12 b0_13 b0_14 b0_15 b0_16 kx0 n) kx0)
noncomputable def ddiref26_Response_L6 := hull (ddiref26_Response_L6_i)
theorem ddiref26_Response_L6_eq : ddiref26_Response_L6 = ddiref26_Response_L6_i := hull_eq _
noncomputable def a_ddiref26_Response_L6 : AC (Int × Bool) :=
  .seq (.seq (.reg [.op ⟨some 9, (.mv (.t 6)), none⟩,
 .op ⟨some 10, (.mv (.t 0)), none⟩,
 .op ⟨some 11, (.len false (.t 10)), none⟩,
 .op ⟨some 12, (.bin .lss (.t 9) (.t 11)), none⟩]) (.cond (.t 12) (.skip) (.seq (.view [.sel [] []]) (.exit 0)))) (.seq (.block 1 (.seq (.seq (.reg [.op ⟨some 15, (.mv (.t 0)), none⟩,
 .op ⟨some 16, (.mv (.t 6)), none⟩,
 .op ⟨some 17, (.ia 8 (.t 15) (.t 16)), none⟩,
 .st (.etac 17 T_api_Rule),
 .op ⟨some 18, (.fa 0 (.t 17)), none⟩,
 .op ⟨some 19, (.load false 1 (.t 18)), none⟩,
 .op ⟨some 20, (.bin .neq (.t 19) (.c (.int .i64 3))), none⟩]) (.cond (.t 20) (.exit 1) (.skip))) (.seq (.reg [.op ⟨some 7, (.mv (.c (.int .i64 0))), none⟩]) (.block 2 (.seq (.view [.sel [0, 3, 6, 7] [0]]) (.sub (.loop (scOf a_ddiref26_Response_L24)) s_ddiref26_Response_L24)))))) (.seq (.reg [.op ⟨some 13, (.mv (.t 6)), none⟩,
 .op ⟨some 14, (.bin .add (.t 13) (.c (.int .i64 1))), none⟩,
 .op ⟨some 6, (.mv (.t 14)), none⟩]) (.view [.sel [0, 3, 6] [0]])))
theorem ok_ddiref26_Response_L6 : AC.ok Tryd.prog (TIof Tryd.prog) 53 0 (kret [.t 4, .t 5] dec_ddiref26_Response) a_ddiref26_Response_L6 := (zA (zA zT (zA zT (zA zT zT))) (zA (zA (zA zT (zA zT zT)) (zA zT (zA zT o_ddiref26_Response_L24))) (zA zT zT)))
theorem t_ddiref26_Response_L6_b (v0 : List AV) (v6 : Int) (b0_0 : Int) (b0_1 : Int) (b0_2 : Int) (b0_3 : Bool) (b0_4 : Bool) (b0_5 : Bool) (b0_6 : Bool) (b0_7 : Bool) (b0_8 : Bool) (b0_9 : Bool) (b0_10 : Bool) (b0_11 : Int) (b0_12 : List UInt8) (b0_13 : Int) (b0_14 : List AV) (b0_15 : List AV) (b0_16 : List AV) (K : Ex → Env → Mem → Option (Int × Bool)) : den 0 (kret [.t 4, .t 5] dec_ddiref26_Response) a_ddiref26_Response_L6 (envOf [(0, (.sl 8 v0)), (3, (.ptr 0 0)), (6, (.int .i64 v6))]) (memOf [(some (.box true [(.int .i64 b0_0), (.int .i64 b0_1), (.int .i64 b0_2), (.bool b0_3), (.bool b0_4), (.bool b0_5), (.bool b0_6), (.bool b0_7), (.bool b0_8), (.bool b0_9), (.bool b0_10), (.int .i64 b0_11), (.str b0_12), (.int .i64 b0_13), (.sl 16 b0_14), (.sl 16 b0_15), (.sl 16 b0_16)]))]) K = ddiref26_Response_L6_b v0 v6 b0_0 b0_1 b0_2 b0_3 b0_4 b0_5 b0_6 b0_7 b0_8 b0_9 b0_10 b0_11 b0_12 b0_13 b0_14 b0_15 b0_16 (fun z_v6 => K .norm (envOf [(0, (.sl 8 v0)), (3, (.ptr 0 0)), (6, (.int .i64 z_v6))]) (memOf [(some (.box true [(.int .i64 b0_0), (.int .i64 b0_1), (.int .i64 b0_2), (.bool b0_3), (.bool b0_4), (.bool b0_5), (.bool b0_6), (.bool b0_7), (.bool b0_8), (.bool b0_9), (.bool b0_10), (.int .i64 b0_11), (.str b0_12), (.int .i64 b0_13), (.sl 16 b0_14), (.sl 16 b0_15), (.sl 16 b0_16)]))])) (fun _ => K (.exit 0) (envOf []) (memOf [])) := by kernel_rfl
theorem t_ddiref26_Response_L6 (v0 : List AV) (b0_0 : Int) (b0_1 : Int) (b0_2 : Int) (b0_3 : Bool) (b0_4 : Bool) (b0_5 : Bool) (b0_6 : Bool) (b0_7 : Bool) (b0_8 : Bool) (b0_9 : Bool) (b0_10 : Bool) (b0_11 : Int) (b0_12 : List UInt8) (b0_13 : Int) (b0_14 : List AV) (b0_15 : List AV) (b0_16 : List AV) (K : Ex → Env → Mem → Option (Int × Bool)) : ∀ (n : Nat) (v6 : Int), iterD (den 0 (kret [.t 4, .t 5] dec_ddiref26_Response) a_ddiref26_Response_L6) n (envOf [(0, (.sl 8 v0)), (3, (.ptr 0 0)), (6, (.int .i64 v6))]) (memOf [(some (.box true [(.int .i64 b0_0), (.int .i64 b0_1), (.int .i64 b0_2), (.bool b0_3), (.bool b0_4), (.bool b0_5), (.bool b0_6), (.bool b0_7), (.bool b0_8), (.bool b0_9), (.bool b0_10), (.int .i64 b0_11), (.str b0_12), (.int .i64 b0_13), (.sl 16 b0_14), (.sl 16 b0_15), (.sl 16 b0_16)]))]) K = ddiref26_Response_L6 v0 b0_0 b0_1 b0_2 b0_3 b0_4 b0_5 b0_6 b0_7 b0_8 b0_9 b0_10 b0_11 b0_12 b0_13 b0_14 b0_15 b0_16 (fun _ => K (.exit 0) (envOf []) (memOf [])) n v6 := by
  rw [ddiref26_Response_L6_eq]
  intro n
  induction n with
  | zero => intros; rfl
  | succ n ih =>
 intro v6
 exact (t_ddiref26_Response_L6_b v0 v6 b0_0 b0_1 b0_2 b0_3 b0_4 b0_5 b0_6 b0_7 b0_8 b0_9 b0_10 b0_11 b0_12 b0_13 b0_14 b0_15 b0_16 (itK (den 0 (kret [.t 4, .t 5] dec_ddiref26_Response) a_ddiref26_Response_L6) n K)).trans (congrArg (fun q => ddiref26_Response_L6_b v0 v6 b0_0 b0_1 b0_2 b0_3 b0_4 b0_5 b0_6 b0_7 b0_8 b0_9 b0_10 b0_11 b0_12 b0_13 b0_14 b0_15 b0_16 q (fun _ => K (.exit 0) (envOf []) (memOf []))) (funext fun v6 => ih v6))
noncomputable def s_ddiref26_Response_L6 : Env → Mem → (Ex → Env → Mem → Option (Int × Bool)) → Option (Int × Bool) := fun t m K => chk (fitS0 shp_ddiref26_Response_L6 t m) (cond (hdS shp_ddiref26_Response_L6 t m) (ddiref26_Response_L6 (gL [t 0] 0) (gI (bxC (m.s 0)) 0) (gI (bxC (m.s 0)) 1) (gI (bxC (m.s 0)) 2) (gB (bxC (m.s 0)) 3) (gB (bxC (m.s 0)) 4) (gB (bxC (m.s 0)) 5) (gB (bxC (m.s 0)) 6) (gB (bxC (m.s 0)) 7) (gB (bxC (m.s 0)) 8) (gB (bxC (m.s 0)) 9) (gB (bxC (m.s 0)) 10) (gI (bxC (m.s 0)) 11) (gS (bxC (m.s 0)) 12) (gI (bxC (m.s 0)) 13) (gL (bxC (m.s 0)) 14) (gL (bxC (m.s 0)) 15) (gL (bxC (m.s 0)) 16) (fun _ => K (.exit 0) (envOf []) (memOf [])) FU (gI [t 6] 0)) none)
theorem o_ddiref26_Response_L6 : SubOk Tryd.prog (TIof Tryd.prog) 53 0 (kret [.t 4, .t 5] dec_ddiref26_Response) (.loop (scOf a_ddiref26_Response_L6)) s_ddiref26_Response_L6 :=
  loop_of tabOk follows ok_ddiref26_Response_L6 (er_of (by kernel_rfl)) shp_ddiref26_Response_L6 (fun t m K => congrArg (fun z => chk (fitS0 shp_ddiref26_Response_L6 t m) (cond (hdS shp_ddiref26_Response_L6 t m) z none)) (t_ddiref26_Response_L6 (gL [t 0] 0) (gI (bxC (m.s 0)) 0) (gI (bxC (m.s 0)) 1) (gI (bxC (m.s 0)) 2) (gB (bxC (m.s 0)) 3) (gB (bxC (m.s 0)) 4) (gB (bxC (m.s 0)) 5) (gB (bxC (m.s 0)) 6) (gB (bxC (m.s 0)) 7) (gB (bxC (m.s 0)) 8) (gB (bxC (m.s 0)) 9) (gB (bxC (m.s 0)) 10) (gI (bxC (m.s 0)) 11) (gS (bxC (m.s 0)) 12) (gI (bxC (m.s 0)) 13) (gL (bxC (m.s 0)) 14) (gL (bxC (m.s 0)) 15) (gL (bxC (m.s 0)) 16) K FU (gI [t 6] 0)).symm)
def shp_ddiref26_Response : Shp := ⟨[(0, .one (.l (.sl 8))), (1, .st [(.l (.i .i64)), (.l (.i .i64)), (.l (.i .i64)), (.l .b), (.l .b), (.l .b), (.l .b), (.l .b), (.l .b), (.l .b), (.l .b), (.l (.i .i64)), (.l .s), (.l (.i .i64)), (.l (.sl 16)), (.l (.sl 16)), (.l (.sl 16))])], []⟩
noncomputable def ddiref26_Response_i (v0 : List AV) (v1_0 : Int) (v1_1 : Int) (v1_2 : Int) (v1_3 : Bool) (v1_4 : Bool) (v1_5 : Bool) (v1_6 : Bool) (v1_7 : Bool) (v1_8 : Bool) (v1_9 : Bool) (v1_10 : Bool) (v1_11 : Int) (v1_12 : List UInt8) (v1_13 : Int) (v1_14 : List AV) (v1_15 : List AV) (v1_16 : List AV) : Option (Int × Bool) :=
  (ddiref26_Response_L6 v0 v1_0 v1_1 v1_2 v1_3 v1_4 v1_5 v1_6 v1_7 v1_8 v1_9 v1_10 v1_11 v1_12 v1_13 v1_14 v1_15 v1_16 (fun (_ : Unit) => (some ((0 : Int), false))) FU (0 : Int))
noncomputable def ddiref26_Response := hull ddiref26_Response_i
theorem ddiref26_Response_eq : ddiref26_Response = ddiref26_Response_i := hull_eq _
noncomputable def a_ddiref26_Response : AC (Int × Bool) :=
  .seq (.reg [.op ⟨some 3, (.box (.t 1)), none⟩,
 .op ⟨some 4, (.mv (.c (.int .i64 0))), none⟩,
 .op ⟨some 5, (.mv (.c (.bool false))), none⟩]) (.seq (.seq (.reg [.op ⟨some 6, (.mv (.c (.int .i64 0))), none⟩]) (.block 0 (.seq (.view [.sel [0, 3, 6] [0]]) (.sub (.loop (scOf a_ddiref26_Response_L6)) s_ddiref26_Response_L6)))) (.seq (.reg [.op ⟨some 4, (.mv (.c (.int .i64 0))), none⟩,
 .op ⟨some 5, (.mv (.c (.bool false))), none⟩]) (.ret)))
theorem ok_ddiref26_Response : AC.ok Tryd.prog (TIof Tryd.prog) 53 0 (kret [.t 4, .t 5] dec_ddiref26_Response) a_ddiref26_Response := (zA zT (zA (zA zT (zA zT o_ddiref26_Response_L6)) (zA zT zT)))
theorem t_ddiref26_Response (v0 : List AV) (v1_0 : Int) (v1_1 : Int) (v1_2 : Int) (v1_3 : Bool) (v1_4 : Bool) (v1_5 : Bool) (v1_6 : Bool) (v1_7 : Bool) (v1_8 : Bool) (v1_9 : Bool) (v1_10 : Bool) (v1_11 : Int) (v1_12 : List UInt8) (v1_13 : Int) (v1_14 : List AV) (v1_15 : List AV) (v1_16 : List AV) : den 0 (kret [.t 4, .t 5] dec_ddiref26_Response) a_ddiref26_Response (envOf [(0, (.sl 8 v0)), (1, (.agg [(.int .i64 v1_0), (.int .i64 v1_1), (.int .i64 v1_2), (.bool v1_3), (.bool v1_4), (.bool v1_5), (.bool v1_6), (.bool v1_7), (.bool v1_8), (.bool v1_9), (.bool v1_10), (.int .i64 v1_11), (.str v1_12), (.int .i64 v1_13), (.sl 16 v1_14), (.sl 16 v1_15), (.sl 16 v1_16)]))]) (memOf []) (kend (kret [.t 4, .t 5] dec_ddiref26_Response)) = ddiref26_Response v0 v1_0 v1_1 v1_2 v1_3 v1_4 v1_5 v1_6 v1_7 v1_8 v1_9 v1_10 v1_11 v1_12 v1_13 v1_14 v1_15 v1_16 := by
  rw [ddiref26_Response_eq]; kernel_rfl
theorem c_ddiref26_Response : cFn (TIof Tryd.prog) Tryd.f12 = some ⟨53, [.t 4, .t 5], scOf a_ddiref26_Response⟩ := by kernel_rfl
noncomputable def ent_ddiref26_Response {R : Type} (xs : List AV) (K : AV → Option R) : Option R := chk (fitS shp_ddiref26_Response (entry xs) Mem.none) (oB (ddiref26_Response (gL [(entry xs) 0] 0) (gI ((entry xs) 1).cells 0) (gI ((entry xs) 1).cells 1) (gI ((entry xs) 1).cells 2) (gB ((entry xs) 1).cells 3) (gB ((entry xs) 1).cells 4) (gB ((entry xs) 1).cells 5) (gB ((entry xs) 1).cells 6) (gB ((entry xs) 1).cells 7) (gB ((entry xs) 1).cells 8) (gB ((entry xs) 1).cells 9) (gB ((entry xs) 1).cells 10) (gI ((entry xs) 1).cells 11) (gS ((entry xs) 1).cells 12) (gI ((entry xs) 1).cells 13) (gL ((entry xs) 1).cells 14) (gL ((entry xs) 1).cells 15) (gL ((entry xs) 1).cells 16)) fun r => K (enc_ddiref26_Response r))
theorem k_ddiref26_Response {R : Type} : EntOkB Tryd.prog 12 (ent_ddiref26_Response (R := R)) :=
  ent_of (F := fun xs => ddiref26_Response (gL [(entry xs) 0] 0) (gI ((entry xs) 1).cells 0) (gI ((entry xs) 1).cells 1) (gI ((entry xs) 1).cells 2) (gB ((entry xs) 1).cells 3) (gB ((entry xs) 1).cells 4) (gB ((entry xs) 1).cells 5) (gB ((entry xs) 1).cells 6) (gB ((entry xs) 1).cells 7) (gB ((entry xs) 1).cells 8) (gB ((entry xs) 1).cells 9) (gB ((entry xs) 1).cells 10) (gI ((entry xs) 1).cells 11) (gS ((entry xs) 1).cells 12) (gI ((entry xs) 1).cells 13) (gL ((entry xs) 1).cells 14) (gL ((entry xs) 1).cells 15) (gL ((entry xs) 1).cells 16)) (enc := enc_ddiref26_Response) tabOk follows Tryd.func12 (by kernel_rfl) c_ddiref26_Response (fun z r h => by
 obtain ⟨h1, h2⟩ := cond_some h
 cases h2
 exact (fitTup_eq h1).symm) ok_ddiref26_Response (er_of (by kernel_rfl)) shp_ddiref26_Response (fun xs => t_ddiref26_Response (gL [(entry xs) 0] 0) (gI ((entry xs) 1).cells 0) (gI ((entry xs) 1).cells 1) (gI ((entry xs) 1).cells 2) (gB ((entry xs) 1).cells 3) (gB ((entry xs) 1).cells 4) (gB ((entry xs) 1).cells 5) (gB ((entry xs) 1).cells 6) (gB ((entry xs) 1).cells 7) (gB ((entry xs) 1).cells 8) (gB ((entry xs) 1).cells 9) (gB ((entry xs) 1).cells 10) (gI ((entry xs) 1).cells 11) (gS ((entry xs) 1).cells 12) (gI ((entry xs) 1).cells 13) (gL ((entry xs) 1).cells 14) (gL ((entry xs) 1).cells 15) (gL ((entry xs) 1).cells 16)) (fun xs K r h => by
 unfold ent_ddiref26_Response at h
 exact ⟨(chk_some h).1, oB_some (chk_some h).2⟩)
def dec_ddiref26_Apply (z : AV) : Option AV := cond (fitRV (.st [(.i .i64), (.i .i64), (.i .i64), .b, .b, .b, .b, .b, .b, .b, .b, (.i .i64), .s, (.i .i64), (.sl 16), (.sl 16), (.sl 16)]) z) (some (z)) none
def enc_ddiref26_Apply (r : AV) : AV := etaRV (.st [(.i .i64), (.i .i64), (.i .i64), .b, .b, .b, .b, .b, .b, .b, .b, (.i .i64), .s, (.i .i64), (.sl 16), (.sl 16), (.sl 16)]) r
def shp_ddiref26_Apply : Shp := ⟨[(0, .one (.l (.sl 8))), (1, .st [(.l (.i .i64)), (.l (.i .i64)), (.l (.i .i64)), (.l .b), (.l .b), (.l .b), (.l .b), (.l .b), (.l .b), (.l .b), (.l .b), (.l (.i .i64)), (.l .s), (.l (.i .i64)), (.l (.sl 16)), (.l (.sl 16)), (.l (.sl 16))]), (2, .st [(.l (.i .i64)), (.l (.i .i64)), (.l (.i .i64)), (.l .b), (.l .b), (.l .b), (.l .b), (.l .b), (.l .b), (.l .b), (.l .b), (.l (.i .i64)), (.l .s), (.l (.i .i64)), (.l (.sl 16)), (.l (.sl 16)), (.l (.sl 16))])], []⟩
noncomputable def ddiref26_Apply_i (v0 : List AV) (v1_0 : Int) (v1_1 : Int) (v1_2 : Int) (v1_3 : Bool) (v1_4 : Bool) (v1_5 : Bool) (v1_6 : Bool) (v1_7 : Bool) (v1_8 : Bool) (v1_9 : Bool) (v1_10 : Bool) (v1_11 : Int) (v1_12 : List UInt8) (v1_13 : Int) (v1_14 : List AV) (v1_15 : List AV) (v1_16 : List AV) (v2_0 : Int) (v2_1 : Int) (v2_2 : Int) (v2_3 : Bool) (v2_4 : Bool) (v2_5 : Bool) (v2_6 : Bool) (v2_7 : Bool) (v2_8 : Bool) (v2_9 : Bool) (v2_10 : Bool) (v2_11 : Int) (v2_12 : List UInt8) (v2_13 : Int) (v2_14 : List AV) (v2_15 : List AV) (v2_16 : List AV) : Option AV :=
  (oB (ddiref26_Query v0 v1_12 v1_13) fun r1 => (bif r1.2 then (oB (ixB v0 r1.1) fun y2 => (bif fitC X_api_Rule y2.cells then (bif fitV (.st T_api_Rule) (.agg [(.int .i64 (gI y2.cells 0)), (.str (gS y2.cells 1)), (.bool (gB y2.cells 2)), (.int .u64 (gI y2.cells 3)), (.int .u64 (gI y2.cells 4)), (.int .i64 (gI y2.cells 5)), (.int .i64 (gI y2.cells 6)), (gC y2.cells 7)]) then (oB (ddiref26_Act (gI y2.cells 0) (gS y2.cells 1) (gB y2.cells 2) (gI y2.cells 3) (gI y2.cells 4) (gI y2.cells 5) (gI y2.cells 6) (aL (gC y2.cells 7)) v1_0 v1_1 v1_2 v1_3 v1_4 v1_5 v1_6 v1_7 v1_8 v1_9 v1_10 v1_11 v1_12 v1_13 v1_14 v1_15 v1_16 v2_0 v2_1 v2_2 v2_3 v2_4 v2_5 v2_6 v2_7 v2_8 v2_9 v2_10 v2_11 v2_12 v2_13 v2_14 v2_15 v2_16) fun r3 => (some (.agg [(.int .i64 (gI r3.cells 0)), (.int .i64 (gI r3.cells 1)), (.int .i64 (gI r3.cells 2)), (.bool (gB r3.cells 3)), (.bool (gB r3.cells 4)), (.bool (gB r3.cells 5)), (.bool (gB r3.cells 6)), (.bool (gB r3.cells 7)), (.bool (gB r3.cells 8)), (.bool (gB r3.cells 9)), (.bool (gB r3.cells 10)), (.int .i64 (gI r3.cells 11)), (.str (gS r3.cells 12)), (.int .i64 (gI r3.cells 13)), (.sl 16 (gL r3.cells 14)), (.sl 16 (gL r3.cells 15)), (.sl 16 (gL r3.cells 16))]))) else none) else none)) else (oB (ddiref26_Response v0 v2_0 v2_1 v2_2 v2_3 v2_4 v2_5 v2_6 v2_7 v2_8 v2_9 v2_10 v2_11 v2_12 v2_13 v2_14 v2_15 v2_16) fun r4 => (bif r4.2 then (oB (ixB v0 r4.1) fun y5 => (bif fitC X_api_Rule y5.cells then (bif fitV (.st T_api_Rule) (.agg [(.int .i64 (gI y5.cells 0)), (.str (gS y5.cells 1)), (.bool (gB y5.cells 2)), (.int .u64 (gI y5.cells 3)), (.int .u64 (gI y5.cells 4)), (.int .i64 (gI y5.cells 5)), (.int .i64 (gI y5.cells 6)), (gC y5.cells 7)]) then (oB (ddiref26_Act (gI y5.cells 0) (gS y5.cells 1) (gB y5.cells 2) (gI y5.cells 3) (gI y5.cells 4) (gI y5.cells 5) (gI y5.cells 6) (aL (gC y5.cells 7)) v1_0 v1_1 v1_2 v1_3 v1_4 v1_5 v1_6 v1_7 v1_8 v1_9 v1_10 v1_11 v1_12 v1_13 v1_14 v1_15 v1_16 v2_0 v2_1 v2_2 v2_3 v2_4 v2_5 v2_6 v2_7 v2_8 v2_9 v2_10 v2_11 v2_12 v2_13 v2_14 v2_15 v2_16) fun r6 => (some (.agg [(.int .i64 (gI r6.cells 0)), (.int .i64 (gI r6.cells 1)), (.int .i64 (gI r6.cells 2)), (.bool (gB r6.cells 3)), (.bool (gB r6.cells 4)), (.bool (gB r6.cells 5)), (.bool (gB r6.cells 6)), (.bool (gB r6.cells 7)), (.bool (gB r6.cells 8)), (.bool (gB r6.cells 9)), (.bool (gB r6.cells 10)), (.int .i64 (gI r6.cells 11)), (.str (gS r6.cells 12)), (.int .i64 (gI r6.cells 13)), (.sl 16 (gL r6.cells 14)), (.sl 16 (gL r6.cells 15)), (.sl 16 (gL r6.cells 16))]))) else none) else none)) else (some (.agg [(.int .i64 v2_0), (.int .i64 v2_1), (.int .i64 v2_2), (.bool v2_3), (.bool v2_4), (.bool v2_5), (.bool v2_6), (.bool v2_7), (.bool v2_8), (.bool v2_9), (.bool v2_10), (.int .i64 v2_11), (.str v2_12), (.int .i64 v2_13), (.sl 16 v2_14), (.sl 16 v2_15), (.sl 16 v2_16)]))))))
noncomputable def ddiref26_Apply := hull ddiref26_Apply_i
theorem ddiref26_Apply_eq : ddiref26_Apply = ddiref26_Apply_i := hull_eq _
noncomputable def a_ddiref26_Apply : AC AV :=
  .seq (.reg [.op ⟨some 4, (.box (.t 1)), none⟩,
 .op ⟨some 5, (.box (.t 2)), none⟩,
 .op ⟨some 6, (.alloc [(.int .i64 0), (.int .i64 0), (.int .i64 0), (.bool false), (.bool false), (.bool false), (.bool false), (.bool false), (.bool false), (.bool false), (.bool false), (.int .i64 0), (.str []), (.int .i64 0), .nils, .nils, .nils]), none⟩]) (.seq (.reg [.op ⟨some 10, (.mv (.t 0)), none⟩,
 .op ⟨some 11, (.fa 12 (.t 4)), none⟩,
 .op ⟨some 12, (.load true 2 (.t 11)), none⟩,
 .call ⟨some 13, (.call 10 [.t 10, .t 12]), none⟩ 10 ent_ddiref26_Query,
 .op ⟨some 9, (.mv (.t 13)), none⟩,
 .op ⟨some 14, (.ext (.t 9) 0), none⟩,
 .op ⟨some 15, (.ext (.t 9) 1), none⟩,
 .op ⟨some 7, (.mv (.t 14)), none⟩,
 .op ⟨some 8, (.mv (.t 15)), none⟩]) (.seq (.seq (.reg [.op ⟨some 16, (.mv (.t 8)), none⟩]) (.cond (.t 16) (.seq (.draw [] [.op ⟨some 17, (.mv (.t 0)), none⟩,
 .op ⟨some 18, (.mv (.t 7)), none⟩,
 .op ⟨some 19, (.ia 8 (.t 17) (.t 18)), none⟩,
 .et 19 X_api_Rule,
 .op ⟨some 20, (.load true 8 (.t 19)), none⟩,
 .op ⟨some 21, (.load true 17 (.t 4)), none⟩,
 .op ⟨some 22, (.load true 17 (.t 5)), none⟩] [.st (.eta 20 (.st T_api_Rule)),
 .callc ⟨some 23, (.call 30 [.t 20, .t 21, .t 22]), none⟩ 30 ent_ddiref26_Act,
 .op ⟨none, (.store 17 (.t 6) (.t 23)), none⟩]) (.ret)) (.skip))) (.seq (.reg [.op ⟨some 25, (.mv (.t 0)), none⟩,
 .op ⟨some 26, (.load true 17 (.t 5)), none⟩,
 .call ⟨some 27, (.call 12 [.t 25, .t 26]), none⟩ 12 ent_ddiref26_Response,
 .op ⟨some 24, (.mv (.t 27)), none⟩,
 .op ⟨some 28, (.ext (.t 24) 0), none⟩,
 .op ⟨some 29, (.ext (.t 24) 1), none⟩,
 .op ⟨some 7, (.mv (.t 28)), none⟩,
 .op ⟨some 8, (.mv (.t 29)), none⟩]) (.seq (.seq (.reg [.op ⟨some 30, (.mv (.t 8)), none⟩]) (.cond (.t 30) (.seq (.draw [] [.op ⟨some 31, (.mv (.t 0)), none⟩,
 .op ⟨some 32, (.mv (.t 7)), none⟩,
 .op ⟨some 33, (.ia 8 (.t 31) (.t 32)), none⟩,
 .et 33 X_api_Rule,
 .op ⟨some 34, (.load true 8 (.t 33)), none⟩,
 .op ⟨some 35, (.load true 17 (.t 4)), none⟩,
 .op ⟨some 36, (.load true 17 (.t 5)), none⟩] [.st (.eta 34 (.st T_api_Rule)),
 .callc ⟨some 37, (.call 30 [.t 34, .t 35, .t 36]), none⟩ 30 ent_ddiref26_Act,
 .op ⟨none, (.store 17 (.t 6) (.t 37)), none⟩]) (.ret)) (.skip))) (.seq (.reg [.op ⟨some 38, (.load true 17 (.t 5)), none⟩,
 .op ⟨none, (.store 17 (.t 6) (.t 38)), none⟩]) (.ret))))))
theorem ok_ddiref26_Apply : AC.ok Tryd.prog (TIof Tryd.prog) 39 0 (kret [(.cell 6 true 17)] dec_ddiref26_Apply) a_ddiref26_Apply := (zA zT (zA (zA (EntOkB.ok k_ddiref26_Query) zT) (zA (zA zT (zA (zA (zA zT (zA (zA (EntOkB.ok k_ddiref26_Act) zT) rfl)) zT) zT)) (zA (zA (EntOkB.ok k_ddiref26_Response) zT) (zA (zA zT (zA (zA (zA zT (zA (zA (EntOkB.ok k_ddiref26_Act) zT) rfl)) zT) zT)) (zA zT zT))))))
theorem t_ddiref26_Apply (v0 : List AV) (v1_0 : Int) (v1_1 : Int) (v1_2 : Int) (v1_3 : Bool) (v1_4 : Bool) (v1_5 : Bool) (v1_6 : Bool) (v1_7 : Bool) (v1_8 : Bool) (v1_9 : Bool) (v1_10 : Bool) (v1_11 : Int) (v1_12 : List UInt8) (v1_13 : Int) (v1_14 : List AV) (v1_15 : List AV) (v1_16 : List AV) (v2_0 : Int) (v2_1 : Int) (v2_2 : Int) (v2_3 : Bool) (v2_4 : Bool) (v2_5 : Bool) (v2_6 : Bool) (v2_7 : Bool) (v2_8 : Bool) (v2_9 : Bool) (v2_10 : Bool) (v2_11 : Int) (v2_12 : List UInt8) (v2_13 : Int) (v2_14 : List AV) (v2_15 : List AV) (v2_16 : List AV) : den 0 (kret [(.cell 6 true 17)] dec_ddiref26_Apply) a_ddiref26_Apply (envOf [(0, (.sl 8 v0)), (1, (.agg [(.int .i64 v1_0), (.int .i64 v1_1), (.int .i64 v1_2), (.bool v1_3), (.bool v1_4), (.bool v1_5), (.bool v1_6), (.bool v1_7), (.bool v1_8), (.bool v1_9), (.bool v1_10), (.int .i64 v1_11), (.str v1_12), (.int .i64 v1_13), (.sl 16 v1_14), (.sl 16 v1_15), (.sl 16 v1_16)])), (2, (.agg [(.int .i64 v2_0), (.int .i64 v2_1), (.int .i64 v2_2), (.bool v2_3), (.bool v2_4), (.bool v2_5), (.bool v2_6), (.bool v2_7), (.bool v2_8), (.bool v2_9), (.bool v2_10), (.int .i64 v2_11), (.str v2_12), (.int .i64 v2_13), (.sl 16 v2_14), (.sl 16 v2_15), (.sl 16 v2_16)]))]) (memOf []) (kend (kret [(.cell 6 true 17)] dec_ddiref26_Apply)) = ddiref26_Apply v0 v1_0 v1_1 v1_2 v1_3 v1_4 v1_5 v1_6 v1_7 v1_8 v1_9 v1_10 v1_11 v1_12 v1_13 v1_14 v1_15 v1_16 v2_0 v2_1 v2_2 v2_3 v2_4 v2_5 v2_6 v2_7 v2_8 v2_9 v2_10 v2_11 v2_12 v2_13 v2_14 v2_15 v2_16 := by
  rw [ddiref26_Apply_eq]; kernel_rfl
theorem c_ddiref26_Apply : cFn (TIof Tryd.prog) Tryd.f19 = some ⟨39, [(.cell 6 true 17)], scOf a_ddiref26_Apply⟩ := by kernel_rfl
noncomputable def ent_ddiref26_Apply {R : Type} (xs : List AV) (K : AV → Option R) : Option R := chk (fitS shp_ddiref26_Apply (entry xs) Mem.none) (oB (ddiref26_Apply (gL [(entry xs) 0] 0) (gI ((entry xs) 1).cells 0) (gI ((entry xs) 1).cells 1) (gI ((entry xs) 1).cells 2) (gB ((entry xs) 1).cells 3) (gB ((entry xs) 1).cells 4) (gB ((entry xs) 1).cells 5) (gB ((entry xs) 1).cells 6) (gB ((entry xs) 1).cells 7) (gB ((entry xs) 1).cells 8) (gB ((entry xs) 1).cells 9) (gB ((entry xs) 1).cells 10) (gI ((entry xs) 1).cells 11) (gS ((entry xs) 1).cells 12) (gI ((entry xs) 1).cells 13) (gL ((entry xs) 1).cells 14) (gL ((entry xs) 1).cells 15) (gL ((entry xs) 1).cells 16) (gI ((entry xs) 2).cells 0) (gI ((entry xs) 2).cells 1) (gI ((entry xs) 2).cells 2) (gB ((entry xs) 2).cells 3) (gB ((entry xs) 2).cells 4) (gB ((entry xs) 2).cells 5) (gB ((entry xs) 2).cells 6) (gB ((entry xs) 2).cells 7) (gB ((entry xs) 2).cells 8) (gB ((entry xs) 2).cells 9) (gB ((entry xs) 2).cells 10) (gI ((entry xs) 2).cells 11) (gS ((entry xs) 2).cells 12) (gI ((entry xs) 2).cells 13) (gL ((entry xs) 2).cells 14) (gL ((entry xs) 2).cells 15) (gL ((entry xs) 2).cells 16)) fun r => K (enc_ddiref26_Apply r))
theorem k_ddiref26_Apply {R : Type} : EntOkB Tryd.prog 19 (ent_ddiref26_Apply (R := R)) :=
  ent_of (F := fun xs => ddiref26_Apply (gL [(entry xs) 0] 0) (gI ((entry xs) 1).cells 0) (gI ((entry xs) 1).cells 1) (gI ((entry xs) 1).cells 2) (gB ((entry xs) 1).cells 3) (gB ((entry xs) 1).cells 4) (gB ((entry xs) 1).cells 5) (gB ((entry xs) 1).cells 6) (gB ((entry xs) 1).cells 7) (gB ((entry xs) 1).cells 8) (gB ((entry xs) 1).cells 9) (gB ((entry xs) 1).cells 10) (gI ((entry xs) 1).cells 11) (gS ((entry xs) 1).cells 12) (gI ((entry xs) 1).cells 13) (gL ((entry xs) 1).cells 14) (gL ((entry xs) 1).cells 15) (gL ((entry xs) 1).cells 16) (gI ((entry xs) 2).cells 0) (gI ((entry xs) 2).cells 1) (gI ((entry xs) 2).cells 2) (gB ((entry xs) 2).cells 3) (gB ((entry xs) 2).cells 4) (gB ((entry xs) 2).cells 5) (gB ((entry xs) 2).cells 6) (gB ((entry xs) 2).cells 7) (gB ((entry xs) 2).cells 8) (gB ((entry xs) 2).cells 9) (gB ((entry xs) 2).cells 10) (gI ((entry xs) 2).cells 11) (gS ((entry xs) 2).cells 12) (gI ((entry xs) 2).cells 13) (gL ((entry xs) 2).cells 14) (gL ((entry xs) 2).cells 15) (gL ((entry xs) 2).cells 16)) (enc := enc_ddiref26_Apply) tabOk follows Tryd.func19 (by kernel_rfl) c_ddiref26_Apply (fun z r h => by
 obtain ⟨h1, h2⟩ := cond_some h
 cases h2
 exact (etaRV_eq h1).symm) ok_ddiref26_Apply (er_of (by kernel_rfl)) shp_ddiref26_Apply (fun xs => t_ddiref26_Apply (gL [(entry xs) 0] 0) (gI ((entry xs) 1).cells 0) (gI ((entry xs) 1).cells 1) (gI ((entry xs) 1).cells 2) (gB ((entry xs) 1).cells 3) (gB ((entry xs) 1).cells 4) (gB ((entry xs) 1).cells 5) (gB ((entry xs) 1).cells 6) (gB ((entry xs) 1).cells 7) (gB ((entry xs) 1).cells 8) (gB ((entry xs) 1).cells 9) (gB ((entry xs) 1).cells 10) (gI ((entry xs) 1).cells 11) (gS ((entry xs) 1).cells 12) (gI ((entry xs) 1).cells 13) (gL ((entry xs) 1).cells 14) (gL ((entry xs) 1).cells 15) (gL ((entry xs) 1).cells 16) (gI ((entry xs) 2).cells 0) (gI ((entry xs) 2).cells 1) (gI ((entry xs) 2).cells 2) (gB ((entry xs) 2).cells 3) (gB ((entry xs) 2).cells 4) (gB ((entry xs) 2).cells 5) (gB ((entry xs) 2).cells 6) (gB ((entry xs) 2).cells 7) (gB ((entry xs) 2).cells 8) (gB ((entry xs) 2).cells 9) (gB ((entry xs) 2).cells 10) (gI ((entry xs) 2).cells 11) (gS ((entry xs) 2).cells 12) (gI ((entry xs) 2).cells 13) (gL ((entry xs) 2).cells 14) (gL ((entry xs) 2).cells 15) (gL ((entry xs) 2).cells 16)) (fun xs K r h => by
 unfold ent_ddiref26_Apply at h
 exact ⟨(chk_some h).1, oB_some (chk_some h).2⟩)
def dec_ddilaw26_records (z : AV) : Option Bool := cond (fitRV (.one .b) z) (some (aB z)) none
def enc_ddilaw26_records (r : Bool) : AV := .bool r
def shp_ddilaw26_records_L14 : Shp := ⟨[(0, .one (.l (.sl 16))), (1, .one (.l (.sl 16))), (5, .one (.l (.i .i64)))], []⟩
noncomputable def ddilaw26_records_L14_b  (v0 : List AV) (v1 : List AV) (v5 : Int) (next : Int → Option Bool) (kx0 : Unit → Option Bool) : Option Bool :=
  (bif (decide (v5 < (v0.length : Int))) then (oB (ixB v0 v5) fun y1 => (bif fitC T_api_Record y1.cells then (oB (ixB v1 v5) fun y2 => (bif fitC T_api_Record y2.cells then (bif (!(((gS y1.cells 0) == (gS y2.cells 0)) && (((gI y1.cells 1) == (gI y2.cells 1)) && (((gI y1.cells 2) == (gI y2.cells 2)) && (((gB y1.cells 3) == (gB y2.cells 3)) && (((gI y1.cells 4) == (gI y2.cells 4)) && (((gI y1.cells 5) == (gI y2.cells 5)) && (((gS y1.cells 6) == (gS y2.cells 6)) && (((gS y1.cells 7) == (gS y2.cells 7)) && (((gS y1.cells 8) == (gS y2.cells 8)) && (((gI y1.cells 9) == (gI y2.cells 9)) && (((gI y1.cells 10) == (gI y2.cells 10)) && (((gI y1.cells 11) == (gI y2.cells 11)) && (((gI y1.cells 12) == (gI y2.cells 12)) && (((gI y1.cells 13) == (gI y2.cells 13)) && (((gI y1.cells 14) == (gI y2.cells 14)) && (((gI y1.cells 15) == (gI y2.cells 15)) && true))))))))))))))))) then (some false) else (next (IntKind.i64.wrap (v5 + (1 : Int))))) else none)) else none)) else (kx0 ()))
noncomputable def ddilaw26_records_L14_i  (v0 : List AV) (v1 : List AV) (kx0 : Unit → Option Bool) : Nat → Int → Option Bool
  | 0 => (fun _ => none)
  | n + 1 => (fun v5 => ddilaw26_records_L14_b v0 v1 v5 (ddilaw26_records_L14_i v0 v1 kx0 n) kx0)
noncomputable def ddilaw26_records_L14 := hull (ddilaw26_records_L14_i)
theorem ddilaw26_records_L14_eq : ddilaw26_records_L14 = ddilaw26_records_L14_i := hull_eq _
noncomputable def a_ddilaw26_records_L14 : AC Bool :=
  .seq (.seq (.reg [.op ⟨some 11, (.mv (.t 5)), none⟩,
 .op ⟨some 12, (.mv (.t 0)), none⟩,
 .op ⟨some 13, (.len false (.t 12)), none⟩,
 .op ⟨some 14, (.bin .lss (.t 11) (.t 13)), none⟩]) (.cond (.t 14) (.skip) (.seq (.view [.sel [] []]) (.exit 0)))) (.seq (.block 1 (.seq (.draw [] [.op ⟨some 17, (.mv (.t 0)), none⟩,
 .op ⟨some 18, (.mv (.t 5)), none⟩,
 .op ⟨some 19, (.ia 16 (.t 17) (.t 18)), none⟩,
 .et 19 T_api_Record,
 .op ⟨some 20, (.load true 16 (.t 19)), none⟩,
 .op ⟨some 21, (.mv (.t 1)), none⟩,
 .op ⟨some 22, (.mv (.t 5)), none⟩,
 .op ⟨some 23, (.ia 16 (.t 21) (.t 22)), none⟩,
 .et 23 T_api_Record,
 .op ⟨some 24, (.load true 16 (.t 23)), none⟩] [.op ⟨some 25, (.eq true true [.s, (.i .i64), (.i .i64), .b, (.i .u64), (.i .u64), .s, .s, .s, (.i .i64), (.i .i64), (.i .i64), (.i .i64), (.i .i64), (.i .i64), (.i .u64)] (.t 20) (.t 24)), none⟩]) (.cond (.t 25) (.seq (.reg [.op ⟨some 4, (.mv (.c (.bool false))), none⟩]) (.ret)) (.skip)))) (.seq (.reg [.op ⟨some 15, (.mv (.t 5)), none⟩,
 .op ⟨some 16, (.bin .add (.t 15) (.c (.int .i64 1))), none⟩,
 .op ⟨some 5, (.mv (.t 16)), none⟩]) (.view [.sel [0, 1, 5] []])))
theorem ok_ddilaw26_records_L14 : AC.ok Tryd.prog (TIof Tryd.prog) 26 0 (kret [.t 4] dec_ddilaw26_records) a_ddilaw26_records_L14 := (zA (zA zT (zA zT (zA zT zT))) (zA (zA (zA zT (zA zT rfl)) (zA (zA zT zT) zT)) (zA zT zT)))
theorem t_ddilaw26_records_L14_b (v0 : List AV) (v1 : List AV) (v5 : Int) (K : Ex → Env → Mem → Option Bool) : den 0 (kret [.t 4] dec_ddilaw26_records) a_ddilaw26_records_L14 (envOf [(0, (.sl 16 v0)), (1, (.sl 16 v1)), (5, (.int .i64 v5))]) (memOf []) K = ddilaw26_records_L14_b v0 v1 v5 (fun z_v5 => K .norm (envOf [(0, (.sl 16 v0)), (1, (.sl 16 v1)), (5, (.int .i64 z_v5))]) (memOf [])) (fun _ => K (.exit 0) (envOf []) (memOf [])) := by kernel_rfl
theorem t_ddilaw26_records_L14 (v0 : List AV) (v1 : List AV) (K : Ex → Env → Mem → Option Bool) : ∀ (n : Nat) (v5 : Int), iterD (den 0 (kret [.t 4] dec_ddilaw26_records) a_ddilaw26_records_L14) n (envOf [(0, (.sl 16 v0)), (1, (.sl 16 v1)), (5, (.int .i64 v5))]) (memOf []) K = ddilaw26_records_L14 v0 v1 (fun _ => K (.exit 0) (envOf []) (memOf [])) n v5 := by
  rw [ddilaw26_records_L14_eq]
  intro n
  induction n with
  | zero => intros; rfl
  | succ n ih =>
 intro v5
 exact (t_ddilaw26_records_L14_b v0 v1 v5 (itK (den 0 (kret [.t 4] dec_ddilaw26_records) a_ddilaw26_records_L14) n K)).trans (congrArg (fun q => ddilaw26_records_L14_b v0 v1 v5 q (fun _ => K (.exit 0) (envOf []) (memOf []))) (funext fun v5 => ih v5))
noncomputable def s_ddilaw26_records_L14 : Env → Mem → (Ex → Env → Mem → Option Bool) → Option Bool := fun t m K => chk (fitS0 shp_ddilaw26_records_L14 t m) (cond (hdS shp_ddilaw26_records_L14 t m) (ddilaw26_records_L14 (gL [t 0] 0) (gL [t 1] 0) (fun _ => K (.exit 0) (envOf []) (memOf [])) FU (gI [t 5] 0)) none)
theorem o_ddilaw26_records_L14 : SubOk Tryd.prog (TIof Tryd.prog) 26 0 (kret [.t 4] dec_ddilaw26_records) (.loop (scOf a_ddilaw26_records_L14)) s_ddilaw26_records_L14 :=
  loop_of tabOk follows ok_ddilaw26_records_L14 (er_of (by kernel_rfl)) shp_ddilaw26_records_L14 (fun t m K => congrArg (fun z => chk (fitS0 shp_ddilaw26_records_L14 t m) (cond (hdS shp_ddilaw26_records_L14 t m) z none)) (t_ddilaw26_records_L14 (gL [t 0] 0) (gL [t 1] 0) K FU (gI [t 5] 0)).symm)
def shp_ddilaw26_records : Shp := ⟨[(0, .one (.l (.sl 16))), (1, .one (.l (.sl 16)))], []⟩
noncomputable def ddilaw26_records_i (v0 : List AV) (v1 : List AV) : Option Bool :=
  (bif ((v0.length : Int) != (v1.length : Int)) then (some false) else (ddilaw26_records_L14 v0 v1 (fun (_ : Unit) => (some true)) FU (0 : Int)))
noncomputable def ddilaw26_records := hull ddilaw26_records_i
theorem ddilaw26_records_eq : ddilaw26_records = ddilaw26_records_i := hull_eq _
noncomputable def a_ddilaw26_records : AC Bool :=
  .seq (.reg [.op ⟨some 4, (.mv (.c (.bool false))), none⟩]) (.seq (.seq (.reg [.op ⟨some 6, (.mv (.t 0)), none⟩,
 .op ⟨some 7, (.len false (.t 6)), none⟩,
 .op ⟨some 8, (.mv (.t 1)), none⟩,
 .op ⟨some 9, (.len false (.t 8)), none⟩,
 .op ⟨some 10, (.bin .neq (.t 7) (.t 9)), none⟩]) (.cond (.t 10) (.seq (.reg [.op ⟨some 4, (.mv (.c (.bool false))), none⟩]) (.ret)) (.skip))) (.seq (.seq (.reg [.op ⟨some 5, (.mv (.c (.int .i64 0))), none⟩]) (.block 0 (.seq (.view [.sel [0, 1, 5] []]) (.sub (.loop (scOf a_ddilaw26_records_L14)) s_ddilaw26_records_L14)))) (.seq (.reg [.op ⟨some 4, (.mv (.c (.bool true))), none⟩]) (.ret))))
theorem ok_ddilaw26_records : AC.ok Tryd.prog (TIof Tryd.prog) 26 0 (kret [.t 4] dec_ddilaw26_records) a_ddilaw26_records := (zA zT (zA (zA zT (zA (zA zT zT) zT)) (zA (zA zT (zA zT o_ddilaw26_records_L14)) (zA zT zT))))
theorem t_ddilaw26_records (v0 : List AV) (v1 : List AV) : den 0 (kret [.t 4] dec_ddilaw26_records) a_ddilaw26_records (envOf [(0, (.sl 16 v0)), (1, (.sl 16 v1))]) (memOf []) (kend (kret [.t 4] dec_ddilaw26_records)) = ddilaw26_records v0 v1 := by
  rw [ddilaw26_records_eq]; kernel_rfl
theorem c_ddilaw26_records : cFn (TIof Tryd.prog) Tryd.f28 = some ⟨26, [.t 4], scOf a_ddilaw26_records⟩ := by kernel_rfl
noncomputable def ent_ddilaw26_records {R : Type} (xs : List AV) (K : AV → Option R) : Option R := chk (fitS shp_ddilaw26_records (entry xs) Mem.none) (oB (ddilaw26_records (gL [(entry xs) 0] 0) (gL [(entry xs) 1] 0)) fun r => K (enc_ddilaw26_records r))
theorem k_ddilaw26_records {R : Type} : EntOkB Tryd.prog 28 (ent_ddilaw26_records (R := R)) :=
  ent_of (F := fun xs => ddilaw26_records (gL [(entry xs) 0] 0) (gL [(entry xs) 1] 0)) (enc := enc_ddilaw26_records) tabOk follows Tryd.func28 (by kernel_rfl) c_ddilaw26_records (fun z r h => by
 obtain ⟨h1, h2⟩ := cond_some h
 cases h2
 exact (etaRV_eq h1).symm) ok_ddilaw26_records (er_of (by kernel_rfl)) shp_ddilaw26_records (fun xs => t_ddilaw26_records (gL [(entry xs) 0] 0) (gL [(entry xs) 1] 0)) (fun xs K r h => by
 unfold ent_ddilaw26_records at h
 exact ⟨(chk_some h).1, oB_some (chk_some h).2⟩)
def dec_ddilaw26_same (z : AV) : Option Bool := cond (fitRV (.one .b) z) (some (aB z)) none
def enc_ddilaw26_same (r : Bool) : AV := .bool r
def shp_ddilaw26_same : Shp := ⟨[(0, .st [(.l (.i .i64)), (.l (.i .i64)), (.l (.i .i64)), (.l .b), (.l .b), (.l .b), (.l .b), (.l .b), (.l .b), (.l .b), (.l .b), (.l (.i .i64)), (.l .s), (.l (.i .i64)), (.l (.sl 16)), (.l (.sl 16)), (.l (.sl 16))]), (1, .st [(.l (.i .i64)), (.l (.i .i64)), (.l (.i .i64)), (.l .b), (.l .b), (.l .b), (.l .b), (.l .b), (.l .b), (.l .b), (.l .b), (.l (.i .i64)), (.l .s), (.l (.i .i64)), (.l (.sl 16)), (.l (.sl 16)), (.l (.sl 16))])], []⟩
noncomputable def ddilaw26_same_i (v0_0 : Int) (v0_1 : Int) (v0_2 : Int) (v0_3 : Bool) (v0_4 : Bool) (v0_5 : Bool) (v0_6 : Bool) (v0_7 : Bool) (v0_8 : Bool) (v0_9 : Bool) (v0_10 : Bool) (v0_11 : Int) (v0_12 : List UInt8) (v0_13 : Int) (v0_14 : List AV) (v0_15 : List AV) (v0_16 : List AV) (v1_0 : Int) (v1_1 : Int) (v1_2 : Int) (v1_3 : Bool) (v1_4 : Bool) (v1_5 : Bool) (v1_6 : Bool) (v1_7 : Bool) (v1_8 : Bool) (v1_9 : Bool) (v1_10 : Bool) (v1_11 : Int) (v1_12 : List UInt8) (v1_13 : Int) (v1_14 : List AV) (v1_15 : List AV) (v1_16 : List AV) : Option Bool :=
  (bif (((((((((((((v0_0 != v1_0) || (v0_1 != v1_1)) || (v0_2 != v1_2)) || (!((v0_3 == v1_3) && true))) || (!((v0_4 == v1_4) && true))) || (!((v0_5 == v1_5) && true))) || (!((v0_6 == v1_6) && true))) || (!((v0_7 == v1_7) && true))) || (!((v0_8 == v1_8) && true))) || (!((v0_9 == v1_9) && true))) || (!((v0_10 == v1_10) && true))) || (v0_11 != v1_11)) || (!((v0_12 == v1_12) && ((v0_13 == v1_13) && true)))) then (some false) else (oB (ddilaw26_records v0_14 v1_14) fun r1 => (bif r1 then (oB (ddilaw26_records v0_15 v1_15) fun r2 => (bif r2 then (oB (ddilaw26_records v0_16 v1_16) fun r3 => (some r3)) else (some false))) else (some false))))
noncomputable def ddilaw26_same := hull ddilaw26_same_i
theorem ddilaw26_same_eq : ddilaw26_same = ddilaw26_same_i := hull_eq _
noncomputable def a_ddilaw26_same : AC Bool :=
  .seq (.reg [.op ⟨some 2, (.box (.t 0)), none⟩,
 .op ⟨some 3, (.box (.t 1)), none⟩,
 .op ⟨some 4, (.mv (.c (.bool false))), none⟩]) (.seq (.seq (.reg [.op ⟨some 5, (.fa 0 (.t 2)), none⟩,
 .op ⟨some 6, (.load false 1 (.t 5)), none⟩,
 .op ⟨some 7, (.fa 0 (.t 3)), none⟩,
 .op ⟨some 8, (.load false 1 (.t 7)), none⟩,
 .op ⟨some 9, (.bin .neq (.t 6) (.t 8)), none⟩,
 .op ⟨some 10, (.mv (.t 9)), none⟩,
 .grp 10 false [⟨some 11, (.fa 1 (.t 2)), (some (10, false))⟩, ⟨some 12, (.load false 1 (.t 11)), (some (10, false))⟩, ⟨some 13, (.fa 1 (.t 3)), (some (10, false))⟩, ⟨some 14, (.load false 1 (.t 13)), (some (10, false))⟩, ⟨some 15, (.bin .neq (.t 12) (.t 14)), (some (10, false))⟩] 16 (.t 15),
 .op ⟨some 17, (.mv (.t 16)), none⟩,
 .grp 17 false [⟨some 18, (.fa 2 (.t 2)), (some (17, false))⟩, ⟨some 19, (.load false 1 (.t 18)), (some (17, false))⟩, ⟨some 20, (.fa 2 (.t 3)), (some (17, false))⟩, ⟨some 21, (.load false 1 (.t 20)), (some (17, false))⟩, ⟨some 22, (.bin .neq (.t 19) (.t 21)), (some (17, false))⟩] 23 (.t 22),
 .op ⟨some 24, (.mv (.t 23)), none⟩,
 .grp 24 false [⟨some 25, (.fa 3 (.t 2)), (some (24, false))⟩, ⟨some 26, (.load false 1 (.t 25)), (some (24, false))⟩, ⟨some 27, (.fa 3 (.t 3)), (some (24, false))⟩, ⟨some 28, (.load false 1 (.t 27)), (some (24, false))⟩, ⟨some 29, (.eq true false [.b] (.t 26) (.t 28)), (some (24, false))⟩] 30 (.t 29),
 .op ⟨some 31, (.mv (.t 30)), none⟩,
 .grp 31 false [⟨some 32, (.fa 4 (.t 2)), (some (31, false))⟩, ⟨some 33, (.load false 1 (.t 32)), (some (31, false))⟩, ⟨some 34, (.fa 4 (.t 3)), (some (31, false))⟩, ⟨some 35, (.load false 1 (.t 34)), (some (31, false))⟩, ⟨some 36, (.eq true false [.b] (.t 33) (.t 35)), (some (31, false))⟩] 37 (.t 36),
 .op ⟨some 38, (.mv (.t 37)), none⟩,
 .grp 38 false [⟨some 39, (.fa 5 (.t 2)), (some (38, false))⟩, ⟨some 40, (.load false 1 (.t 39)), (some (38, false))⟩, ⟨some 41, (.fa 5 (.t 3)), (some (38, false))⟩, ⟨some 42, (.load false 1 (.t 41)), (some (38, false))⟩, ⟨some 43, (.eq true false [.b] (.t 40) (.t 42)), (some (38, false))⟩] 44 (.t 43),
 .op ⟨some 45, (.mv (.t 44)), none⟩,
 .grp 45 false [⟨some 46, (.fa 6 (.t 2)), (some (45, false))⟩, ⟨some 47, (.load false 1 (.t 46)), (some (45, false))⟩, ⟨some 48, (.fa 6 (.t 3)), (some (45, false))⟩, ⟨some 49, (.load false 1 (.t 48)), (some (45, false))⟩, ⟨some 50, (.eq true false [.b] (.t 47) (.t 49)), (some (45, false))⟩] 51 (.t 50),
 .op ⟨some 52, (.mv (.t 51)), none⟩,
 .grp 52 false [⟨some 53, (.fa 7 (.t 2)), (some (52, false))⟩, ⟨some 54, (.load false 1 (.t 53)), (some (52, false))⟩, ⟨some 55, (.fa 7 (.t 3)), (some (52, false))⟩, ⟨some 56, (.load false 1 (.t 55)), (some (52, false))⟩, ⟨some 57, (.eq true false [.b] (.t 54) (.t 56)), (some (52, false))⟩] 58 (.t 57),
 .op ⟨some 59, (.mv (.t 58)), none⟩,
 .grp 59 false [⟨some 60, (.fa 8 (.t 2)), (some (59, false))⟩, ⟨some 61, (.load false 1 (.t 60)), (some (59, false))⟩, ⟨some 62, (.fa 8 (.t 3)), (some (59, false))⟩, ⟨some 63, (.load false 1 (.t 62)), (some (59, false))⟩, ⟨some 64, (.eq true false [.b] (.t 61) (.t 63)), (some (59, false))⟩] 65 (.t 64),
 .op ⟨some 66, (.mv (.t 65)), none⟩,
 .grp 66 false [⟨some 67, (.fa 9 (.t 2)), (some (66, false))⟩, ⟨some 68, (.load false 1 (.t 67)), (some (66, false))⟩, ⟨some 69, (.fa 9 (.t 3)), (some (66, false))⟩, ⟨some 70, (.load false 1 (.t 69)), (some (66, false))⟩, ⟨some 71, (.eq true false [.b] (.t 68) (.t 70)), (some (66, false))⟩] 72 (.t 71),
 .op ⟨some 73, (.mv (.t 72)), none⟩,
 .grp 73 false [⟨some 74, (.fa 10 (.t 2)), (some (73, false))⟩, ⟨some 75, (.load false 1 (.t 74)), (some (73, false))⟩, ⟨some 76, (.fa 10 (.t 3)), (some (73, false))⟩, ⟨some 77, (.load false 1 (.t 76)), (some (73, false))⟩, ⟨some 78, (.eq true false [.b] (.t 75) (.t 77)), (some (73, false))⟩] 79 (.t 78),
 .op ⟨some 80, (.mv (.t 79)), none⟩,
 .grp 80 false [⟨some 81, (.fa 11 (.t 2)), (some (80, false))⟩, ⟨some 82, (.load false 1 (.t 81)), (some (80, false))⟩, ⟨some 83, (.fa 11 (.t 3)), (some (80, false))⟩, ⟨some 84, (.load false 1 (.t 83)), (some (80, false))⟩, ⟨some 85, (.bin .neq (.t 82) (.t 84)), (some (80, false))⟩] 86 (.t 85),
 .op ⟨some 87, (.mv (.t 86)), none⟩,
 .grp 87 false [⟨some 88, (.fa 12 (.t 2)), (some (87, false))⟩, ⟨some 89, (.load true 2 (.t 88)), (some (87, false))⟩, ⟨some 90, (.fa 12 (.t 3)), (some (87, false))⟩, ⟨some 91, (.load true 2 (.t 90)), (some (87, false))⟩, ⟨some 92, (.eq true true [.s, (.i .i64)] (.t 89) (.t 91)), (some (87, false))⟩] 93 (.t 92)]) (.cond (.t 93) (.seq (.reg [.op ⟨some 4, (.mv (.c (.bool false))), none⟩]) (.ret)) (.skip))) (.seq (.reg [.op ⟨some 94, (.fa 14 (.t 2)), none⟩,
 .op ⟨some 95, (.load false 1 (.t 94)), none⟩,
 .op ⟨some 96, (.fa 14 (.t 3)), none⟩,
 .op ⟨some 97, (.load false 1 (.t 96)), none⟩,
 .call ⟨some 98, (.call 28 [.t 95, .t 97]), none⟩ 28 ent_ddilaw26_records,
 .op ⟨some 99, (.mv (.t 98)), none⟩,
 .op ⟨some 100, (.fa 15 (.t 2)), (some (99, true))⟩,
 .op ⟨some 101, (.load false 1 (.t 100)), (some (99, true))⟩,
 .op ⟨some 102, (.fa 15 (.t 3)), (some (99, true))⟩,
 .op ⟨some 103, (.load false 1 (.t 102)), (some (99, true))⟩,
 .call ⟨some 104, (.call 28 [.t 101, .t 103]), (some (99, true))⟩ 28 ent_ddilaw26_records,
 .op ⟨some 105, (.pick (.t 99) (.t 104) (.c (.bool false))), none⟩,
 .op ⟨some 106, (.mv (.t 105)), none⟩,
 .op ⟨some 107, (.fa 16 (.t 2)), (some (106, true))⟩,
 .op ⟨some 108, (.load false 1 (.t 107)), (some (106, true))⟩,
 .op ⟨some 109, (.fa 16 (.t 3)), (some (106, true))⟩,
 .op ⟨some 110, (.load false 1 (.t 109)), (some (106, true))⟩,
 .call ⟨some 111, (.call 28 [.t 108, .t 110]), (some (106, true))⟩ 28 ent_ddilaw26_records,
 .op ⟨some 112, (.pick (.t 106) (.t 111) (.c (.bool false))), none⟩,
 .op ⟨some 4, (.mv (.t 112)), none⟩]) (.ret)))
theorem ok_ddilaw26_same : AC.ok Tryd.prog (TIof Tryd.prog) 113 0 (kret [.t 4] dec_ddilaw26_same) a_ddilaw26_same := (zA zT (zA (zA zT (zA (zA zT zT) zT)) (zA (zA (EntOkB.ok k_ddilaw26_records) (zA (EntOkB.ok k_ddilaw26_records) (zA (EntOkB.ok k_ddilaw26_records) zT))) zT)))
theorem t_ddilaw26_same (v0_0 : Int) (v0_1 : Int) (v0_2 : Int) (v0_3 : Bool) (v0_4 : Bool) (v0_5 : Bool) (v0_6 : Bool) (v0_7 : Bool) (v0_8 : Bool) (v0_9 : Bool) (v0_10 : Bool) (v0_11 : Int) (v0_12 : List UInt8) (v0_13 : Int) (v0_14 : List AV) (v0_15 : List AV) (v0_16 : List AV) (v1_0 : Int) (v1_1 : Int) (v1_2 : Int) (v1_3 : Bool) (v1_4 : Bool) (v1_5 : Bool) (v1_6 : Bool) (v1_7 : Bool) (v1_8 : Bool) (v1_9 : Bool) (v1_10 : Bool) (v1_11 : Int) (v1_12 : List UInt8) (v1_13 : Int) (v1_14 : List AV) (v1_15 : List AV) (v1_16 : List AV) : den 0 (kret [.t 4] dec_ddilaw26_same) a_ddilaw26_same (envOf [(0, (.agg [(.int .i64 v0_0), (.int .i64 v0_1), (.int .i64 v0_2), (.bool v0_3), (.bool v0_4), (.bool v0_5), (.bool v0_6), (.bool v0_7), (.bool v0_8), (.bool v0_9), (.bool v0_10), (.int .i64 v0_11), (.str v0_12), (.int .i64 v0_13), (.sl 16 v0_14), (.sl 16 v0_15), (.sl 16 v0_16)])), (1, (.agg [(.int .i64 v1_0), (.int .i64 v1_1), (.int .i64 v1_2), (.bool v1_3), (.bool v1_4), (.bool v1_5), (.bool v1_6), (.bool v1_7), (.bool v1_8), (.bool v1_9), (.bool v1_10), (.int .i64 v1_11), (.str v1_12), (.int .i64 v1_13), (.sl 16 v1_14), (.sl 16 v1_15), (.sl 16 v1_16)]))]) (memOf []) (kend (kret [.t 4] dec_ddilaw26_same)) = ddilaw26_same v0_0 v0_1 v0_2 v0_3 v0_4 v0_5 v0_6 v0_7 v0_8 v0_9 v0_10 v0_11 v0_12 v0_13 v0_14 v0_15 v0_16 v1_0 v1_1 v1_2 v1_3 v1_4 v1_5 v1_6 v1_7 v1_8 v1_9 v1_10 v1_11 v1_12 v1_13 v1_14 v1_15 v1_16 := by
  rw [ddilaw26_same_eq]; kernel_rfl
theorem c_ddilaw26_same : cFn (TIof Tryd.prog) Tryd.f17 = some ⟨113, [.t 4], scOf a_ddilaw26_same⟩ := by kernel_rfl
noncomputable def ent_ddilaw26_same {R : Type} (xs : List AV) (K : AV → Option R) : Option R := chk (fitS shp_ddilaw26_same (entry xs) Mem.none) (oB (ddilaw26_same (gI ((entry xs) 0).cells 0) (gI ((entry xs) 0).cells 1) (gI ((entry xs) 0).cells 2) (gB ((entry xs) 0).cells 3) (gB ((entry xs) 0).cells 4) (gB ((entry xs) 0).cells 5) (gB ((entry xs) 0).cells 6) (gB ((entry xs) 0).cells 7) (gB ((entry xs) 0).cells 8) (gB ((entry xs) 0).cells 9) (gB ((entry xs) 0).cells 10) (gI ((entry xs) 0).cells 11) (gS ((entry xs) 0).cells 12) (gI ((entry xs) 0).cells 13) (gL ((entry xs) 0).cells 14) (gL ((entry xs) 0).cells 15) (gL ((entry xs) 0).cells 16) (gI ((entry xs) 1).cells 0) (gI ((entry xs) 1).cells 1) (gI ((entry xs) 1).cells 2) (gB ((entry xs) 1).cells 3) (gB ((entry xs) 1).cells 4) (gB ((entry xs) 1).cells 5) (gB ((entry xs) 1).cells 6) (gB ((entry xs) 1).cells 7) (gB ((entry xs) 1).cells 8) (gB ((entry xs) 1).cells 9) (gB ((entry xs) 1).cells 10) (gI ((entry xs) 1).cells 11) (gS ((entry xs) 1).cells 12) (gI ((entry xs) 1).cells 13) (gL ((entry xs) 1).cells 14) (gL ((entry xs) 1).cells 15) (gL ((entry xs) 1).cells 16)) fun r => K (enc_ddilaw26_same r))
theorem k_ddilaw26_same {R : Type} : EntOkB Tryd.prog 17 (ent_ddilaw26_same (R := R)) :=
  ent_of (F := fun xs => ddilaw26_same (gI ((entry xs) 0).cells 0) (gI ((entry xs) 0).cells 1) (gI ((entry xs) 0).cells 2) (gB ((entry xs) 0).cells 3) (gB ((entry xs) 0).cells 4) (gB ((entry xs) 0).cells 5) (gB ((entry xs) 0).cells 6) (gB ((entry xs) 0).cells 7) (gB ((entry xs) 0).cells 8) (gB ((entry xs) 0).cells 9) (gB ((entry xs) 0).cells 10) (gI ((entry xs) 0).cells 11) (gS ((entry xs) 0).cells 12) (gI ((entry xs) 0).cells 13) (gL ((entry xs) 0).cells 14) (gL ((entry xs) 0).cells 15) (gL ((entry xs) 0).cells 16) (gI ((entry xs) 1).cells 0) (gI ((entry xs) 1).cells 1) (gI ((entry xs) 1).cells 2) (gB ((entry xs) 1).cells 3) (gB ((entry xs) 1).cells 4) (gB ((entry xs) 1).cells 5) (gB ((entry xs) 1).cells 6) (gB ((entry xs) 1).cells 7) (gB ((entry xs) 1).cells 8) (gB ((entry xs) 1).cells 9) (gB ((entry xs) 1).cells 10) (gI ((entry xs) 1).cells 11) (gS ((entry xs) 1).cells 12) (gI ((entry xs) 1).cells 13) (gL ((entry xs) 1).cells 14) (gL ((entry xs) 1).cells 15) (gL ((entry xs) 1).cells 16)) (enc := enc_ddilaw26_same) tabOk follows Tryd.func17 (by kernel_rfl) c_ddilaw26_same (fun z r h => by
 obtain ⟨h1, h2⟩ := cond_some h
 cases h2
 exact (etaRV_eq h1).symm) ok_ddilaw26_same (er_of (by kernel_rfl)) shp_ddilaw26_same (fun xs => t_ddilaw26_same (gI ((entry xs) 0).cells 0) (gI ((entry xs) 0).cells 1) (gI ((entry xs) 0).cells 2) (gB ((entry xs) 0).cells 3) (gB ((entry xs) 0).cells 4) (gB ((entry xs) 0).cells 5) (gB ((entry xs) 0).cells 6) (gB ((entry xs) 0).cells 7) (gB ((entry xs) 0).cells 8) (gB ((entry xs) 0).cells 9) (gB ((entry xs) 0).cells 10) (gI ((entry xs) 0).cells 11) (gS ((entry xs) 0).cells 12) (gI ((entry xs) 0).cells 13) (gL ((entry xs) 0).cells 14) (gL ((entry xs) 0).cells 15) (gL ((entry xs) 0).cells 16) (gI ((entry xs) 1).cells 0) (gI ((entry xs) 1).cells 1) (gI ((entry xs) 1).cells 2) (gB ((entry xs) 1).cells 3) (gB ((entry xs) 1).cells 4) (gB ((entry xs) 1).cells 5) (gB ((entry xs) 1).cells 6) (gB ((entry xs) 1).cells 7) (gB ((entry xs) 1).cells 8) (gB ((entry xs) 1).cells 9) (gB ((entry xs) 1).cells 10) (gI ((entry xs) 1).cells 11) (gS ((entry xs) 1).cells 12) (gI ((entry xs) 1).cells 13) (gL ((entry xs) 1).cells 14) (gL ((entry xs) 1).cells 15) (gL ((entry xs) 1).cells 16)) (fun xs K r h => by
 unfold ent_ddilaw26_same at h
 exact ⟨(chk_some h).1, oB_some (chk_some h).2⟩)
def dec_ddilaw26_PolicyApplies (z : AV) : Option Bool := cond (fitRV (.one .b) z) (some (aB z)) none
def enc_ddilaw26_PolicyApplies (r : Bool) : AV := .bool r
def shp_ddilaw26_PolicyApplies_J12 : Shp := ⟨[(0, .one (.l (.sl 8))), (4, .one (.ptr 0 0)), (5, .one (.ptr 1 0))], [.box true [(.l (.i .i64)), (.l (.i .i64)), (.l (.i .i64)), (.l .b), (.l .b), (.l .b), (.l .b), (.l .b), (.l .b), (.l .b), (.l .b), (.l (.i .i64)), (.l .s), (.l (.i .i64)), (.l (.sl 16)), (.l (.sl 16)), (.l (.sl 16))], .box true [(.l (.i .i64)), (.l (.i .i64)), (.l (.i .i64)), (.l .b), (.l .b), (.l .b), (.l .b), (.l .b), (.l .b), (.l .b), (.l .b), (.l (.i .i64)), (.l .s), (.l (.i .i64)), (.l (.sl 16)), (.l (.sl 16)), (.l (.sl 16))]]⟩
noncomputable def ddilaw26_PolicyApplies_J12_i  (v0 : List AV) (b0_0 : Int) (b0_1 : Int) (b0_2 : Int) (b0_3 : Bool) (b0_4 : Bool) (b0_5 : Bool) (b0_6 : Bool) (b0_7 : Bool) (b0_8 : Bool) (b0_9 : Bool) (b0_10 : Bool) (b0_11 : Int) (b0_12 : List UInt8) (b0_13 : Int) (b0_14 : List AV) (b0_15 : List AV) (b0_16 : List AV) (b1_0 : Int) (b1_1 : Int) (b1_2 : Int) (b1_3 : Bool) (b1_4 : Bool) (b1_5 : Bool) (b1_6 : Bool) (b1_7 : Bool) (b1_8 : Bool) (b1_9 : Bool) (b1_10 : Bool) (b1_11 : Int) (b1_12 : List UInt8) (b1_13 : Int) (b1_14 : List AV) (b1_15 : List AV) (b1_16 : List AV) (kn : Bool → Option Bool) : Option Bool :=
  (oB (ddilaw26_small v0) fun r1 => (bif (((!r1) || (decide ((b0_12.length : Int) > (300 : Int)))) || (decide ((b1_14.length : Int) > (60 : Int)))) then (kn true) else (oB (ddiref26_Check v0) fun r2 => (kn (r2 != (0 : Int))))))
noncomputable def ddilaw26_PolicyApplies_J12 := hull (ddilaw26_PolicyApplies_J12_i)
theorem ddilaw26_PolicyApplies_J12_eq : ddilaw26_PolicyApplies_J12 = ddilaw26_PolicyApplies_J12_i := hull_eq _
noncomputable def a_ddilaw26_PolicyApplies_J12 : AC Bool :=
  .seq (.reg [.op ⟨some 9, (.mv (.t 0)), none⟩,
 .call ⟨some 10, (.call 9 [.t 9]), none⟩ 9 ent_ddilaw26_small,
 .op ⟨some 11, (.un .not (.t 10)), none⟩,
 .op ⟨some 12, (.mv (.t 11)), none⟩,
 .grp 12 false [⟨some 13, (.fa 12 (.t 4)), (some (12, false))⟩, ⟨some 14, (.fa 0 (.t 13)), (some (12, false))⟩, ⟨some 15, (.load false 1 (.t 14)), (some (12, false))⟩, ⟨some 16, (.len true (.t 15)), (some (12, false))⟩, ⟨some 17, (.bin .gtr (.t 16) (.c (.int .i64 300))), (some (12, false))⟩] 18 (.t 17),
 .op ⟨some 19, (.mv (.t 18)), none⟩,
 .grp 19 false [⟨some 20, (.fa 14 (.t 5)), (some (19, false))⟩, ⟨some 21, (.load false 1 (.t 20)), (some (19, false))⟩, ⟨some 22, (.len false (.t 21)), (some (19, false))⟩, ⟨some 23, (.bin .gtr (.t 22) (.c (.int .i64 60))), (some (19, false))⟩] 24 (.t 23),
 .op ⟨some 25, (.mv (.t 24)), none⟩,
 .op ⟨some 26, (.mv (.t 0)), (some (25, false))⟩,
 .call ⟨some 27, (.call 15 [.t 26]), (some (25, false))⟩ 15 ent_ddiref26_Check,
 .op ⟨some 28, (.bin .neq (.t 27) (.c (.int .i64 0))), (some (25, false))⟩,
 .op ⟨some 29, (.pick (.t 25) (.c (.bool true)) (.t 28)), none⟩]) (.view [.sel [0, 4, 5, 29] [0, 1]])
theorem ok_ddilaw26_PolicyApplies_J12 : AC.ok Tryd.prog (TIof Tryd.prog) 39 0 (kret [.t 6] dec_ddilaw26_PolicyApplies) a_ddilaw26_PolicyApplies_J12 := (zA (zA (EntOkB.ok k_ddilaw26_small) (zA (EntOkB.ok k_ddiref26_Check) zT)) zT)
theorem t_ddilaw26_PolicyApplies_J12 (v0 : List AV) (b0_0 : Int) (b0_1 : Int) (b0_2 : Int) (b0_3 : Bool) (b0_4 : Bool) (b0_5 : Bool) (b0_6 : Bool) (b0_7 : Bool) (b0_8 : Bool) (b0_9 : Bool) (b0_10 : Bool) (b0_11 : Int) (b0_12 : List UInt8) (b0_13 : Int) (b0_14 : List AV) (b0_15 : List AV) (b0_16 : List AV) (b1_0 : Int) (b1_1 : Int) (b1_2 : Int) (b1_3 : Bool) (b1_4 : Bool) (b1_5 : Bool) (b1_6 : Bool) (b1_7 : Bool) (b1_8 : Bool) (b1_9 : Bool) (b1_10 : Bool) (b1_11 : Int) (b1_12 : List UInt8) (b1_13 : Int) (b1_14 : List AV) (b1_15 : List AV) (b1_16 : List AV) (K : Ex → Env → Mem → Option Bool) : den 0 (kret [.t 6] dec_ddilaw26_PolicyApplies) a_ddilaw26_PolicyApplies_J12 (envOf [(0, (.sl 8 v0)), (4, (.ptr 0 0)), (5, (.ptr 1 0))]) (memOf [(some (.box true [(.int .i64 b0_0), (.int .i64 b0_1), (.int .i64 b0_2), (.bool b0_3), (.bool b0_4), (.bool b0_5), (.bool b0_6), (.bool b0_7), (.bool b0_8), (.bool b0_9), (.bool b0_10), (.int .i64 b0_11), (.str b0_12), (.int .i64 b0_13), (.sl 16 b0_14), (.sl 16 b0_15), (.sl 16 b0_16)])), (some (.box true [(.int .i64 b1_0), (.int .i64 b1_1), (.int .i64 b1_2), (.bool b1_3), (.bool b1_4), (.bool b1_5), (.bool b1_6), (.bool b1_7), (.bool b1_8), (.bool b1_9), (.bool b1_10), (.int .i64 b1_11), (.str b1_12), (.int .i64 b1_13), (.sl 16 b1_14), (.sl 16 b1_15), (.sl 16 b1_16)]))]) K = ddilaw26_PolicyApplies_J12 v0 b0_0 b0_1 b0_2 b0_3 b0_4 b0_5 b0_6 b0_7 b0_8 b0_9 b0_10 b0_11 b0_12 b0_13 b0_14 b0_15 b0_16 b1_0 b1_1 b1_2 b1_3 b1_4 b1_5 b1_6 b1_7 b1_8 b1_9 b1_10 b1_11 b1_12 b1_13 b1_14 b1_15 b1_16 (fun z_v29 => K .norm (envOf [(0, (.sl 8 v0)), (4, (.ptr 0 0)), (5, (.ptr 1 0)), (29, (.bool z_v29))]) (memOf [(some (.box true [(.int .i64 b0_0), (.int .i64 b0_1), (.int .i64 b0_2), (.bool b0_3), (.bool b0_4), (.bool b0_5), (.bool b0_6), (.bool b0_7), (.bool b0_8), (.bool b0_9), (.bool b0_10), (.int .i64 b0_11), (.str b0_12), (.int .i64 b0_13), (.sl 16 b0_14), (.sl 16 b0_15), (.sl 16 b0_16)])), (some (.box true [(.int .i64 b1_0), (.int .i64 b1_1), (.int .i64 b1_2), (.bool b1_3), (.bool b1_4), (.bool b1_5), (.bool b1_6), (.bool b1_7), (.bool b1_8), (.bool b1_9), (.bool b1_10), (.int .i64 b1_11), (.str b1_12), (.int .i64 b1_13), (.sl 16 b1_14), (.sl 16 b1_15), (.sl 16 b1_16)]))])) := by
  rw [ddilaw26_PolicyApplies_J12_eq]; kernel_rfl
noncomputable def s_ddilaw26_PolicyApplies_J12 : Env → Mem → (Ex → Env → Mem → Option Bool) → Option Bool := fun t m K => chk (fitS0 shp_ddilaw26_PolicyApplies_J12 t m) (cond (hdS shp_ddilaw26_PolicyApplies_J12 t m) (ddilaw26_PolicyApplies_J12 (gL [t 0] 0) (gI (bxC (m.s 0)) 0) (gI (bxC (m.s 0)) 1) (gI (bxC (m.s 0)) 2) (gB (bxC (m.s 0)) 3) (gB (bxC (m.s 0)) 4) (gB (bxC (m.s 0)) 5) (gB (bxC (m.s 0)) 6) (gB (bxC (m.s 0)) 7) (gB (bxC (m.s 0)) 8) (gB (bxC (m.s 0)) 9) (gB (bxC (m.s 0)) 10) (gI (bxC (m.s 0)) 11) (gS (bxC (m.s 0)) 12) (gI (bxC (m.s 0)) 13) (gL (bxC (m.s 0)) 14) (gL (bxC (m.s 0)) 15) (gL (bxC (m.s 0)) 16) (gI (bxC (m.s 1)) 0) (gI (bxC (m.s 1)) 1) (gI (bxC (m.s 1)) 2) (gB (bxC (m.s 1)) 3) (gB (bxC (m.s 1)) 4) (gB (bxC (m.s 1)) 5) (gB (bxC (m.s 1)) 6) (gB (bxC (m.s 1)) 7) (gB (bxC (m.s 1)) 8) (gB (bxC (m.s 1)) 9) (gB (bxC (m.s 1)) 10) (gI (bxC (m.s 1)) 11) (gS (bxC (m.s 1)) 12) (gI (bxC (m.s 1)) 13) (gL (bxC (m.s 1)) 14) (gL (bxC (m.s 1)) 15) (gL (bxC (m.s 1)) 16) (fun z_v29 => K .norm (envOf [(0, (.sl 8 (gL [t 0] 0))), (4, (.ptr 0 0)), (5, (.ptr 1 0)), (29, (.bool z_v29))]) (memOf [(some (.box true [(.int .i64 (gI (bxC (m.s 0)) 0)), (.int .i64 (gI (bxC (m.s 0)) 1)), (.int .i64 (gI (bxC (m.s 0)) 2)), (.bool (gB (bxC (m.s 0)) 3)), (.bool (gB (bxC (m.s 0)) 4)), (.bool (gB (bxC (m.s 0)) 5)), (.bool (gB (bxC (m.s 0)) 6)), (.bool (gB (bxC (m.s 0)) 7)), (.bool (gB (bxC (m.s 0)) 8)), (.bool (gB (bxC (m.s 0)) 9)), (.bool (gB (bxC (m.s 0)) 10)), (.int .i64 (gI (bxC (m.s 0)) 11)), (.str (gS (bxC (m.s 0)) 12)), (.int .i64 (gI (bxC (m.s 0)) 13)), (.sl 16 (gL (bxC (m.s 0)) 14)), (.sl 16 (gL (bxC (m.s 0)) 15)), (.sl 16 (gL (bxC (m.s 0)) 16))])), (some (.box true [(.int .i64 (gI (bxC (m.s 1)) 0)), (.int .i64 (gI (bxC (m.s 1)) 1)), (.int .i64 (gI (bxC (m.s 1)) 2)), (.bool (gB (bxC (m.s 1)) 3)), (.bool (gB (bxC (m.s 1)) 4)), (.bool (gB (bxC (m.s 1)) 5)), (.bool (gB (bxC (m.s 1)) 6)), (.bool (gB (bxC (m.s 1)) 7)), (.bool (gB (bxC (m.s 1)) 8)), (.bool (gB (bxC (m.s 1)) 9)), (.bool (gB (bxC (m.s 1)) 10)), (.int .i64 (gI (bxC (m.s 1)) 11)), (.str (gS (bxC (m.s 1)) 12)), (.int .i64 (gI (bxC (m.s 1)) 13)), (.sl 16 (gL (bxC (m.s 1)) 14)), (.sl 16 (gL (bxC (m.s 1)) 15)), (.sl 16 (gL (bxC (m.s 1)) 16))]))]))) none)
theorem o_ddilaw26_PolicyApplies_J12 : SubOk Tryd.prog (TIof Tryd.prog) 39 0 (kret [.t 6] dec_ddilaw26_PolicyApplies) (scOf a_ddilaw26_PolicyApplies_J12) s_ddilaw26_PolicyApplies_J12 :=
  sub_of tabOk follows ok_ddilaw26_PolicyApplies_J12 (er_of (by kernel_rfl)) shp_ddilaw26_PolicyApplies_J12 (fun t m K => congrArg (fun z => chk (fitS0 shp_ddilaw26_PolicyApplies_J12 t m) (cond (hdS shp_ddilaw26_PolicyApplies_J12 t m) z none)) (t_ddilaw26_PolicyApplies_J12 (gL [t 0] 0) (gI (bxC (m.s 0)) 0) (gI (bxC (m.s 0)) 1) (gI (bxC (m.s 0)) 2) (gB (bxC (m.s 0)) 3) (gB (bxC (m.s 0)) 4) (gB (bxC (m.s 0)) 5) (gB (bxC (m.s 0)) 6) (gB (bxC (m.s 0)) 7) (gB (bxC (m.s 0)) 8) (gB (bxC (m.s 0)) 9) (gB (bxC (m.s 0)) 10) (gI (bxC (m.s 0)) 11) (gS (bxC (m.s 0)) 12) (gI (bxC (m.s 0)) 13) (gL (bxC (m.s 0)) 14) (gL (bxC (m.s 0)) 15) (gL (bxC (m.s 0)) 16) (gI (bxC (m.s 1)) 0) (gI (bxC (m.s 1)) 1) (gI (bxC (m.s 1)) 2) (gB (bxC (m.s 1)) 3) (gB (bxC (m.s 1)) 4) (gB (bxC (m.s 1)) 5) (gB (bxC (m.s 1)) 6) (gB (bxC (m.s 1)) 7) (gB (bxC (m.s 1)) 8) (gB (bxC (m.s 1)) 9) (gB (bxC (m.s 1)) 10) (gI (bxC (m.s 1)) 11) (gS (bxC (m.s 1)) 12) (gI (bxC (m.s 1)) 13) (gL (bxC (m.s 1)) 14) (gL (bxC (m.s 1)) 15) (gL (bxC (m.s 1)) 16) K).symm)
def shp_ddilaw26_PolicyApplies : Shp := ⟨[(0, .one (.l (.sl 8))), (1, .st [(.l (.i .i64)), (.l (.i .i64)), (.l (.i .i64)), (.l .b), (.l .b), (.l .b), (.l .b), (.l .b), (.l .b), (.l .b), (.l .b), (.l (.i .i64)), (.l .s), (.l (.i .i64)), (.l (.sl 16)), (.l (.sl 16)), (.l (.sl 16))]), (2, .st [(.l (.i .i64)), (.l (.i .i64)), (.l (.i .i64)), (.l .b), (.l .b), (.l .b), (.l .b), (.l .b), (.l .b), (.l .b), (.l .b), (.l (.i .i64)), (.l .s), (.l (.i .i64)), (.l (.sl 16)), (.l (.sl 16)), (.l (.sl 16))])], []⟩
noncomputable def ddilaw26_PolicyApplies_i (v0 : List AV) (v1_0 : Int) (v1_1 : Int) (v1_2 : Int) (v1_3 : Bool) (v1_4 : Bool) (v1_5 : Bool) (v1_6 : Bool) (v1_7 : Bool) (v1_8 : Bool) (v1_9 : Bool) (v1_10 : Bool) (v1_11 : Int) (v1_12 : List UInt8) (v1_13 : Int) (v1_14 : List AV) (v1_15 : List AV) (v1_16 : List AV) (v2_0 : Int) (v2_1 : Int) (v2_2 : Int) (v2_3 : Bool) (v2_4 : Bool) (v2_5 : Bool) (v2_6 : Bool) (v2_7 : Bool) (v2_8 : Bool) (v2_9 : Bool) (v2_10 : Bool) (v2_11 : Int) (v2_12 : List UInt8) (v2_13 : Int) (v2_14 : List AV) (v2_15 : List AV) (v2_16 : List AV) : Option Bool :=
  (oB (ddilaw26_awake) fun r1 => (bif (!r1) then (some false) else (ddilaw26_PolicyApplies_J12 v0 v1_0 v1_1 v1_2 v1_3 v1_4 v1_5 v1_6 v1_7 v1_8 v1_9 v1_10 v1_11 v1_12 v1_13 v1_14 v1_15 v1_16 v2_0 v2_1 v2_2 v2_3 v2_4 v2_5 v2_6 v2_7 v2_8 v2_9 v2_10 v2_11 v2_12 v2_13 v2_14 v2_15 v2_16 (fun v29q2 => (bif v29q2 then (some true) else (oB (policy_Apply v0 v1_0 v1_1 v1_2 v1_3 v1_4 v1_5 v1_6 v1_7 v1_8 v1_9 v1_10 v1_11 v1_12 v1_13 v1_14 v1_15 v1_16 v2_0 v2_1 v2_2 v2_3 v2_4 v2_5 v2_6 v2_7 v2_8 v2_9 v2_10 v2_11 v2_12 v2_13 v2_14 v2_15 v2_16) fun r3 => (oB (ddiref26_Apply v0 v1_0 v1_1 v1_2 v1_3 v1_4 v1_5 v1_6 v1_7 v1_8 v1_9 v1_10 v1_11 v1_12 v1_13 v1_14 v1_15 v1_16 v2_0 v2_1 v2_2 v2_3 v2_4 v2_5 v2_6 v2_7 v2_8 v2_9 v2_10 v2_11 v2_12 v2_13 v2_14 v2_15 v2_16) fun r4 => (oB (ddilaw26_same (gI r3.cells 0) (gI r3.cells 1) (gI r3.cells 2) (gB r3.cells 3) (gB r3.cells 4) (gB r3.cells 5) (gB r3.cells 6) (gB r3.cells 7) (gB r3.cells 8) (gB r3.cells 9) (gB r3.cells 10) (gI r3.cells 11) (gS r3.cells 12) (gI r3.cells 13) (gL r3.cells 14) (gL r3.cells 15) (gL r3.cells 16) (gI r4.cells 0) (gI r4.cells 1) (gI r4.cells 2) (gB r4.cells 3) (gB r4.cells 4) (gB r4.cells 5) (gB r4.cells 6) (gB r4.cells 7) (gB r4.cells 8) (gB r4.cells 9) (gB r4.cells 10) (gI r4.cells 11) (gS r4.cells 12) (gI r4.cells 13) (gL r4.cells 14) (gL r4.cells 15) (gL r4.cells 16)) fun r5 => (some r5)))))))))
noncomputable def ddilaw26_PolicyApplies := hull ddilaw26_PolicyApplies_i
theorem ddilaw26_PolicyApplies_eq : ddilaw26_PolicyApplies = ddilaw26_PolicyApplies_i := hull_eq _
noncomputable def a_ddilaw26_PolicyApplies : AC Bool :=
  .seq (.reg [.op ⟨some 4, (.box (.t 1)), none⟩,
 .op ⟨some 5, (.box (.t 2)), none⟩,
 .op ⟨some 6, (.mv (.c (.bool false))), none⟩]) (.seq (.seq (.reg [.call ⟨some 7, (.call 16 []), none⟩ 16 ent_ddilaw26_awake,
 .op ⟨some 8, (.un .not (.t 7)), none⟩]) (.cond (.t 8) (.seq (.reg [.op ⟨some 6, (.mv (.c (.bool false))), none⟩]) (.ret)) (.skip))) (.seq (.seq (.seq (.view [.sel [0, 4, 5] [0, 1]]) (.sub (scOf a_ddilaw26_PolicyApplies_J12) s_ddilaw26_PolicyApplies_J12)) (.cond (.t 29) (.seq (.reg [.op ⟨some 6, (.mv (.c (.bool true))), none⟩]) (.ret)) (.skip))) (.seq (.draw [] [.op ⟨some 30, (.mv (.t 0)), none⟩,
 .op ⟨some 31, (.load true 17 (.t 4)), none⟩,
 .op ⟨some 32, (.load true 17 (.t 5)), none⟩,
 .call ⟨some 33, (.call 18 [.t 30, .t 31, .t 32]), none⟩ 18 ent_policy_Apply,
 .op ⟨some 34, (.mv (.t 0)), none⟩,
 .op ⟨some 35, (.load true 17 (.t 4)), none⟩,
 .op ⟨some 36, (.load true 17 (.t 5)), none⟩] [.callc ⟨some 37, (.call 19 [.t 34, .t 35, .t 36]), none⟩ 19 ent_ddiref26_Apply,
 .call ⟨some 38, (.call 17 [.t 33, .t 37]), none⟩ 17 ent_ddilaw26_same,
 .op ⟨some 6, (.mv (.t 38)), none⟩]) (.ret))))
theorem ok_ddilaw26_PolicyApplies : AC.ok Tryd.prog (TIof Tryd.prog) 39 0 (kret [.t 6] dec_ddilaw26_PolicyApplies) a_ddilaw26_PolicyApplies := (zA zT (zA (zA (zA (EntOkB.ok k_ddilaw26_awake) zT) (zA (zA zT zT) zT)) (zA (zA (zA zT o_ddilaw26_PolicyApplies_J12) (zA (zA zT zT) zT)) (zA (zA (zA (EntOkB.ok k_policy_Apply) zT) (zA (zA (EntOkB.ok k_ddiref26_Apply) (zA (EntOkB.ok k_ddilaw26_same) zT)) rfl)) zT))))
theorem t_ddilaw26_PolicyApplies (v0 : List AV) (v1_0 : Int) (v1_1 : Int) (v1_2 : Int) (v1_3 : Bool) (v1_4 : Bool) (v1_5 : Bool) (v1_6 : Bool) (v1_7 : Bool) (v1_8 : Bool) (v1_9 : Bool) (v1_10 : Bool) (v1_11 : Int) (v1_12 : List UInt8) (v1_13 : Int) (v1_14 : List AV) (v1_15 : List AV) (v1_16 : List AV) (v2_0 : Int) (v2_1 : Int) (v2_2 : Int) (v2_3 : Bool) (v2_4 : Bool) (v2_5 : Bool) (v2_6 : Bool) (v2_7 : Bool) (v2_8 : Bool) (v2_9 : Bool) (v2_10 : Bool) (v2_11 : Int) (v2_12 : List UInt8) (v2_13 : Int) (v2_14 : List AV) (v2_15 : List AV) (v2_16 : List AV) : den 0 (kret [.t 6] dec_ddilaw26_PolicyApplies) a_ddilaw26_PolicyApplies (envOf [(0, (.sl 8 v0)), (1, (.agg [(.int .i64 v1_0), (.int .i64 v1_1), (.int .i64 v1_2), (.bool v1_3), (.bool v1_4), (.bool v1_5), (.bool v1_6), (.bool v1_7), (.bool v1_8), (.bool v1_9), (.bool v1_10), (.int .i64 v1_11), (.str v1_12), (.int .i64 v1_13), (.sl 16 v1_14), (.sl 16 v1_15), (.sl 16 v1_16)])), (2, (.agg [(.int .i64 v2_0), (.int .i64 v2_1), (.int .i64 v2_2), (.bool v2_3), (.bool v2_4), (.bool v2_5), (.bool v2_6), (.bool v2_7), (.bool v2_8), (.bool v2_9), (.bool v2_10), (.int .i64 v2_11), (.str v2_12), (.int .i64 v2_13), (.sl 16 v2_14), (.sl 16 v2_15), (.sl 16 v2_16)]))]) (memOf []) (kend (kret [.t 6] dec_ddilaw26_PolicyApplies)) = ddilaw26_PolicyApplies v0 v1_0 v1_1 v1_2 v1_3 v1_4 v1_5 v1_6 v1_7 v1_8 v1_9 v1_10 v1_11 v1_12 v1_13 v1_14 v1_15 v1_16 v2_0 v2_1 v2_2 v2_3 v2_4 v2_5 v2_6 v2_7 v2_8 v2_9 v2_10 v2_11 v2_12 v2_13 v2_14 v2_15 v2_16 := by
  rw [ddilaw26_PolicyApplies_eq]; kernel_rfl
theorem c_ddilaw26_PolicyApplies : cFn (TIof Tryd.prog) Tryd.f5 = some ⟨39, [.t 6], scOf a_ddilaw26_PolicyApplies⟩ := by kernel_rfl
noncomputable def ent_ddilaw26_PolicyApplies {R : Type} (xs : List AV) (K : AV → Option R) : Option R := chk (fitS shp_ddilaw26_PolicyApplies (entry xs) Mem.none) (oB (ddilaw26_PolicyApplies (gL [(entry xs) 0] 0) (gI ((entry xs) 1).cells 0) (gI ((entry xs) 1).cells 1) (gI ((entry xs) 1).cells 2) (gB ((entry xs) 1).cells 3) (gB ((entry xs) 1).cells 4) (gB ((entry xs) 1).cells 5) (gB ((entry xs) 1).cells 6) (gB ((entry xs) 1).cells 7) (gB ((entry xs) 1).cells 8) (gB ((entry xs) 1).cells 9) (gB ((entry xs) 1).cells 10) (gI ((entry xs) 1).cells 11) (gS ((entry xs) 1).cells 12) (gI ((entry xs) 1).cells 13) (gL ((entry xs) 1).cells 14) (gL ((entry xs) 1).cells 15) (gL ((entry xs) 1).cells 16) (gI ((entry xs) 2).cells 0) (gI ((entry xs) 2).cells 1) (gI ((entry xs) 2).cells 2) (gB ((entry xs) 2).cells 3) (gB ((entry xs) 2).cells 4) (gB ((entry xs) 2).cells 5) (gB ((entry xs) 2).cells 6) (gB ((entry xs) 2).cells 7) (gB ((entry xs) 2).cells 8) (gB ((entry xs) 2).cells 9) (gB ((entry xs) 2).cells 10) (gI ((entry xs) 2).cells 11) (gS ((entry xs) 2).cells 12) (gI ((entry xs) 2).cells 13) (gL ((entry xs) 2).cells 14) (gL ((entry xs) 2).cells 15) (gL ((entry xs) 2).cells 16)) fun r => K (enc_ddilaw26_PolicyApplies r))
theorem k_ddilaw26_PolicyApplies {R : Type} : EntOkB Tryd.prog 5 (ent_ddilaw26_PolicyApplies (R := R)) :=
  ent_of (F := fun xs => ddilaw26_PolicyApplies (gL [(entry xs) 0] 0) (gI ((entry xs) 1).cells 0) (gI ((entry xs) 1).cells 1) (gI ((entry xs) 1).cells 2) (gB ((entry xs) 1).cells 3) (gB ((entry xs) 1).cells 4) (gB ((entry xs) 1).cells 5) (gB ((entry xs) 1).cells 6) (gB ((entry xs) 1).cells 7) (gB ((entry xs) 1).cells 8) (gB ((entry xs) 1).cells 9) (gB ((entry xs) 1).cells 10) (gI ((entry xs) 1).cells 11) (gS ((entry xs) 1).cells 12) (gI ((entry xs) 1).cells 13) (gL ((entry xs) 1).cells 14) (gL ((entry xs) 1).cells 15) (gL ((entry xs) 1).cells 16) (gI ((entry xs) 2).cells 0) (gI ((entry xs) 2).cells 1) (gI ((entry xs) 2).cells 2) (gB ((entry xs) 2).cells 3) (gB ((entry xs) 2).cells 4) (gB ((entry xs) 2).cells 5) (gB ((entry xs) 2).cells 6) (gB ((entry xs) 2).cells 7) (gB ((entry xs) 2).cells 8) (gB ((entry xs) 2).cells 9) (gB ((entry xs) 2).cells 10) (gI ((entry xs) 2).cells 11) (gS ((entry xs) 2).cells 12) (gI ((entry xs) 2).cells 13) (gL ((entry xs) 2).cells 14) (gL ((entry xs) 2).cells 15) (gL ((entry xs) 2).cells 16)) (enc := enc_ddilaw26_PolicyApplies) tabOk follows Tryd.func5 (by kernel_rfl) c_ddilaw26_PolicyApplies (fun z r h => by
 obtain ⟨h1, h2⟩ := cond_some h
 cases h2
 exact (etaRV_eq h1).symm) ok_ddilaw26_PolicyApplies (er_of (by kernel_rfl)) shp_ddilaw26_PolicyApplies (fun xs => t_ddilaw26_PolicyApplies (gL [(entry xs) 0] 0) (gI ((entry xs) 1).cells 0) (gI ((entry xs) 1).cells 1) (gI ((entry xs) 1).cells 2) (gB ((entry xs) 1).cells 3) (gB ((entry xs) 1).cells 4) (gB ((entry xs) 1).cells 5) (gB ((entry xs) 1).cells 6) (gB ((entry xs) 1).cells 7) (gB ((entry xs) 1).cells 8) (gB ((entry xs) 1).cells 9) (gB ((entry xs) 1).cells 10) (gI ((entry xs) 1).cells 11) (gS ((entry xs) 1).cells 12) (gI ((entry xs) 1).cells 13) (gL ((entry xs) 1).cells 14) (gL ((entry xs) 1).cells 15) (gL ((entry xs) 1).cells 16) (gI ((entry xs) 2).cells 0) (gI ((entry xs) 2).cells 1) (gI ((entry xs) 2).cells 2) (gB ((entry xs) 2).cells 3) (gB ((entry xs) 2).cells 4) (gB ((entry xs) 2).cells 5) (gB ((entry xs) 2).cells 6) (gB ((entry xs) 2).cells 7) (gB ((entry xs) 2).cells 8) (gB ((entry xs) 2).cells 9) (gB ((entry xs) 2).cells 10) (gI ((entry xs) 2).cells 11) (gS ((entry xs) 2).cells 12) (gI ((entry xs) 2).cells 13) (gL ((entry xs) 2).cells 14) (gL ((entry xs) 2).cells 15) (gL ((entry xs) 2).cells 16)) (fun xs K r h => by
 unfold ent_ddilaw26_PolicyApplies at h
 exact ⟨(chk_some h).1, oB_some (chk_some h).2⟩)
end Go.Proofs.YthhnnlipnpfkcaaDoor.Dn
