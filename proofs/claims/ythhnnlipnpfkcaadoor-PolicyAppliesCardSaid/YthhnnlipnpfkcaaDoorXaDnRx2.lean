import Derived.Test.YthhnnlipnpfkcaaDoorProg
import Derived.Test.YthhnnlipnpfkcaaDoorXaLibC
import Derived.Test.YthhnnlipnpfkcaaDoorXaDnRx1
set_option linter.all false
namespace Go.Proofs.YthhnnlipnpfkcaaDoor.Dn
open Go Go.Pev
set_option linter.unusedVariables false
set_option linter.unusedSimpArgs false
set_option maxRecDepth 100000
set_option maxHeartbeats 4000000
def dec_policy_right (z : AV) : Option Int := cond (fitRV (.one (.i .i64)) z) (some (aI z)) none
def enc_policy_right (r : Int) : AV := .int .i64 r
def shp_policy_right_J13 : Shp := ⟨[(1, .one (.ptr 0 0)), (3, .one (.l .b))], [.box true [(.l (.i .i64)), (.l .s), (.l .b), (.l (.i .u64)), (.l (.i .u64)), (.l (.i .i64)), (.l (.i .i64)), (.l (.sl 16))]]⟩
noncomputable def policy_right_J13_i  (v3 : Bool) (b0_0 : Int) (b0_1 : List UInt8) (b0_2 : Bool) (b0_3 : Int) (b0_4 : Int) (b0_5 : Int) (b0_6 : Int) (b0_7 : List AV) (kn : Bool → Option Int) : Option Int :=
  (bif ((!v3) && (!(b0_1 == ([] : List UInt8)))) then (kn true) else (bif v3 then (bif (!((b0_2 == false) && ((b0_3 == (0 : Int)) && ((b0_4 == (0 : Int)) && ((b0_5 == (0 : Int)) && true))))) then (kn true) else (bif (b0_6 != (4 : Int)) then (kn (decide ((b0_7.length : Int) > (0 : Int)))) else (kn false))) else (bif (b0_6 != (4 : Int)) then (kn (decide ((b0_7.length : Int) > (0 : Int)))) else (kn false))))
noncomputable def policy_right_J13 := hull (policy_right_J13_i)
theorem policy_right_J13_eq : policy_right_J13 = policy_right_J13_i := hull_eq _
noncomputable def a_policy_right_J13 : AC Int :=
  .seq (.reg [.op ⟨some 32, (.mv (.t 3)), none⟩,
 .op ⟨some 33, (.un .not (.t 32)), none⟩,
 .op ⟨some 34, (.mv (.t 33)), none⟩,
 .grp 34 true [⟨some 35, (.fa 1 (.t 1)), (some (34, true))⟩, ⟨some 36, (.load false 1 (.t 35)), (some (34, true))⟩, ⟨some 37, (.bin .neq (.t 36) (.c (.str []))), (some (34, true))⟩] 38 (.t 37),
 .op ⟨some 39, (.mv (.t 38)), none⟩,
 .op ⟨some 40, (.mv (.t 3)), (some (39, false))⟩,
 .op ⟨some 41, (.mv (.t 40)), (some (39, false))⟩,
 .op ⟨some 42, (.fa 2 (.t 1)), (some (41, true))⟩,
 .op ⟨some 43, (.load true 4 (.t 42)), (some (41, true))⟩,
 .op ⟨some 44, (.build [(.bool false), (.int .u64 0), (.int .u64 0), (.int .i64 0)] []), (some (41, true))⟩,
 .op ⟨some 45, (.eq true true [.b, (.i .u64), (.i .u64), (.i .i64)] (.t 43) (.t 44)), (some (41, true))⟩,
 .op ⟨some 46, (.pick (.t 41) (.t 45) (.c (.bool false))), (some (39, false))⟩,
 .op ⟨some 47, (.pick (.t 39) (.c (.bool true)) (.t 46)), none⟩,
 .op ⟨some 48, (.mv (.t 47)), none⟩,
 .op ⟨some 49, (.fa 6 (.t 1)), (some (48, false))⟩,
 .op ⟨some 50, (.load false 1 (.t 49)), (some (48, false))⟩,
 .op ⟨some 51, (.bin .neq (.t 50) (.c (.int .i64 4))), (some (48, false))⟩,
 .op ⟨some 52, (.mv (.t 51)), (some (48, false))⟩,
 .op ⟨some 53, (.fa 7 (.t 1)), (some (52, true))⟩,
 .op ⟨some 54, (.load false 1 (.t 53)), (some (52, true))⟩,
 .op ⟨some 55, (.len false (.t 54)), (some (52, true))⟩,
 .op ⟨some 56, (.bin .gtr (.t 55) (.c (.int .i64 0))), (some (52, true))⟩,
 .op ⟨some 57, (.pick (.t 52) (.t 56) (.c (.bool false))), (some (48, false))⟩,
 .op ⟨some 58, (.pick (.t 48) (.c (.bool true)) (.t 57)), none⟩,
 .op ⟨some 31, (.mv (.t 58)), none⟩]) (.view [.sel [1, 3, 31] [0]])
theorem ok_policy_right_J13 : AC.ok Tryd.prog (TIof Tryd.prog) 95 0 (kret [.t 2] dec_policy_right) a_policy_right_J13 := (zA zT zT)
theorem t_policy_right_J13 (v3 : Bool) (b0_0 : Int) (b0_1 : List UInt8) (b0_2 : Bool) (b0_3 : Int) (b0_4 : Int) (b0_5 : Int) (b0_6 : Int) (b0_7 : List AV) (K : Ex → Env → Mem → Option Int) : den 0 (kret [.t 2] dec_policy_right) a_policy_right_J13 (envOf [(1, (.ptr 0 0)), (3, (.bool v3))]) (memOf [(some (.box true [(.int .i64 b0_0), (.str b0_1), (.bool b0_2), (.int .u64 b0_3), (.int .u64 b0_4), (.int .i64 b0_5), (.int .i64 b0_6), (.sl 16 b0_7)]))]) K = policy_right_J13 v3 b0_0 b0_1 b0_2 b0_3 b0_4 b0_5 b0_6 b0_7 (fun z_v31 => K .norm (envOf [(1, (.ptr 0 0)), (3, (.bool v3)), (31, (.bool z_v31))]) (memOf [(some (.box true [(.int .i64 b0_0), (.str b0_1), (.bool b0_2), (.int .u64 b0_3), (.int .u64 b0_4), (.int .i64 b0_5), (.int .i64 b0_6), (.sl 16 b0_7)]))])) := by
  rw [policy_right_J13_eq]; kernel_rfl
noncomputable def s_policy_right_J13 : Env → Mem → (Ex → Env → Mem → Option Int) → Option Int := fun t m K => chk (fitS0 shp_policy_right_J13 t m) (cond (hdS shp_policy_right_J13 t m) (policy_right_J13 (gB [t 3] 0) (gI (bxC (m.s 0)) 0) (gS (bxC (m.s 0)) 1) (gB (bxC (m.s 0)) 2) (gI (bxC (m.s 0)) 3) (gI (bxC (m.s 0)) 4) (gI (bxC (m.s 0)) 5) (gI (bxC (m.s 0)) 6) (gL (bxC (m.s 0)) 7) (fun z_v31 => K .norm (envOf [(1, (.ptr 0 0)), (3, (.bool (gB [t 3] 0))), (31, (.bool z_v31))]) (memOf [(some (.box true [(.int .i64 (gI (bxC (m.s 0)) 0)), (.str (gS (bxC (m.s 0)) 1)), (.bool (gB (bxC (m.s 0)) 2)), (.int .u64 (gI (bxC (m.s 0)) 3)), (.int .u64 (gI (bxC (m.s 0)) 4)), (.int .i64 (gI (bxC (m.s 0)) 5)), (.int .i64 (gI (bxC (m.s 0)) 6)), (.sl 16 (gL (bxC (m.s 0)) 7))]))]))) none)
theorem o_policy_right_J13 : SubOk Tryd.prog (TIof Tryd.prog) 95 0 (kret [.t 2] dec_policy_right) (scOf a_policy_right_J13) s_policy_right_J13 :=
  sub_of tabOk follows ok_policy_right_J13 (er_of (by kernel_rfl)) shp_policy_right_J13 (fun t m K => congrArg (fun z => chk (fitS0 shp_policy_right_J13 t m) (cond (hdS shp_policy_right_J13 t m) z none)) (t_policy_right_J13 (gB [t 3] 0) (gI (bxC (m.s 0)) 0) (gS (bxC (m.s 0)) 1) (gB (bxC (m.s 0)) 2) (gI (bxC (m.s 0)) 3) (gI (bxC (m.s 0)) 4) (gI (bxC (m.s 0)) 5) (gI (bxC (m.s 0)) 6) (gL (bxC (m.s 0)) 7) K).symm)
def shp_policy_right_J19 : Shp := ⟨[(1, .one (.ptr 0 0)), (3, .one (.l .b))], [.box true [(.l (.i .i64)), (.l .s), (.l .b), (.l (.i .u64)), (.l (.i .u64)), (.l (.i .i64)), (.l (.i .i64)), (.l (.sl 16))]]⟩
noncomputable def policy_right_J19_i  (v3 : Bool) (b0_0 : Int) (b0_1 : List UInt8) (b0_2 : Bool) (b0_3 : Int) (b0_4 : Int) (b0_5 : Int) (b0_6 : Int) (b0_7 : List AV) (kn : Bool → Option Int) : Option Int :=
  (bif v3 then (oB (dname_Valid b0_1) fun r1 => (kn (!r1))) else (kn false))
noncomputable def policy_right_J19 := hull (policy_right_J19_i)
theorem policy_right_J19_eq : policy_right_J19 = policy_right_J19_i := hull_eq _
noncomputable def a_policy_right_J19 : AC Int :=
  .seq (.reg [.op ⟨some 60, (.mv (.t 3)), none⟩,
 .op ⟨some 61, (.mv (.t 60)), none⟩,
 .op ⟨some 62, (.fa 1 (.t 1)), (some (61, true))⟩,
 .op ⟨some 63, (.load false 1 (.t 62)), (some (61, true))⟩,
 .call ⟨some 64, (.call 31 [.t 63]), (some (61, true))⟩ 31 ent_dname_Valid,
 .op ⟨some 65, (.un .not (.t 64)), (some (61, true))⟩,
 .op ⟨some 66, (.pick (.t 61) (.t 65) (.c (.bool false))), none⟩,
 .op ⟨some 59, (.mv (.t 66)), none⟩]) (.view [.sel [1, 3, 59] [0]])
theorem ok_policy_right_J19 : AC.ok Tryd.prog (TIof Tryd.prog) 95 0 (kret [.t 2] dec_policy_right) a_policy_right_J19 := (zA (zA (EntOkB.ok k_dname_Valid) zT) zT)
theorem t_policy_right_J19 (v3 : Bool) (b0_0 : Int) (b0_1 : List UInt8) (b0_2 : Bool) (b0_3 : Int) (b0_4 : Int) (b0_5 : Int) (b0_6 : Int) (b0_7 : List AV) (K : Ex → Env → Mem → Option Int) : den 0 (kret [.t 2] dec_policy_right) a_policy_right_J19 (envOf [(1, (.ptr 0 0)), (3, (.bool v3))]) (memOf [(some (.box true [(.int .i64 b0_0), (.str b0_1), (.bool b0_2), (.int .u64 b0_3), (.int .u64 b0_4), (.int .i64 b0_5), (.int .i64 b0_6), (.sl 16 b0_7)]))]) K = policy_right_J19 v3 b0_0 b0_1 b0_2 b0_3 b0_4 b0_5 b0_6 b0_7 (fun z_v59 => K .norm (envOf [(1, (.ptr 0 0)), (3, (.bool v3)), (59, (.bool z_v59))]) (memOf [(some (.box true [(.int .i64 b0_0), (.str b0_1), (.bool b0_2), (.int .u64 b0_3), (.int .u64 b0_4), (.int .i64 b0_5), (.int .i64 b0_6), (.sl 16 b0_7)]))])) := by
  rw [policy_right_J19_eq]; kernel_rfl
noncomputable def s_policy_right_J19 : Env → Mem → (Ex → Env → Mem → Option Int) → Option Int := fun t m K => chk (fitS0 shp_policy_right_J19 t m) (cond (hdS shp_policy_right_J19 t m) (policy_right_J19 (gB [t 3] 0) (gI (bxC (m.s 0)) 0) (gS (bxC (m.s 0)) 1) (gB (bxC (m.s 0)) 2) (gI (bxC (m.s 0)) 3) (gI (bxC (m.s 0)) 4) (gI (bxC (m.s 0)) 5) (gI (bxC (m.s 0)) 6) (gL (bxC (m.s 0)) 7) (fun z_v59 => K .norm (envOf [(1, (.ptr 0 0)), (3, (.bool (gB [t 3] 0))), (59, (.bool z_v59))]) (memOf [(some (.box true [(.int .i64 (gI (bxC (m.s 0)) 0)), (.str (gS (bxC (m.s 0)) 1)), (.bool (gB (bxC (m.s 0)) 2)), (.int .u64 (gI (bxC (m.s 0)) 3)), (.int .u64 (gI (bxC (m.s 0)) 4)), (.int .i64 (gI (bxC (m.s 0)) 5)), (.int .i64 (gI (bxC (m.s 0)) 6)), (.sl 16 (gL (bxC (m.s 0)) 7))]))]))) none)
theorem o_policy_right_J19 : SubOk Tryd.prog (TIof Tryd.prog) 95 0 (kret [.t 2] dec_policy_right) (scOf a_policy_right_J19) s_policy_right_J19 :=
  sub_of tabOk follows ok_policy_right_J19 (er_of (by kernel_rfl)) shp_policy_right_J19 (fun t m K => congrArg (fun z => chk (fitS0 shp_policy_right_J19 t m) (cond (hdS shp_policy_right_J19 t m) z none)) (t_policy_right_J19 (gB [t 3] 0) (gI (bxC (m.s 0)) 0) (gS (bxC (m.s 0)) 1) (gB (bxC (m.s 0)) 2) (gI (bxC (m.s 0)) 3) (gI (bxC (m.s 0)) 4) (gI (bxC (m.s 0)) 5) (gI (bxC (m.s 0)) 6) (gL (bxC (m.s 0)) 7) K).symm)
def shp_policy_right_J25 : Shp := ⟨[(1, .one (.ptr 0 0)), (3, .one (.l .b))], [.box true [(.l (.i .i64)), (.l .s), (.l .b), (.l (.i .u64)), (.l (.i .u64)), (.l (.i .i64)), (.l (.i .i64)), (.l (.sl 16))]]⟩
noncomputable def policy_right_J25_i  (v3 : Bool) (b0_0 : Int) (b0_1 : List UInt8) (b0_2 : Bool) (b0_3 : Int) (b0_4 : Int) (b0_5 : Int) (b0_6 : Int) (b0_7 : List AV) (kn : Bool → Option Int) : Option Int :=
  (bif (!v3) then (oB (prefix_Valid b0_2 b0_3 b0_4 b0_5) fun r1 => (kn (!r1))) else (kn false))
noncomputable def policy_right_J25 := hull (policy_right_J25_i)
theorem policy_right_J25_eq : policy_right_J25 = policy_right_J25_i := hull_eq _
noncomputable def a_policy_right_J25 : AC Int :=
  .seq (.reg [.op ⟨some 68, (.mv (.t 3)), none⟩,
 .op ⟨some 69, (.un .not (.t 68)), none⟩,
 .op ⟨some 70, (.mv (.t 69)), none⟩,
 .op ⟨some 71, (.fa 2 (.t 1)), (some (70, true))⟩,
 .op ⟨some 72, (.load true 4 (.t 71)), (some (70, true))⟩,
 .call ⟨some 73, (.call 42 [.t 72]), (some (70, true))⟩ 42 ent_prefix_Valid,
 .op ⟨some 74, (.un .not (.t 73)), (some (70, true))⟩,
 .op ⟨some 75, (.pick (.t 70) (.t 74) (.c (.bool false))), none⟩,
 .op ⟨some 67, (.mv (.t 75)), none⟩]) (.view [.sel [1, 67] [0]])
theorem ok_policy_right_J25 : AC.ok Tryd.prog (TIof Tryd.prog) 95 0 (kret [.t 2] dec_policy_right) a_policy_right_J25 := (zA (zA (EntOkB.ok k_prefix_Valid) zT) zT)
theorem t_policy_right_J25 (v3 : Bool) (b0_0 : Int) (b0_1 : List UInt8) (b0_2 : Bool) (b0_3 : Int) (b0_4 : Int) (b0_5 : Int) (b0_6 : Int) (b0_7 : List AV) (K : Ex → Env → Mem → Option Int) : den 0 (kret [.t 2] dec_policy_right) a_policy_right_J25 (envOf [(1, (.ptr 0 0)), (3, (.bool v3))]) (memOf [(some (.box true [(.int .i64 b0_0), (.str b0_1), (.bool b0_2), (.int .u64 b0_3), (.int .u64 b0_4), (.int .i64 b0_5), (.int .i64 b0_6), (.sl 16 b0_7)]))]) K = policy_right_J25 v3 b0_0 b0_1 b0_2 b0_3 b0_4 b0_5 b0_6 b0_7 (fun z_v67 => K .norm (envOf [(1, (.ptr 0 0)), (67, (.bool z_v67))]) (memOf [(some (.box true [(.int .i64 b0_0), (.str b0_1), (.bool b0_2), (.int .u64 b0_3), (.int .u64 b0_4), (.int .i64 b0_5), (.int .i64 b0_6), (.sl 16 b0_7)]))])) := by
  rw [policy_right_J25_eq]; kernel_rfl
noncomputable def s_policy_right_J25 : Env → Mem → (Ex → Env → Mem → Option Int) → Option Int := fun t m K => chk (fitS0 shp_policy_right_J25 t m) (cond (hdS shp_policy_right_J25 t m) (policy_right_J25 (gB [t 3] 0) (gI (bxC (m.s 0)) 0) (gS (bxC (m.s 0)) 1) (gB (bxC (m.s 0)) 2) (gI (bxC (m.s 0)) 3) (gI (bxC (m.s 0)) 4) (gI (bxC (m.s 0)) 5) (gI (bxC (m.s 0)) 6) (gL (bxC (m.s 0)) 7) (fun z_v67 => K .norm (envOf [(1, (.ptr 0 0)), (67, (.bool z_v67))]) (memOf [(some (.box true [(.int .i64 (gI (bxC (m.s 0)) 0)), (.str (gS (bxC (m.s 0)) 1)), (.bool (gB (bxC (m.s 0)) 2)), (.int .u64 (gI (bxC (m.s 0)) 3)), (.int .u64 (gI (bxC (m.s 0)) 4)), (.int .i64 (gI (bxC (m.s 0)) 5)), (.int .i64 (gI (bxC (m.s 0)) 6)), (.sl 16 (gL (bxC (m.s 0)) 7))]))]))) none)
theorem o_policy_right_J25 : SubOk Tryd.prog (TIof Tryd.prog) 95 0 (kret [.t 2] dec_policy_right) (scOf a_policy_right_J25) s_policy_right_J25 :=
  sub_of tabOk follows ok_policy_right_J25 (er_of (by kernel_rfl)) shp_policy_right_J25 (fun t m K => congrArg (fun z => chk (fitS0 shp_policy_right_J25 t m) (cond (hdS shp_policy_right_J25 t m) z none)) (t_policy_right_J25 (gB [t 3] 0) (gI (bxC (m.s 0)) 0) (gS (bxC (m.s 0)) 1) (gB (bxC (m.s 0)) 2) (gI (bxC (m.s 0)) 3) (gI (bxC (m.s 0)) 4) (gI (bxC (m.s 0)) 5) (gI (bxC (m.s 0)) 6) (gL (bxC (m.s 0)) 7) K).symm)
def shp_policy_right : Shp := ⟨[(0, .st [(.l (.i .i64)), (.l .s), (.l .b), (.l (.i .u64)), (.l (.i .u64)), (.l (.i .i64)), (.l (.i .i64)), (.l (.sl 16))])], []⟩
noncomputable def policy_right_i (v0_0 : Int) (v0_1 : List UInt8) (v0_2 : Bool) (v0_3 : Int) (v0_4 : Int) (v0_5 : Int) (v0_6 : Int) (v0_7 : List AV) : Option Int :=
  (bif ((((decide (v0_0 < (1 : Int))) || (decide (v0_0 > (3 : Int)))) || (decide (v0_6 < (1 : Int)))) || (decide (v0_6 > (5 : Int)))) then (some (1 : Int)) else (policy_right_J13 ((v0_0 == (1 : Int)) || (v0_0 == (2 : Int))) v0_0 v0_1 v0_2 v0_3 v0_4 v0_5 v0_6 v0_7 (fun v31q1 => (bif v31q1 then (some (1 : Int)) else (policy_right_J19 ((v0_0 == (1 : Int)) || (v0_0 == (2 : Int))) v0_0 v0_1 v0_2 v0_3 v0_4 v0_5 v0_6 v0_7 (fun v59q2 => (bif v59q2 then (some (2 : Int)) else (policy_right_J25 ((v0_0 == (1 : Int)) || (v0_0 == (2 : Int))) v0_0 v0_1 v0_2 v0_3 v0_4 v0_5 v0_6 v0_7 (fun v67q3 => (bif v67q3 then (some (3 : Int)) else (bif (v0_6 != (4 : Int)) then (some (0 : Int)) else (bif ((decide ((v0_7.length : Int) < (1 : Int))) || (decide ((v0_7.length : Int) > (64 : Int)))) then (some (5 : Int)) else (oB (slices_ContainsFunc_api_Record_api_Record__policy_right_1 v0_7) fun r4 => (bif r4 then (some (5 : Int)) else (some (0 : Int))))))))))))))))
noncomputable def policy_right := hull policy_right_i
theorem policy_right_eq : policy_right = policy_right_i := hull_eq _
noncomputable def a_policy_right : AC Int :=
  .seq (.reg [.op ⟨some 1, (.box (.t 0)), none⟩,
 .op ⟨some 2, (.mv (.c (.int .i64 0))), none⟩]) (.seq (.reg [.op ⟨some 4, (.fa 0 (.t 1)), none⟩,
 .op ⟨some 5, (.load false 1 (.t 4)), none⟩,
 .op ⟨some 6, (.bin .eql (.t 5) (.c (.int .i64 1))), none⟩,
 .op ⟨some 7, (.mv (.t 6)), none⟩,
 .grp 7 false [⟨some 8, (.fa 0 (.t 1)), (some (7, false))⟩, ⟨some 9, (.load false 1 (.t 8)), (some (7, false))⟩, ⟨some 10, (.bin .eql (.t 9) (.c (.int .i64 2))), (some (7, false))⟩] 11 (.t 10),
 .op ⟨some 3, (.mv (.t 11)), none⟩]) (.seq (.block 0 (.seq (.reg [.op ⟨some 13, (.fa 0 (.t 1)), none⟩,
 .op ⟨some 14, (.load false 1 (.t 13)), none⟩,
 .op ⟨some 15, (.bin .lss (.t 14) (.c (.int .i64 1))), none⟩,
 .op ⟨some 16, (.mv (.t 15)), none⟩,
 .grp 16 false [⟨some 17, (.fa 0 (.t 1)), (some (16, false))⟩, ⟨some 18, (.load false 1 (.t 17)), (some (16, false))⟩, ⟨some 19, (.bin .gtr (.t 18) (.c (.int .i64 3))), (some (16, false))⟩] 20 (.t 19),
 .op ⟨some 21, (.mv (.t 20)), none⟩,
 .grp 21 false [⟨some 22, (.fa 6 (.t 1)), (some (21, false))⟩, ⟨some 23, (.load false 1 (.t 22)), (some (21, false))⟩, ⟨some 24, (.bin .lss (.t 23) (.c (.int .i64 1))), (some (21, false))⟩] 25 (.t 24),
 .op ⟨some 26, (.mv (.t 25)), none⟩,
 .grp 26 false [⟨some 27, (.fa 6 (.t 1)), (some (26, false))⟩, ⟨some 28, (.load false 1 (.t 27)), (some (26, false))⟩, ⟨some 29, (.bin .gtr (.t 28) (.c (.int .i64 5))), (some (26, false))⟩] 30 (.t 29),
 .op ⟨some 12, (.mv (.t 30)), none⟩]) (.cond (.t 12) (.seq (.reg [.op ⟨some 2, (.mv (.c (.int .i64 1))), none⟩]) (.ret)) (.seq (.seq (.view [.sel [1, 3] [0]]) (.sub (scOf a_policy_right_J13) s_policy_right_J13)) (.cond (.t 31) (.seq (.reg [.op ⟨some 2, (.mv (.c (.int .i64 1))), none⟩]) (.ret)) (.seq (.seq (.view [.sel [1, 3] [0]]) (.sub (scOf a_policy_right_J19) s_policy_right_J19)) (.cond (.t 59) (.seq (.reg [.op ⟨some 2, (.mv (.c (.int .i64 2))), none⟩]) (.ret)) (.seq (.seq (.view [.sel [1, 3] [0]]) (.sub (scOf a_policy_right_J25) s_policy_right_J25)) (.cond (.t 67) (.seq (.reg [.op ⟨some 2, (.mv (.c (.int .i64 3))), none⟩]) (.ret)) (.seq (.reg [.op ⟨some 77, (.fa 6 (.t 1)), none⟩,
 .op ⟨some 78, (.load false 1 (.t 77)), none⟩,
 .op ⟨some 79, (.bin .neq (.t 78) (.c (.int .i64 4))), none⟩,
 .op ⟨some 76, (.mv (.t 79)), none⟩]) (.cond (.t 76) (.seq (.reg [.op ⟨some 2, (.mv (.c (.int .i64 0))), none⟩]) (.ret)) (.seq (.reg [.op ⟨some 81, (.fa 7 (.t 1)), none⟩,
 .op ⟨some 82, (.load false 1 (.t 81)), none⟩,
 .op ⟨some 83, (.len false (.t 82)), none⟩,
 .op ⟨some 84, (.bin .lss (.t 83) (.c (.int .i64 1))), none⟩,
 .op ⟨some 85, (.mv (.t 84)), none⟩,
 .grp 85 false [⟨some 86, (.fa 7 (.t 1)), (some (85, false))⟩, ⟨some 87, (.load false 1 (.t 86)), (some (85, false))⟩, ⟨some 88, (.len false (.t 87)), (some (85, false))⟩, ⟨some 89, (.bin .gtr (.t 88) (.c (.int .i64 64))), (some (85, false))⟩] 90 (.t 89),
 .op ⟨some 80, (.mv (.t 90)), none⟩]) (.cond (.t 80) (.seq (.reg [.op ⟨some 2, (.mv (.c (.int .i64 5))), none⟩]) (.ret)) (.seq (.reg [.op ⟨some 92, (.fa 7 (.t 1)), none⟩,
 .op ⟨some 93, (.load false 1 (.t 92)), none⟩,
 .call ⟨some 94, (.call 36 [.t 93, (.c (.func 43 []))]), none⟩ 36 ent_slices_ContainsFunc_api_Record_api_Record__policy_right_1,
 .op ⟨some 91, (.mv (.t 94)), none⟩]) (.cond (.t 91) (.seq (.reg [.op ⟨some 2, (.mv (.c (.int .i64 5))), none⟩]) (.ret)) (.skip)))))))))))))))) (.seq (.reg [.op ⟨some 2, (.mv (.c (.int .i64 0))), none⟩]) (.ret))))
theorem ok_policy_right : AC.ok Tryd.prog (TIof Tryd.prog) 95 0 (kret [.t 2] dec_policy_right) a_policy_right := (zA zT (zA zT (zA (zA zT (zA (zA zT zT) (zA (zA zT o_policy_right_J13) (zA (zA zT zT) (zA (zA zT o_policy_right_J19) (zA (zA zT zT) (zA (zA zT o_policy_right_J25) (zA (zA zT zT) (zA zT (zA (zA zT zT) (zA zT (zA (zA zT zT) (zA (zA (EntOkB.ok k_slices_ContainsFunc_api_Record_api_Record__policy_right_1) zT) (zA (zA zT zT) zT)))))))))))))) (zA zT zT))))
theorem t_policy_right (v0_0 : Int) (v0_1 : List UInt8) (v0_2 : Bool) (v0_3 : Int) (v0_4 : Int) (v0_5 : Int) (v0_6 : Int) (v0_7 : List AV) : den 0 (kret [.t 2] dec_policy_right) a_policy_right (envOf [(0, (.agg [(.int .i64 v0_0), (.str v0_1), (.bool v0_2), (.int .u64 v0_3), (.int .u64 v0_4), (.int .i64 v0_5), (.int .i64 v0_6), (.sl 16 v0_7)]))]) (memOf []) (kend (kret [.t 2] dec_policy_right)) = policy_right v0_0 v0_1 v0_2 v0_3 v0_4 v0_5 v0_6 v0_7 := by
  rw [policy_right_eq]; kernel_rfl
theorem c_policy_right : cFn (TIof Tryd.prog) Tryd.f26 = some ⟨95, [.t 2], scOf a_policy_right⟩ := by kernel_rfl
noncomputable def ent_policy_right {R : Type} (xs : List AV) (K : AV → Option R) : Option R := chk (fitS shp_policy_right (entry xs) Mem.none) (oB (policy_right (gI ((entry xs) 0).cells 0) (gS ((entry xs) 0).cells 1) (gB ((entry xs) 0).cells 2) (gI ((entry xs) 0).cells 3) (gI ((entry xs) 0).cells 4) (gI ((entry xs) 0).cells 5) (gI ((entry xs) 0).cells 6) (gL ((entry xs) 0).cells 7)) fun r => K (enc_policy_right r))
theorem k_policy_right {R : Type} : EntOkB Tryd.prog 26 (ent_policy_right (R := R)) :=
  ent_of (F := fun xs => policy_right (gI ((entry xs) 0).cells 0) (gS ((entry xs) 0).cells 1) (gB ((entry xs) 0).cells 2) (gI ((entry xs) 0).cells 3) (gI ((entry xs) 0).cells 4) (gI ((entry xs) 0).cells 5) (gI ((entry xs) 0).cells 6) (gL ((entry xs) 0).cells 7)) (enc := enc_policy_right) tabOk follows Tryd.func26 (by kernel_rfl) c_policy_right (fun z r h => by
 obtain ⟨h1, h2⟩ := cond_some h
 cases h2
 exact (etaRV_eq h1).symm) ok_policy_right (er_of (by kernel_rfl)) shp_policy_right (fun xs => t_policy_right (gI ((entry xs) 0).cells 0) (gS ((entry xs) 0).cells 1) (gB ((entry xs) 0).cells 2) (gI ((entry xs) 0).cells 3) (gI ((entry xs) 0).cells 4) (gI ((entry xs) 0).cells 5) (gI ((entry xs) 0).cells 6) (gL ((entry xs) 0).cells 7)) (fun xs K r h => by
 unfold ent_policy_right at h
 exact ⟨(chk_some h).1, oB_some (chk_some h).2⟩)
def dec_policy_Check (z : AV) : Option Int := cond (fitRV (.one (.i .i64)) z) (some (aI z)) none
def enc_policy_Check (r : Int) : AV := .int .i64 r
def shp_policy_Check_L14 : Shp := ⟨[(9, .one (.l (.sl 8))), (10, .one (.l (.i .i64))), (11, .one (.l (.i .i64)))], []⟩
noncomputable def policy_Check_L14_b  (v9 : List AV) (v10 : Int) (v11 : Int) (next : Int → Option Int) (kx0 : Unit → Option Int) : Option Int :=
  (bif (decide (v11 < v10)) then (oB (ixB v9 v11) fun y1 => (bif fitC T_api_Rule y1.cells then (oB (policy_right (gI y1.cells 0) (gS y1.cells 1) (gB y1.cells 2) (gI y1.cells 3) (gI y1.cells 4) (gI y1.cells 5) (gI y1.cells 6) (gL y1.cells 7)) fun r2 => (bif (r2 != (0 : Int)) then (some r2) else (next (IntKind.i64.wrap (v11 + (1 : Int)))))) else none)) else (kx0 ()))
noncomputable def policy_Check_L14_i  (v9 : List AV) (v10 : Int) (kx0 : Unit → Option Int) : Nat → Int → Option Int
  | 0 => (fun _ => none)
  | n + 1 => (fun v11 => policy_Check_L14_b v9 v10 v11 (policy_Check_L14_i v9 v10 kx0 n) kx0)
noncomputable def policy_Check_L14 := hull (policy_Check_L14_i)
theorem policy_Check_L14_eq : policy_Check_L14 = policy_Check_L14_i := hull_eq _
noncomputable def a_policy_Check_L14 : AC Int :=
  .seq (.reg [.op ⟨some 12, (.bin .lss (.t 11) (.t 10)), none⟩]) (.seq (.cond (.t 12) (.skip) (.seq (.view [.sel [] []]) (.exit 0))) (.seq (.block 1 (.seq (.reg [.op ⟨some 13, (.ia 8 (.t 9) (.t 11)), none⟩,
 .st (.etac 13 T_api_Rule),
 .op ⟨some 14, (.load true 8 (.t 13)), none⟩,
 .op ⟨some 4, (.alloc [(.int .i64 0), (.str []), (.bool false), (.int .u64 0), (.int .u64 0), (.int .i64 0), (.int .i64 0), .nils]), none⟩,
 .op ⟨none, (.store 8 (.t 4) (.t 14)), none⟩]) (.seq (.reg [.op ⟨some 15, (.load true 8 (.t 4)), none⟩,
 .call ⟨some 16, (.call 26 [.t 15]), none⟩ 26 ent_policy_right,
 .op ⟨some 5, (.mv (.t 16)), none⟩]) (.seq (.reg [.op ⟨some 17, (.mv (.t 5)), none⟩,
 .op ⟨some 18, (.bin .neq (.t 17) (.c (.int .i64 0))), none⟩]) (.cond (.t 18) (.seq (.reg [.op ⟨some 19, (.mv (.t 5)), none⟩,
 .op ⟨some 2, (.mv (.t 19)), none⟩]) (.ret)) (.skip)))))) (.seq (.reg [.op ⟨some 20, (.bin .add (.t 11) (.c (.int .i64 1))), none⟩,
 .op ⟨some 11, (.mv (.t 20)), none⟩]) (.view [.sel [9, 10, 11] []]))))
theorem ok_policy_Check_L14 : AC.ok Tryd.prog (TIof Tryd.prog) 21 0 (kret [.t 2] dec_policy_Check) a_policy_Check_L14 := (zA zT (zA (zA zT (zA zT zT)) (zA (zA zT (zA (zA (EntOkB.ok k_policy_right) zT) (zA zT (zA (zA zT zT) zT)))) (zA zT zT))))
theorem t_policy_Check_L14_b (v9 : List AV) (v10 : Int) (v11 : Int) (K : Ex → Env → Mem → Option Int) : den 0 (kret [.t 2] dec_policy_Check) a_policy_Check_L14 (envOf [(9, (.sl 8 v9)), (10, (.int .i64 v10)), (11, (.int .i64 v11))]) (memOf []) K = policy_Check_L14_b v9 v10 v11 (fun z_v11 => K .norm (envOf [(9, (.sl 8 v9)), (10, (.int .i64 v10)), (11, (.int .i64 z_v11))]) (memOf [])) (fun _ => K (.exit 0) (envOf []) (memOf [])) := by kernel_rfl
theorem t_policy_Check_L14 (v9 : List AV) (v10 : Int) (K : Ex → Env → Mem → Option Int) : ∀ (n : Nat) (v11 : Int), iterD (den 0 (kret [.t 2] dec_policy_Check) a_policy_Check_L14) n (envOf [(9, (.sl 8 v9)), (10, (.int .i64 v10)), (11, (.int .i64 v11))]) (memOf []) K = policy_Check_L14 v9 v10 (fun _ => K (.exit 0) (envOf []) (memOf [])) n v11 := by
  rw [policy_Check_L14_eq]
  intro n
  induction n with
  | zero => intros; rfl
  | succ n ih =>
 intro v11
 exact (t_policy_Check_L14_b v9 v10 v11 (itK (den 0 (kret [.t 2] dec_policy_Check) a_policy_Check_L14) n K)).trans (congrArg (fun q => policy_Check_L14_b v9 v10 v11 q (fun _ => K (.exit 0) (envOf []) (memOf []))) (funext fun v11 => ih v11))
noncomputable def s_policy_Check_L14 : Env → Mem → (Ex → Env → Mem → Option Int) → Option Int := fun t m K => chk (fitS0 shp_policy_Check_L14 t m) (cond (hdS shp_policy_Check_L14 t m) (policy_Check_L14 (gL [t 9] 0) (gI [t 10] 0) (fun _ => K (.exit 0) (envOf []) (memOf [])) FU (gI [t 11] 0)) none)
theorem o_policy_Check_L14 : SubOk Tryd.prog (TIof Tryd.prog) 21 0 (kret [.t 2] dec_policy_Check) (.loop (scOf a_policy_Check_L14)) s_policy_Check_L14 :=
  loop_of tabOk follows ok_policy_Check_L14 (er_of (by kernel_rfl)) shp_policy_Check_L14 (fun t m K => congrArg (fun z => chk (fitS0 shp_policy_Check_L14 t m) (cond (hdS shp_policy_Check_L14 t m) z none)) (t_policy_Check_L14 (gL [t 9] 0) (gI [t 10] 0) K FU (gI [t 11] 0)).symm)
def shp_policy_Check : Shp := ⟨[(0, .one (.l (.sl 8)))], []⟩
noncomputable def policy_Check_i (v0 : List AV) : Option Int :=
  (bif (decide ((v0.length : Int) > (64 : Int))) then (some (9 : Int)) else (policy_Check_L14 v0 (v0.length : Int) (fun (_ : Unit) => (some (0 : Int))) FU (0 : Int)))
noncomputable def policy_Check := hull policy_Check_i
theorem policy_Check_eq : policy_Check = policy_Check_i := hull_eq _
noncomputable def a_policy_Check : AC Int :=
  .seq (.reg [.op ⟨some 2, (.mv (.c (.int .i64 0))), none⟩]) (.seq (.seq (.reg [.op ⟨some 6, (.mv (.t 0)), none⟩,
 .op ⟨some 7, (.len false (.t 6)), none⟩,
 .op ⟨some 8, (.bin .gtr (.t 7) (.c (.int .i64 64))), none⟩]) (.cond (.t 8) (.seq (.reg [.op ⟨some 2, (.mv (.c (.int .i64 9))), none⟩]) (.ret)) (.skip))) (.seq (.seq (.reg [.op ⟨some 9, (.mv (.t 0)), none⟩,
 .op ⟨some 10, (.len false (.t 9)), none⟩,
 .op ⟨some 11, (.mv (.c (.int .i64 0))), none⟩]) (.block 0 (.seq (.view [.sel [9, 10, 11] []]) (.sub (.loop (scOf a_policy_Check_L14)) s_policy_Check_L14)))) (.seq (.reg [.op ⟨some 2, (.mv (.c (.int .i64 0))), none⟩]) (.ret))))
theorem ok_policy_Check : AC.ok Tryd.prog (TIof Tryd.prog) 21 0 (kret [.t 2] dec_policy_Check) a_policy_Check := (zA zT (zA (zA zT (zA (zA zT zT) zT)) (zA (zA zT (zA zT o_policy_Check_L14)) (zA zT zT))))
theorem t_policy_Check (v0 : List AV) : den 0 (kret [.t 2] dec_policy_Check) a_policy_Check (envOf [(0, (.sl 8 v0))]) (memOf []) (kend (kret [.t 2] dec_policy_Check)) = policy_Check v0 := by
  rw [policy_Check_eq]; kernel_rfl
theorem c_policy_Check : cFn (TIof Tryd.prog) Tryd.f13 = some ⟨21, [.t 2], scOf a_policy_Check⟩ := by kernel_rfl
noncomputable def ent_policy_Check {R : Type} (xs : List AV) (K : AV → Option R) : Option R := chk (fitS shp_policy_Check (entry xs) Mem.none) (oB (policy_Check (gL [(entry xs) 0] 0)) fun r => K (enc_policy_Check r))
theorem k_policy_Check {R : Type} : EntOkB Tryd.prog 13 (ent_policy_Check (R := R)) :=
  ent_of (F := fun xs => policy_Check (gL [(entry xs) 0] 0)) (enc := enc_policy_Check) tabOk follows Tryd.func13 (by kernel_rfl) c_policy_Check (fun z r h => by
 obtain ⟨h1, h2⟩ := cond_some h
 cases h2
 exact (etaRV_eq h1).symm) ok_policy_Check (er_of (by kernel_rfl)) shp_policy_Check (fun xs => t_policy_Check (gL [(entry xs) 0] 0)) (fun xs K r h => by
 unfold ent_policy_Check at h
 exact ⟨(chk_some h).1, oB_some (chk_some h).2⟩)
def dec_ddilaw26_awake (z : AV) : Option Bool := cond (fitRV (.one .b) z) (some (aB z)) none
def enc_ddilaw26_awake (r : Bool) : AV := .bool r
def shp_ddilaw26_awake : Shp := ⟨[], []⟩
noncomputable def ddilaw26_awake_i : Option Bool :=
  (oB (ddilaw26_refuse) fun r1 => (oB (policy_Apply r1 (5 : Int) (0 : Int) (0 : Int) false false false false false false false false (0 : Int) ([97, 46] : List UInt8) (1 : Int) ([] : List AV) ([] : List AV) ([] : List AV) (9 : Int) (0 : Int) (0 : Int) false false false false false false false false (0 : Int) ([] : List UInt8) (0 : Int) ([] : List AV) ([] : List AV) ([] : List AV)) fun r2 => (bif ((((gI r2.cells 0) == (5 : Int)) && ((gI r2.cells 2) == (5 : Int))) && (gB r2.cells 3)) then (oB (ddilaw26_refuse) fun r3 => (oB (policy_Check r3) fun r4 => (some (r4 == (0 : Int))))) else (some false))))
noncomputable def ddilaw26_awake := hull ddilaw26_awake_i
theorem ddilaw26_awake_eq : ddilaw26_awake = ddilaw26_awake_i := hull_eq _
noncomputable def a_ddilaw26_awake : AC Bool :=
  .seq (.reg [.op ⟨some 0, (.mv (.c (.bool false))), none⟩]) (.seq (.reg [.op ⟨some 3, (.build [(.str []), (.int .i64 0)] [(0, (1, (.c (.str [97, 46])))), (1, (1, (.c (.int .i64 1))))]), none⟩,
 .op ⟨some 4, (.build [(.int .i64 0), (.int .i64 0), (.int .i64 0), (.bool false), (.bool false), (.bool false), (.bool false), (.bool false), (.bool false), (.bool false), (.bool false), (.int .i64 0), (.str []), (.int .i64 0), .nils, .nils, .nils] [(0, (1, (.c (.int .i64 5)))), (12, (2, (.t 3)))]), none⟩,
 .op ⟨some 1, (.alloc [(.int .i64 0), (.int .i64 0), (.int .i64 0), (.bool false), (.bool false), (.bool false), (.bool false), (.bool false), (.bool false), (.bool false), (.bool false), (.int .i64 0), (.str []), (.int .i64 0), .nils, .nils, .nils]), none⟩,
 .op ⟨none, (.store 17 (.t 1) (.t 4)), none⟩]) (.seq (.draw [] [.call ⟨some 5, (.call 14 []), none⟩ 14 ent_ddilaw26_refuse,
 .op ⟨some 6, (.load true 17 (.t 1)), none⟩,
 .op ⟨some 7, (.build [(.int .i64 0), (.int .i64 0), (.int .i64 0), (.bool false), (.bool false), (.bool false), (.bool false), (.bool false), (.bool false), (.bool false), (.bool false), (.int .i64 0), (.str []), (.int .i64 0), .nils, .nils, .nils] [(0, (1, (.c (.int .i64 9))))]), none⟩,
 .call ⟨some 8, (.call 18 [.t 5, .t 6, .t 7]), none⟩ 18 ent_policy_Apply,
 .op ⟨none, (.held [] []), none⟩] [.op ⟨some 2, (.alloc [(.int .i64 0), (.int .i64 0), (.int .i64 0), (.bool false), (.bool false), (.bool false), (.bool false), (.bool false), (.bool false), (.bool false), (.bool false), (.int .i64 0), (.str []), (.int .i64 0), .nils, .nils, .nils]), none⟩,
 .op ⟨none, (.store 17 (.t 2) (.t 8)), none⟩]) (.seq (.reg [.op ⟨some 9, (.fa 0 (.t 2)), none⟩,
 .op ⟨some 10, (.load false 1 (.t 9)), none⟩,
 .op ⟨some 11, (.bin .eql (.t 10) (.c (.int .i64 5))), none⟩,
 .op ⟨some 12, (.mv (.t 11)), none⟩,
 .grp 12 true [⟨some 13, (.fa 2 (.t 2)), (some (12, true))⟩, ⟨some 14, (.load false 1 (.t 13)), (some (12, true))⟩, ⟨some 15, (.bin .eql (.t 14) (.c (.int .i64 5))), (some (12, true))⟩] 16 (.t 15),
 .op ⟨some 17, (.mv (.t 16)), none⟩,
 .grp 17 true [⟨some 18, (.fa 3 (.t 2)), (some (17, true))⟩, ⟨some 19, (.load false 1 (.t 18)), (some (17, true))⟩] 20 (.t 19),
 .op ⟨some 21, (.mv (.t 20)), none⟩,
 .callc ⟨some 22, (.call 14 []), (some (21, true))⟩ 14 ent_ddilaw26_refuse,
 .call ⟨some 23, (.call 13 [.t 22]), (some (21, true))⟩ 13 ent_policy_Check,
 .op ⟨some 24, (.bin .eql (.t 23) (.c (.int .i64 0))), (some (21, true))⟩,
 .op ⟨some 25, (.pick (.t 21) (.t 24) (.c (.bool false))), none⟩,
 .op ⟨some 0, (.mv (.t 25)), none⟩]) (.ret))))
theorem ok_ddilaw26_awake : AC.ok Tryd.prog (TIof Tryd.prog) 26 0 (kret [.t 0] dec_ddilaw26_awake) a_ddilaw26_awake := (zA zT (zA zT (zA (zA (zA (EntOkB.ok k_ddilaw26_refuse) (zA (EntOkB.ok k_policy_Apply) zT)) (zA zT rfl)) (zA (zA (EntOkB.ok k_ddilaw26_refuse) (zA (EntOkB.ok k_policy_Check) zT)) zT))))
theorem t_ddilaw26_awake : den 0 (kret [.t 0] dec_ddilaw26_awake) a_ddilaw26_awake (envOf []) (memOf []) (kend (kret [.t 0] dec_ddilaw26_awake)) = ddilaw26_awake := by
  rw [ddilaw26_awake_eq]; kernel_rfl
theorem c_ddilaw26_awake : cFn (TIof Tryd.prog) Tryd.f16 = some ⟨26, [.t 0], scOf a_ddilaw26_awake⟩ := by kernel_rfl
noncomputable def ent_ddilaw26_awake {R : Type} (xs : List AV) (K : AV → Option R) : Option R := chk (fitS shp_ddilaw26_awake (entry xs) Mem.none) (oB (ddilaw26_awake) fun r => K (enc_ddilaw26_awake r))
theorem k_ddilaw26_awake {R : Type} : EntOkB Tryd.prog 16 (ent_ddilaw26_awake (R := R)) :=
  ent_of (F := fun xs => ddilaw26_awake) (enc := enc_ddilaw26_awake) tabOk follows Tryd.func16 (by kernel_rfl) c_ddilaw26_awake (fun z r h => by
 obtain ⟨h1, h2⟩ := cond_some h
 cases h2
 exact (etaRV_eq h1).symm) ok_ddilaw26_awake (er_of (by kernel_rfl)) shp_ddilaw26_awake (fun xs => t_ddilaw26_awake) (fun xs K r h => by
 unfold ent_ddilaw26_awake at h
 exact ⟨(chk_some h).1, oB_some (chk_some h).2⟩)
def dec_ddilaw26_small (z : AV) : Option Bool := cond (fitRV (.one .b) z) (some (aB z)) none
def enc_ddilaw26_small (r : Bool) : AV := .bool r
def shp_ddilaw26_small_J25 : Shp := ⟨[(0, .one (.l (.sl 8))), (3, .one (.l (.i .i64)))], []⟩
noncomputable def ddilaw26_small_J25_i  (v0 : List AV) (v3 : Int) (kn : Bool → Option Bool) : Option Bool :=
  (oB (ixB v0 v3) fun y1 => (bif fitC T_api_Rule y1.cells then (bif (decide (((gS y1.cells 1).length : Int) > (300 : Int))) then (kn true) else (oB (ixB v0 v3) fun y2 => (bif fitC T_api_Rule y2.cells then (kn (decide (((gL y2.cells 7).length : Int) > (70 : Int)))) else none))) else none))
noncomputable def ddilaw26_small_J25 := hull (ddilaw26_small_J25_i)
theorem ddilaw26_small_J25_eq : ddilaw26_small_J25 = ddilaw26_small_J25_i := hull_eq _
noncomputable def a_ddilaw26_small_J25 : AC Bool :=
  .seq (.reg [.op ⟨some 15, (.mv (.t 0)), none⟩,
 .op ⟨some 16, (.mv (.t 3)), none⟩,
 .op ⟨some 17, (.ia 8 (.t 15) (.t 16)), none⟩,
 .st (.etac 17 T_api_Rule),
 .op ⟨some 18, (.fa 1 (.t 17)), none⟩,
 .op ⟨some 19, (.load false 1 (.t 18)), none⟩,
 .op ⟨some 20, (.len true (.t 19)), none⟩,
 .op ⟨some 21, (.bin .gtr (.t 20) (.c (.int .i64 300))), none⟩,
 .op ⟨some 22, (.mv (.t 21)), none⟩,
 .op ⟨some 23, (.mv (.t 0)), (some (22, false))⟩,
 .op ⟨some 24, (.mv (.t 3)), (some (22, false))⟩,
 .op ⟨some 25, (.ia 8 (.t 23) (.t 24)), (some (22, false))⟩,
 .stg 22 false (.etac 25 T_api_Rule),
 .op ⟨some 26, (.fa 7 (.t 25)), (some (22, false))⟩,
 .op ⟨some 27, (.load false 1 (.t 26)), (some (22, false))⟩,
 .op ⟨some 28, (.len false (.t 27)), (some (22, false))⟩,
 .op ⟨some 29, (.bin .gtr (.t 28) (.c (.int .i64 70))), (some (22, false))⟩,
 .op ⟨some 30, (.pick (.t 22) (.c (.bool true)) (.t 29)), none⟩]) (.view [.sel [0, 3, 30] []])
theorem ok_ddilaw26_small_J25 : AC.ok Tryd.prog (TIof Tryd.prog) 74 0 (kret [.t 2] dec_ddilaw26_small) a_ddilaw26_small_J25 := (zA zT zT)
theorem t_ddilaw26_small_J25 (v0 : List AV) (v3 : Int) (K : Ex → Env → Mem → Option Bool) : den 0 (kret [.t 2] dec_ddilaw26_small) a_ddilaw26_small_J25 (envOf [(0, (.sl 8 v0)), (3, (.int .i64 v3))]) (memOf []) K = ddilaw26_small_J25 v0 v3 (fun z_v30 => K .norm (envOf [(0, (.sl 8 v0)), (3, (.int .i64 v3)), (30, (.bool z_v30))]) (memOf [])) := by
  rw [ddilaw26_small_J25_eq]; kernel_rfl
noncomputable def s_ddilaw26_small_J25 : Env → Mem → (Ex → Env → Mem → Option Bool) → Option Bool := fun t m K => chk (fitS0 shp_ddilaw26_small_J25 t m) (cond (hdS shp_ddilaw26_small_J25 t m) (ddilaw26_small_J25 (gL [t 0] 0) (gI [t 3] 0) (fun z_v30 => K .norm (envOf [(0, (.sl 8 (gL [t 0] 0))), (3, (.int .i64 (gI [t 3] 0))), (30, (.bool z_v30))]) (memOf []))) none)
theorem o_ddilaw26_small_J25 : SubOk Tryd.prog (TIof Tryd.prog) 74 0 (kret [.t 2] dec_ddilaw26_small) (scOf a_ddilaw26_small_J25) s_ddilaw26_small_J25 :=
  sub_of tabOk follows ok_ddilaw26_small_J25 (er_of (by kernel_rfl)) shp_ddilaw26_small_J25 (fun t m K => congrArg (fun z => chk (fitS0 shp_ddilaw26_small_J25 t m) (cond (hdS shp_ddilaw26_small_J25 t m) z none)) (t_ddilaw26_small_J25 (gL [t 0] 0) (gI [t 3] 0) K).symm)
def shp_ddilaw26_small_L34 : Shp := ⟨[(0, .one (.l (.sl 8))), (3, .one (.l (.i .i64))), (4, .one (.l (.i .i64)))], []⟩
noncomputable def ddilaw26_small_L34_b  (v0 : List AV) (v3 : Int) (v4 : Int) (next : Int → Option Bool) (kx2 : Unit → Option Bool) : Option Bool :=
  (oB (ixB v0 v3) fun y1 => (bif fitC T_api_Rule y1.cells then (bif (decide (v4 < ((gL y1.cells 7).length : Int))) then (oB (ixB v0 v3) fun y2 => (bif fitC T_api_Rule y2.cells then (oB (ixB (gL y2.cells 7) v4) fun y3 => (bif fitC T_api_Record y3.cells then (bif ((((decide (((gS y3.cells 0).length : Int) > (300 : Int))) || (decide (((gS y3.cells 6).length : Int) > (300 : Int)))) || (decide (((gS y3.cells 7).length : Int) > (300 : Int)))) || (decide (((gS y3.cells 8).length : Int) > (300 : Int)))) then (some false) else (next (IntKind.i64.wrap (v4 + (1 : Int))))) else none)) else none)) else (kx2 ())) else none))
noncomputable def ddilaw26_small_L34_i  (v0 : List AV) (v3 : Int) (kx2 : Unit → Option Bool) : Nat → Int → Option Bool
  | 0 => (fun _ => none)
  | n + 1 => (fun v4 => ddilaw26_small_L34_b v0 v3 v4 (ddilaw26_small_L34_i v0 v3 kx2 n) kx2)
noncomputable def ddilaw26_small_L34 := hull (ddilaw26_small_L34_i)
theorem ddilaw26_small_L34_eq : ddilaw26_small_L34 = ddilaw26_small_L34_i := hull_eq _
noncomputable def a_ddilaw26_small_L34 : AC Bool :=
  .seq (.seq (.reg [.op ⟨some 31, (.mv (.t 4)), none⟩,
 .op ⟨some 32, (.mv (.t 0)), none⟩,
 .op ⟨some 33, (.mv (.t 3)), none⟩,
 .op ⟨some 34, (.ia 8 (.t 32) (.t 33)), none⟩,
 .st (.etac 34 T_api_Rule),
 .op ⟨some 35, (.fa 7 (.t 34)), none⟩,
 .op ⟨some 36, (.load false 1 (.t 35)), none⟩,
 .op ⟨some 37, (.len false (.t 36)), none⟩,
 .op ⟨some 38, (.bin .lss (.t 31) (.t 37)), none⟩]) (.cond (.t 38) (.skip) (.seq (.view [.sel [0, 3] []]) (.exit 2)))) (.seq (.block 3 (.seq (.reg [.op ⟨some 41, (.mv (.t 0)), none⟩,
 .op ⟨some 42, (.mv (.t 3)), none⟩,
 .op ⟨some 43, (.ia 8 (.t 41) (.t 42)), none⟩,
 .st (.etac 43 T_api_Rule),
 .op ⟨some 44, (.fa 7 (.t 43)), none⟩,
 .op ⟨some 45, (.load false 1 (.t 44)), none⟩,
 .op ⟨some 46, (.mv (.t 4)), none⟩,
 .op ⟨some 47, (.ia 16 (.t 45) (.t 46)), none⟩,
 .st (.etac 47 T_api_Record),
 .op ⟨some 48, (.load true 16 (.t 47)), none⟩,
 .op ⟨some 5, (.alloc [(.str []), (.int .i64 0), (.int .i64 0), (.bool false), (.int .u64 0), (.int .u64 0), (.str []), (.str []), (.str []), (.int .i64 0), (.int .i64 0), (.int .i64 0), (.int .i64 0), (.int .i64 0), (.int .i64 0), (.int .u64 0)]), none⟩,
 .op ⟨none, (.store 16 (.t 5) (.t 48)), none⟩]) (.seq (.reg [.op ⟨some 49, (.fa 0 (.t 5)), none⟩,
 .op ⟨some 50, (.load false 1 (.t 49)), none⟩,
 .op ⟨some 51, (.len true (.t 50)), none⟩,
 .op ⟨some 52, (.bin .gtr (.t 51) (.c (.int .i64 300))), none⟩,
 .op ⟨some 53, (.mv (.t 52)), none⟩,
 .grp 53 false [⟨some 54, (.fa 3 (.t 5)), (some (53, false))⟩, ⟨some 55, (.fa 3 (.t 54)), (some (53, false))⟩, ⟨some 56, (.load false 1 (.t 55)), (some (53, false))⟩, ⟨some 57, (.len true (.t 56)), (some (53, false))⟩, ⟨some 58, (.bin .gtr (.t 57) (.c (.int .i64 300))), (some (53, false))⟩] 59 (.t 58),
 .op ⟨some 60, (.mv (.t 59)), none⟩,
 .grp 60 false [⟨some 61, (.fa 3 (.t 5)), (some (60, false))⟩, ⟨some 62, (.fa 4 (.t 61)), (some (60, false))⟩, ⟨some 63, (.load false 1 (.t 62)), (some (60, false))⟩, ⟨some 64, (.len true (.t 63)), (some (60, false))⟩, ⟨some 65, (.bin .gtr (.t 64) (.c (.int .i64 300))), (some (60, false))⟩] 66 (.t 65),
 .op ⟨some 67, (.mv (.t 66)), none⟩,
 .grp 67 false [⟨some 68, (.fa 3 (.t 5)), (some (67, false))⟩, ⟨some 69, (.fa 5 (.t 68)), (some (67, false))⟩, ⟨some 70, (.load false 1 (.t 69)), (some (67, false))⟩, ⟨some 71, (.len true (.t 70)), (some (67, false))⟩, ⟨some 72, (.bin .gtr (.t 71) (.c (.int .i64 300))), (some (67, false))⟩] 73 (.t 72)]) (.cond (.t 73) (.seq (.reg [.op ⟨some 2, (.mv (.c (.bool false))), none⟩]) (.ret)) (.skip))))) (.seq (.reg [.op ⟨some 39, (.mv (.t 4)), none⟩,
 .op ⟨some 40, (.bin .add (.t 39) (.c (.int .i64 1))), none⟩,
 .op ⟨some 4, (.mv (.t 40)), none⟩]) (.view [.sel [0, 3, 4] []])))
theorem ok_ddilaw26_small_L34 : AC.ok Tryd.prog (TIof Tryd.prog) 74 0 (kret [.t 2] dec_ddilaw26_small) a_ddilaw26_small_L34 := (zA (zA zT (zA zT (zA zT zT))) (zA (zA zT (zA zT (zA (zA zT zT) zT))) (zA zT zT)))
theorem t_ddilaw26_small_L34_b (v0 : List AV) (v3 : Int) (v4 : Int) (K : Ex → Env → Mem → Option Bool) : den 0 (kret [.t 2] dec_ddilaw26_small) a_ddilaw26_small_L34 (envOf [(0, (.sl 8 v0)), (3, (.int .i64 v3)), (4, (.int .i64 v4))]) (memOf []) K = ddilaw26_small_L34_b v0 v3 v4 (fun z_v4 => K .norm (envOf [(0, (.sl 8 v0)), (3, (.int .i64 v3)), (4, (.int .i64 z_v4))]) (memOf [])) (fun _ => K (.exit 2) (envOf [(0, (.sl 8 v0)), (3, (.int .i64 v3))]) (memOf [])) := by kernel_rfl
theorem t_ddilaw26_small_L34 (v0 : List AV) (v3 : Int) (K : Ex → Env → Mem → Option Bool) : ∀ (n : Nat) (v4 : Int), iterD (den 0 (kret [.t 2] dec_ddilaw26_small) a_ddilaw26_small_L34) n (envOf [(0, (.sl 8 v0)), (3, (.int .i64 v3)), (4, (.int .i64 v4))]) (memOf []) K = ddilaw26_small_L34 v0 v3 (fun _ => K (.exit 2) (envOf [(0, (.sl 8 v0)), (3, (.int .i64 v3))]) (memOf [])) n v4 := by
  rw [ddilaw26_small_L34_eq]
  intro n
  induction n with
  | zero => intros; rfl
  | succ n ih =>
 intro v4
 exact (t_ddilaw26_small_L34_b v0 v3 v4 (itK (den 0 (kret [.t 2] dec_ddilaw26_small) a_ddilaw26_small_L34) n K)).trans (congrArg (fun q => ddilaw26_small_L34_b v0 v3 v4 q (fun _ => K (.exit 2) (envOf [(0, (.sl 8 v0)), (3, (.int .i64 v3))]) (memOf []))) (funext fun v4 => ih v4))
noncomputable def s_ddilaw26_small_L34 : Env → Mem → (Ex → Env → Mem → Option Bool) → Option Bool := fun t m K => chk (fitS0 shp_ddilaw26_small_L34 t m) (cond (hdS shp_ddilaw26_small_L34 t m) (ddilaw26_small_L34 (gL [t 0] 0) (gI [t 3] 0) (fun _ => K (.exit 2) (envOf [(0, (.sl 8 (gL [t 0] 0))), (3, (.int .i64 (gI [t 3] 0)))]) (memOf [])) FU (gI [t 4] 0)) none)
theorem o_ddilaw26_small_L34 : SubOk Tryd.prog (TIof Tryd.prog) 74 0 (kret [.t 2] dec_ddilaw26_small) (.loop (scOf a_ddilaw26_small_L34)) s_ddilaw26_small_L34 :=
  loop_of tabOk follows ok_ddilaw26_small_L34 (er_of (by kernel_rfl)) shp_ddilaw26_small_L34 (fun t m K => congrArg (fun z => chk (fitS0 shp_ddilaw26_small_L34 t m) (cond (hdS shp_ddilaw26_small_L34 t m) z none)) (t_ddilaw26_small_L34 (gL [t 0] 0) (gI [t 3] 0) K FU (gI [t 4] 0)).symm)
def shp_ddilaw26_small_L14 : Shp := ⟨[(0, .one (.l (.sl 8))), (3, .one (.l (.i .i64)))], []⟩
noncomputable def ddilaw26_small_L14_b  (v0 : List AV) (v3 : Int) (next : Int → Option Bool) (kx0 : Unit → Option Bool) : Option Bool :=
  (bif (decide (v3 < (v0.length : Int))) then (ddilaw26_small_J25 v0 v3 (fun v30q1 => (bif v30q1 then (some false) else (ddilaw26_small_L34 v0 v3 (fun (_ : Unit) => (next (IntKind.i64.wrap (v3 + (1 : Int))))) FU (0 : Int))))) else (kx0 ()))
noncomputable def ddilaw26_small_L14_i  (v0 : List AV) (kx0 : Unit → Option Bool) : Nat → Int → Option Bool
  | 0 => (fun _ => none)
  | n + 1 => (fun v3 => ddilaw26_small_L14_b v0 v3 (ddilaw26_small_L14_i v0 kx0 n) kx0)
noncomputable def ddilaw26_small_L14 := hull (ddilaw26_small_L14_i)
theorem ddilaw26_small_L14_eq : ddilaw26_small_L14 = ddilaw26_small_L14_i := hull_eq _
noncomputable def a_ddilaw26_small_L14 : AC Bool :=
  .seq (.seq (.reg [.op ⟨some 9, (.mv (.t 3)), none⟩,
 .op ⟨some 10, (.mv (.t 0)), none⟩,
 .op ⟨some 11, (.len false (.t 10)), none⟩,
 .op ⟨some 12, (.bin .lss (.t 9) (.t 11)), none⟩]) (.cond (.t 12) (.skip) (.seq (.view [.sel [] []]) (.exit 0)))) (.seq (.block 1 (.seq (.seq (.seq (.view [.sel [0, 3] []]) (.sub (scOf a_ddilaw26_small_J25) s_ddilaw26_small_J25)) (.cond (.t 30) (.seq (.reg [.op ⟨some 2, (.mv (.c (.bool false))), none⟩]) (.ret)) (.skip))) (.seq (.reg [.op ⟨some 4, (.mv (.c (.int .i64 0))), none⟩]) (.block 2 (.seq (.view [.sel [0, 3, 4] []]) (.sub (.loop (scOf a_ddilaw26_small_L34)) s_ddilaw26_small_L34)))))) (.seq (.reg [.op ⟨some 13, (.mv (.t 3)), none⟩,
 .op ⟨some 14, (.bin .add (.t 13) (.c (.int .i64 1))), none⟩,
 .op ⟨some 3, (.mv (.t 14)), none⟩]) (.view [.sel [0, 3] []])))
theorem ok_ddilaw26_small_L14 : AC.ok Tryd.prog (TIof Tryd.prog) 74 0 (kret [.t 2] dec_ddilaw26_small) a_ddilaw26_small_L14 := (zA (zA zT (zA zT (zA zT zT))) (zA (zA (zA (zA zT o_ddilaw26_small_J25) (zA (zA zT zT) zT)) (zA zT (zA zT o_ddilaw26_small_L34))) (zA zT zT)))
theorem t_ddilaw26_small_L14_b (v0 : List AV) (v3 : Int) (K : Ex → Env → Mem → Option Bool) : den 0 (kret [.t 2] dec_ddilaw26_small) a_ddilaw26_small_L14 (envOf [(0, (.sl 8 v0)), (3, (.int .i64 v3))]) (memOf []) K = ddilaw26_small_L14_b v0 v3 (fun z_v3 => K .norm (envOf [(0, (.sl 8 v0)), (3, (.int .i64 z_v3))]) (memOf [])) (fun _ => K (.exit 0) (envOf []) (memOf [])) := by kernel_rfl
theorem t_ddilaw26_small_L14 (v0 : List AV) (K : Ex → Env → Mem → Option Bool) : ∀ (n : Nat) (v3 : Int), iterD (den 0 (kret [.t 2] dec_ddilaw26_small) a_ddilaw26_small_L14) n (envOf [(0, (.sl 8 v0)), (3, (.int .i64 v3))]) (memOf []) K = ddilaw26_small_L14 v0 (fun _ => K (.exit 0) (envOf []) (memOf [])) n v3 := by
  rw [ddilaw26_small_L14_eq]
  intro n
  induction n with
  | zero => intros; rfl
  | succ n ih =>
 intro v3
 exact (t_ddilaw26_small_L14_b v0 v3 (itK (den 0 (kret [.t 2] dec_ddilaw26_small) a_ddilaw26_small_L14) n K)).trans (congrArg (fun q => ddilaw26_small_L14_b v0 v3 q (fun _ => K (.exit 0) (envOf []) (memOf []))) (funext fun v3 => ih v3))
noncomputable def s_ddilaw26_small_L14 : Env → Mem → (Ex → Env → Mem → Option Bool) → Option Bool := fun t m K => chk (fitS0 shp_ddilaw26_small_L14 t m) (cond (hdS shp_ddilaw26_small_L14 t m) (ddilaw26_small_L14 (gL [t 0] 0) (fun _ => K (.exit 0) (envOf []) (memOf [])) FU (gI [t 3] 0)) none)
theorem o_ddilaw26_small_L14 : SubOk Tryd.prog (TIof Tryd.prog) 74 0 (kret [.t 2] dec_ddilaw26_small) (.loop (scOf a_ddilaw26_small_L14)) s_ddilaw26_small_L14 :=
  loop_of tabOk follows ok_ddilaw26_small_L14 (er_of (by kernel_rfl)) shp_ddilaw26_small_L14 (fun t m K => congrArg (fun z => chk (fitS0 shp_ddilaw26_small_L14 t m) (cond (hdS shp_ddilaw26_small_L14 t m) z none)) (t_ddilaw26_small_L14 (gL [t 0] 0) K FU (gI [t 3] 0)).symm)
def shp_ddilaw26_small : Shp := ⟨[(0, .one (.l (.sl 8)))], []⟩
noncomputable def ddilaw26_small_i (v0 : List AV) : Option Bool :=
  (bif (decide ((v0.length : Int) > (100 : Int))) then (some false) else (ddilaw26_small_L14 v0 (fun (_ : Unit) => (some true)) FU (0 : Int)))
noncomputable def ddilaw26_small := hull ddilaw26_small_i
theorem ddilaw26_small_eq : ddilaw26_small = ddilaw26_small_i := hull_eq _
noncomputable def a_ddilaw26_small : AC Bool :=
  .seq (.reg [.op ⟨some 2, (.mv (.c (.bool false))), none⟩]) (.seq (.seq (.reg [.op ⟨some 6, (.mv (.t 0)), none⟩,
 .op ⟨some 7, (.len false (.t 6)), none⟩,
 .op ⟨some 8, (.bin .gtr (.t 7) (.c (.int .i64 100))), none⟩]) (.cond (.t 8) (.seq (.reg [.op ⟨some 2, (.mv (.c (.bool false))), none⟩]) (.ret)) (.skip))) (.seq (.seq (.reg [.op ⟨some 3, (.mv (.c (.int .i64 0))), none⟩]) (.block 0 (.seq (.view [.sel [0, 3] []]) (.sub (.loop (scOf a_ddilaw26_small_L14)) s_ddilaw26_small_L14)))) (.seq (.reg [.op ⟨some 2, (.mv (.c (.bool true))), none⟩]) (.ret))))
theorem ok_ddilaw26_small : AC.ok Tryd.prog (TIof Tryd.prog) 74 0 (kret [.t 2] dec_ddilaw26_small) a_ddilaw26_small := (zA zT (zA (zA zT (zA (zA zT zT) zT)) (zA (zA zT (zA zT o_ddilaw26_small_L14)) (zA zT zT))))
theorem t_ddilaw26_small (v0 : List AV) : den 0 (kret [.t 2] dec_ddilaw26_small) a_ddilaw26_small (envOf [(0, (.sl 8 v0))]) (memOf []) (kend (kret [.t 2] dec_ddilaw26_small)) = ddilaw26_small v0 := by
  rw [ddilaw26_small_eq]; kernel_rfl
theorem c_ddilaw26_small : cFn (TIof Tryd.prog) Tryd.f9 = some ⟨74, [.t 2], scOf a_ddilaw26_small⟩ := by kernel_rfl
noncomputable def ent_ddilaw26_small {R : Type} (xs : List AV) (K : AV → Option R) : Option R := chk (fitS shp_ddilaw26_small (entry xs) Mem.none) (oB (ddilaw26_small (gL [(entry xs) 0] 0)) fun r => K (enc_ddilaw26_small r))
theorem k_ddilaw26_small {R : Type} : EntOkB Tryd.prog 9 (ent_ddilaw26_small (R := R)) :=
  ent_of (F := fun xs => ddilaw26_small (gL [(entry xs) 0] 0)) (enc := enc_ddilaw26_small) tabOk follows Tryd.func9 (by kernel_rfl) c_ddilaw26_small (fun z r h => by
 obtain ⟨h1, h2⟩ := cond_some h
 cases h2
 exact (etaRV_eq h1).symm) ok_ddilaw26_small (er_of (by kernel_rfl)) shp_ddilaw26_small (fun xs => t_ddilaw26_small (gL [(entry xs) 0] 0)) (fun xs K r h => by
 unfold ent_ddilaw26_small at h
 exact ⟨(chk_some h).1, oB_some (chk_some h).2⟩)
def dec_ddiref01_isLabel (z : AV) : Option Bool := cond (fitRV (.one .b) z) (some (aB z)) none
def enc_ddiref01_isLabel (r : Bool) : AV := .bool r
def shp_ddiref01_isLabel_J34 : Shp := ⟨[(0, .one (.l .s)), (3, .one (.l (.i .i64))), (4, .one (.l (.i .u8)))], []⟩
noncomputable def ddiref01_isLabel_J34_i  (v0 : List UInt8) (v3 : Int) (v4 : Int) (kn : Bool → Option Bool) : Option Bool :=
  (bif ((decide (v4 ≥ (97 : Int))) && (decide (v4 ≤ (122 : Int)))) then (kn false) else (bif (decide (v4 ≥ (48 : Int))) then (kn (!(((decide (v4 ≤ (57 : Int))) || (v4 == (45 : Int))) || (v4 == (95 : Int))))) else (kn (!((v4 == (45 : Int)) || (v4 == (95 : Int)))))))
noncomputable def ddiref01_isLabel_J34 := hull (ddiref01_isLabel_J34_i)
theorem ddiref01_isLabel_J34_eq : ddiref01_isLabel_J34 = ddiref01_isLabel_J34_i := hull_eq _
noncomputable def a_ddiref01_isLabel_J34 : AC Bool :=
  .seq (.reg [.op ⟨some 24, (.mv (.t 4)), none⟩,
 .op ⟨some 25, (.bin .geq (.t 24) (.c (.int .u8 97))), none⟩,
 .op ⟨some 26, (.mv (.t 25)), none⟩,
 .grp 26 true [⟨some 27, (.mv (.t 4)), (some (26, true))⟩, ⟨some 28, (.bin .leq (.t 27) (.c (.int .u8 122))), (some (26, true))⟩] 29 (.t 28),
 .op ⟨some 30, (.mv (.t 29)), none⟩,
 .op ⟨some 31, (.mv (.t 4)), (some (30, false))⟩,
 .op ⟨some 32, (.bin .geq (.t 31) (.c (.int .u8 48))), (some (30, false))⟩,
 .op ⟨some 33, (.mv (.t 32)), (some (30, false))⟩,
 .op ⟨some 34, (.mv (.t 4)), (some (33, true))⟩,
 .op ⟨some 35, (.bin .leq (.t 34) (.c (.int .u8 57))), (some (33, true))⟩,
 .op ⟨some 36, (.pick (.t 33) (.t 35) (.c (.bool false))), (some (30, false))⟩,
 .op ⟨some 37, (.pick (.t 30) (.c (.bool true)) (.t 36)), none⟩,
 .op ⟨some 38, (.mv (.t 37)), none⟩,
 .grp 38 false [⟨some 39, (.mv (.t 4)), (some (38, false))⟩, ⟨some 40, (.bin .eql (.t 39) (.c (.int .u8 45))), (some (38, false))⟩] 41 (.t 40),
 .op ⟨some 42, (.mv (.t 41)), none⟩,
 .grp 42 false [⟨some 43, (.mv (.t 4)), (some (42, false))⟩, ⟨some 44, (.bin .eql (.t 43) (.c (.int .u8 95))), (some (42, false))⟩] 45 (.t 44),
 .op ⟨some 46, (.un .not (.t 45)), none⟩]) (.view [.sel [0, 3, 46] []])
theorem ok_ddiref01_isLabel_J34 : AC.ok Tryd.prog (TIof Tryd.prog) 47 0 (kret [.t 2] dec_ddiref01_isLabel) a_ddiref01_isLabel_J34 := (zA zT zT)
theorem t_ddiref01_isLabel_J34 (v0 : List UInt8) (v3 : Int) (v4 : Int) (K : Ex → Env → Mem → Option Bool) : den 0 (kret [.t 2] dec_ddiref01_isLabel) a_ddiref01_isLabel_J34 (envOf [(0, (.str v0)), (3, (.int .i64 v3)), (4, (.int .u8 v4))]) (memOf []) K = ddiref01_isLabel_J34 v0 v3 v4 (fun z_v46 => K .norm (envOf [(0, (.str v0)), (3, (.int .i64 v3)), (46, (.bool z_v46))]) (memOf [])) := by
  rw [ddiref01_isLabel_J34_eq]; kernel_rfl
noncomputable def s_ddiref01_isLabel_J34 : Env → Mem → (Ex → Env → Mem → Option Bool) → Option Bool := fun t m K => chk (fitS0 shp_ddiref01_isLabel_J34 t m) (cond (hdS shp_ddiref01_isLabel_J34 t m) (ddiref01_isLabel_J34 (gS [t 0] 0) (gI [t 3] 0) (gI [t 4] 0) (fun z_v46 => K .norm (envOf [(0, (.str (gS [t 0] 0))), (3, (.int .i64 (gI [t 3] 0))), (46, (.bool z_v46))]) (memOf []))) none)
theorem o_ddiref01_isLabel_J34 : SubOk Tryd.prog (TIof Tryd.prog) 47 0 (kret [.t 2] dec_ddiref01_isLabel) (scOf a_ddiref01_isLabel_J34) s_ddiref01_isLabel_J34 :=
  sub_of tabOk follows ok_ddiref01_isLabel_J34 (er_of (by kernel_rfl)) shp_ddiref01_isLabel_J34 (fun t m K => congrArg (fun z => chk (fitS0 shp_ddiref01_isLabel_J34 t m) (cond (hdS shp_ddiref01_isLabel_J34 t m) z none)) (t_ddiref01_isLabel_J34 (gS [t 0] 0) (gI [t 3] 0) (gI [t 4] 0) K).symm)
def shp_ddiref01_isLabel_L22 : Shp := ⟨[(0, .one (.l .s)), (3, .one (.l (.i .i64)))], []⟩
noncomputable def ddiref01_isLabel_L22_b  (v0 : List UInt8) (v3 : Int) (next : Int → Option Bool) (kx0 : Unit → Option Bool) : Option Bool :=
  (bif (decide (v3 < (v0.length : Int))) then (oB (ixB v0 v3) fun c1 => (ddiref01_isLabel_J34 v0 v3 (c1.toNat : Int) (fun v46q2 => (bif v46q2 then (some false) else (next (IntKind.i64.wrap (v3 + (1 : Int)))))))) else (kx0 ()))
noncomputable def ddiref01_isLabel_L22_i  (v0 : List UInt8) (kx0 : Unit → Option Bool) : Nat → Int → Option Bool
  | 0 => (fun _ => none)
  | n + 1 => (fun v3 => ddiref01_isLabel_L22_b v0 v3 (ddiref01_isLabel_L22_i v0 kx0 n) kx0)
noncomputable def ddiref01_isLabel_L22 := hull (ddiref01_isLabel_L22_i)
theorem ddiref01_isLabel_L22_eq : ddiref01_isLabel_L22 = ddiref01_isLabel_L22_i := hull_eq _
noncomputable def a_ddiref01_isLabel_L22 : AC Bool :=
  .seq (.seq (.reg [.op ⟨some 15, (.mv (.t 3)), none⟩,
 .op ⟨some 16, (.mv (.t 0)), none⟩,
 .op ⟨some 17, (.len true (.t 16)), none⟩,
 .op ⟨some 18, (.bin .lss (.t 15) (.t 17)), none⟩]) (.cond (.t 18) (.skip) (.seq (.view [.sel [] []]) (.exit 0)))) (.seq (.block 1 (.seq (.reg [.op ⟨some 21, (.mv (.t 0)), none⟩,
 .op ⟨some 22, (.mv (.t 3)), none⟩,
 .op ⟨some 23, (.ixs (.t 21) (.t 22)), none⟩,
 .op ⟨some 4, (.mv (.t 23)), none⟩]) (.seq (.seq (.view [.sel [0, 3, 4] []]) (.sub (scOf a_ddiref01_isLabel_J34) s_ddiref01_isLabel_J34)) (.cond (.t 46) (.seq (.reg [.op ⟨some 2, (.mv (.c (.bool false))), none⟩]) (.ret)) (.skip))))) (.seq (.reg [.op ⟨some 19, (.mv (.t 3)), none⟩,
 .op ⟨some 20, (.bin .add (.t 19) (.c (.int .i64 1))), none⟩,
 .op ⟨some 3, (.mv (.t 20)), none⟩]) (.view [.sel [0, 3] []])))
theorem ok_ddiref01_isLabel_L22 : AC.ok Tryd.prog (TIof Tryd.prog) 47 0 (kret [.t 2] dec_ddiref01_isLabel) a_ddiref01_isLabel_L22 := (zA (zA zT (zA zT (zA zT zT))) (zA (zA zT (zA (zA zT o_ddiref01_isLabel_J34) (zA (zA zT zT) zT))) (zA zT zT)))
theorem t_ddiref01_isLabel_L22_b (v0 : List UInt8) (v3 : Int) (K : Ex → Env → Mem → Option Bool) : den 0 (kret [.t 2] dec_ddiref01_isLabel) a_ddiref01_isLabel_L22 (envOf [(0, (.str v0)), (3, (.int .i64 v3))]) (memOf []) K = ddiref01_isLabel_L22_b v0 v3 (fun z_v3 => K .norm (envOf [(0, (.str v0)), (3, (.int .i64 z_v3))]) (memOf [])) (fun _ => K (.exit 0) (envOf []) (memOf [])) := by kernel_rfl
theorem t_ddiref01_isLabel_L22 (v0 : List UInt8) (K : Ex → Env → Mem → Option Bool) : ∀ (n : Nat) (v3 : Int), iterD (den 0 (kret [.t 2] dec_ddiref01_isLabel) a_ddiref01_isLabel_L22) n (envOf [(0, (.str v0)), (3, (.int .i64 v3))]) (memOf []) K = ddiref01_isLabel_L22 v0 (fun _ => K (.exit 0) (envOf []) (memOf [])) n v3 := by
  rw [ddiref01_isLabel_L22_eq]
  intro n
  induction n with
  | zero => intros; rfl
  | succ n ih =>
 intro v3
 exact (t_ddiref01_isLabel_L22_b v0 v3 (itK (den 0 (kret [.t 2] dec_ddiref01_isLabel) a_ddiref01_isLabel_L22) n K)).trans (congrArg (fun q => ddiref01_isLabel_L22_b v0 v3 q (fun _ => K (.exit 0) (envOf []) (memOf []))) (funext fun v3 => ih v3))
noncomputable def s_ddiref01_isLabel_L22 : Env → Mem → (Ex → Env → Mem → Option Bool) → Option Bool := fun t m K => chk (fitS0 shp_ddiref01_isLabel_L22 t m) (cond (hdS shp_ddiref01_isLabel_L22 t m) (ddiref01_isLabel_L22 (gS [t 0] 0) (fun _ => K (.exit 0) (envOf []) (memOf [])) FU (gI [t 3] 0)) none)
theorem o_ddiref01_isLabel_L22 : SubOk Tryd.prog (TIof Tryd.prog) 47 0 (kret [.t 2] dec_ddiref01_isLabel) (.loop (scOf a_ddiref01_isLabel_L22)) s_ddiref01_isLabel_L22 :=
  loop_of tabOk follows ok_ddiref01_isLabel_L22 (er_of (by kernel_rfl)) shp_ddiref01_isLabel_L22 (fun t m K => congrArg (fun z => chk (fitS0 shp_ddiref01_isLabel_L22 t m) (cond (hdS shp_ddiref01_isLabel_L22 t m) z none)) (t_ddiref01_isLabel_L22 (gS [t 0] 0) K FU (gI [t 3] 0)).symm)
def shp_ddiref01_isLabel : Shp := ⟨[(0, .one (.l .s))], []⟩
noncomputable def ddiref01_isLabel_i (v0 : List UInt8) : Option Bool :=
  (bif (v0 == ([42] : List UInt8)) then (some true) else (bif ((decide ((v0.length : Int) < (1 : Int))) || (decide ((v0.length : Int) > (63 : Int)))) then (some false) else (ddiref01_isLabel_L22 v0 (fun (_ : Unit) => (some true)) FU (0 : Int))))
noncomputable def ddiref01_isLabel := hull ddiref01_isLabel_i
theorem ddiref01_isLabel_eq : ddiref01_isLabel = ddiref01_isLabel_i := hull_eq _
noncomputable def a_ddiref01_isLabel : AC Bool :=
  .seq (.reg [.op ⟨some 2, (.mv (.c (.bool false))), none⟩]) (.seq (.seq (.reg [.op ⟨some 5, (.mv (.t 0)), none⟩,
 .op ⟨some 6, (.bin .eql (.t 5) (.c (.str [42]))), none⟩]) (.cond (.t 6) (.seq (.reg [.op ⟨some 2, (.mv (.c (.bool true))), none⟩]) (.ret)) (.skip))) (.seq (.seq (.reg [.op ⟨some 7, (.mv (.t 0)), none⟩,
 .op ⟨some 8, (.len true (.t 7)), none⟩,
 .op ⟨some 9, (.bin .lss (.t 8) (.c (.int .i64 1))), none⟩,
 .op ⟨some 10, (.mv (.t 9)), none⟩,
 .grp 10 false [⟨some 11, (.mv (.t 0)), (some (10, false))⟩, ⟨some 12, (.len true (.t 11)), (some (10, false))⟩, ⟨some 13, (.bin .gtr (.t 12) (.c (.int .i64 63))), (some (10, false))⟩] 14 (.t 13)]) (.cond (.t 14) (.seq (.reg [.op ⟨some 2, (.mv (.c (.bool false))), none⟩]) (.ret)) (.skip))) (.seq (.seq (.reg [.op ⟨some 3, (.mv (.c (.int .i64 0))), none⟩]) (.block 0 (.seq (.view [.sel [0, 3] []]) (.sub (.loop (scOf a_ddiref01_isLabel_L22)) s_ddiref01_isLabel_L22)))) (.seq (.reg [.op ⟨some 2, (.mv (.c (.bool true))), none⟩]) (.ret)))))
theorem ok_ddiref01_isLabel : AC.ok Tryd.prog (TIof Tryd.prog) 47 0 (kret [.t 2] dec_ddiref01_isLabel) a_ddiref01_isLabel := (zA zT (zA (zA zT (zA (zA zT zT) zT)) (zA (zA zT (zA (zA zT zT) zT)) (zA (zA zT (zA zT o_ddiref01_isLabel_L22)) (zA zT zT)))))
theorem t_ddiref01_isLabel (v0 : List UInt8) : den 0 (kret [.t 2] dec_ddiref01_isLabel) a_ddiref01_isLabel (envOf [(0, (.str v0))]) (memOf []) (kend (kret [.t 2] dec_ddiref01_isLabel)) = ddiref01_isLabel v0 := by
  rw [ddiref01_isLabel_eq]; kernel_rfl
theorem c_ddiref01_isLabel : cFn (TIof Tryd.prog) Tryd.f54 = some ⟨47, [.t 2], scOf a_ddiref01_isLabel⟩ := by kernel_rfl
noncomputable def ent_ddiref01_isLabel {R : Type} (xs : List AV) (K : AV → Option R) : Option R := chk (fitS shp_ddiref01_isLabel (entry xs) Mem.none) (oB (ddiref01_isLabel (gS [(entry xs) 0] 0)) fun r => K (enc_ddiref01_isLabel r))
theorem k_ddiref01_isLabel {R : Type} : EntOkB Tryd.prog 54 (ent_ddiref01_isLabel (R := R)) :=
  ent_of (F := fun xs => ddiref01_isLabel (gS [(entry xs) 0] 0)) (enc := enc_ddiref01_isLabel) tabOk follows Tryd.func54 (by kernel_rfl) c_ddiref01_isLabel (fun z r h => by
 obtain ⟨h1, h2⟩ := cond_some h
 cases h2
 exact (etaRV_eq h1).symm) ok_ddiref01_isLabel (er_of (by kernel_rfl)) shp_ddiref01_isLabel (fun xs => t_ddiref01_isLabel (gS [(entry xs) 0] 0)) (fun xs K r h => by
 unfold ent_ddiref01_isLabel at h
 exact ⟨(chk_some h).1, oB_some (chk_some h).2⟩)
def dec_ddiref01_split (z : AV) : Option ((List AV) × Bool) := cond (fitTup [(.one (.fr true 1)), (.one .b)] z) (some (aL (gC (tpL z) 0), aB (gC (tpL z) 1))) none
def enc_ddiref01_split (r : (List AV) × Bool) : AV := .tup [.fr true 1 r.1, .bool r.2]
def shp_ddiref01_split_J12 : Shp := ⟨[(0, .one (.l .s))], []⟩
noncomputable def ddiref01_split_J12_i  (v0 : List UInt8) (kn : Bool → Option ((List AV) × Bool)) : Option ((List AV) × Bool) :=
  (bif ((decide ((v0.length : Int) < (2 : Int))) || (decide ((v0.length : Int) > (254 : Int)))) then (kn true) else (oB (ixB v0 (IntKind.i64.wrap ((v0.length : Int) - (1 : Int)))) fun c1 => (kn ((c1.toNat : Int) != (46 : Int)))))
noncomputable def ddiref01_split_J12 := hull (ddiref01_split_J12_i)
theorem ddiref01_split_J12_eq : ddiref01_split_J12 = ddiref01_split_J12_i := hull_eq _
noncomputable def a_ddiref01_split_J12 : AC ((List AV) × Bool) :=
  .seq (.reg [.op ⟨some 10, (.mv (.t 0)), none⟩,
 .op ⟨some 11, (.len true (.t 10)), none⟩,
 .op ⟨some 12, (.bin .lss (.t 11) (.c (.int .i64 2))), none⟩,
 .op ⟨some 13, (.mv (.t 12)), none⟩,
 .grp 13 false [⟨some 14, (.mv (.t 0)), (some (13, false))⟩, ⟨some 15, (.len true (.t 14)), (some (13, false))⟩, ⟨some 16, (.bin .gtr (.t 15) (.c (.int .i64 254))), (some (13, false))⟩] 17 (.t 16),
 .op ⟨some 18, (.mv (.t 17)), none⟩,
 .op ⟨some 19, (.mv (.t 0)), (some (18, false))⟩,
 .op ⟨some 20, (.mv (.t 0)), (some (18, false))⟩,
 .op ⟨some 21, (.len true (.t 20)), (some (18, false))⟩,
 .op ⟨some 22, (.bin .sub (.t 21) (.c (.int .i64 1))), (some (18, false))⟩,
 .op ⟨some 23, (.ixs (.t 19) (.t 22)), (some (18, false))⟩,
 .op ⟨some 24, (.bin .neq (.t 23) (.c (.int .u8 46))), (some (18, false))⟩,
 .op ⟨some 25, (.pick (.t 18) (.c (.bool true)) (.t 24)), none⟩]) (.view [.sel [0, 25] []])
theorem ok_ddiref01_split_J12 : AC.ok Tryd.prog (TIof Tryd.prog) 58 0 (kret [.t 2, .t 3] dec_ddiref01_split) a_ddiref01_split_J12 := (zA zT zT)
theorem t_ddiref01_split_J12 (v0 : List UInt8) (K : Ex → Env → Mem → Option ((List AV) × Bool)) : den 0 (kret [.t 2, .t 3] dec_ddiref01_split) a_ddiref01_split_J12 (envOf [(0, (.str v0))]) (memOf []) K = ddiref01_split_J12 v0 (fun z_v25 => K .norm (envOf [(0, (.str v0)), (25, (.bool z_v25))]) (memOf [])) := by
  rw [ddiref01_split_J12_eq]; kernel_rfl
noncomputable def s_ddiref01_split_J12 : Env → Mem → (Ex → Env → Mem → Option ((List AV) × Bool)) → Option ((List AV) × Bool) := fun t m K => chk (fitS0 shp_ddiref01_split_J12 t m) (cond (hdS shp_ddiref01_split_J12 t m) (ddiref01_split_J12 (gS [t 0] 0) (fun z_v25 => K .norm (envOf [(0, (.str (gS [t 0] 0))), (25, (.bool z_v25))]) (memOf []))) none)
theorem o_ddiref01_split_J12 : SubOk Tryd.prog (TIof Tryd.prog) 58 0 (kret [.t 2, .t 3] dec_ddiref01_split) (scOf a_ddiref01_split_J12) s_ddiref01_split_J12 :=
  sub_of tabOk follows ok_ddiref01_split_J12 (er_of (by kernel_rfl)) shp_ddiref01_split_J12 (fun t m K => congrArg (fun z => chk (fitS0 shp_ddiref01_split_J12 t m) (cond (hdS shp_ddiref01_split_J12 t m) z none)) (t_ddiref01_split_J12 (gS [t 0] 0) K).symm)
def shp_ddiref01_split_J45 : Shp := ⟨[(0, .one (.l .s)), (4, .one (.own 0)), (5, .one (.l (.i .i64))), (6, .one (.l (.i .i64))), (7, .one (.l .s))], [.arr true 1]⟩
noncomputable def ddiref01_split_J45_i  (v0 : List UInt8) (v5 : Int) (v6 : Int) (v7 : List UInt8) (a0 : List AV) (kn : Bool → Option ((List AV) × Bool)) : Option ((List AV) × Bool) :=
  (oB (ddiref01_isLabel v7) fun r1 => (bif (!r1) then (kn true) else (bif (v7 == ([42] : List UInt8)) then (kn (decide (v5 > (0 : Int)))) else (kn false))))
noncomputable def ddiref01_split_J45 := hull (ddiref01_split_J45_i)
theorem ddiref01_split_J45_eq : ddiref01_split_J45 = ddiref01_split_J45_i := hull_eq _
noncomputable def a_ddiref01_split_J45 : AC ((List AV) × Bool) :=
  .seq (.reg [.op ⟨some 40, (.mv (.t 7)), none⟩,
 .call ⟨some 41, (.call 54 [.t 40]), none⟩ 54 ent_ddiref01_isLabel,
 .op ⟨some 42, (.un .not (.t 41)), none⟩,
 .op ⟨some 43, (.mv (.t 42)), none⟩,
 .op ⟨some 44, (.mv (.t 7)), (some (43, false))⟩,
 .op ⟨some 45, (.bin .eql (.t 44) (.c (.str [42]))), (some (43, false))⟩,
 .op ⟨some 46, (.mv (.t 45)), (some (43, false))⟩,
 .op ⟨some 47, (.mv (.t 5)), (some (46, true))⟩,
 .op ⟨some 48, (.bin .gtr (.t 47) (.c (.int .i64 0))), (some (46, true))⟩,
 .op ⟨some 49, (.pick (.t 46) (.t 48) (.c (.bool false))), (some (43, false))⟩,
 .op ⟨some 50, (.pick (.t 43) (.c (.bool true)) (.t 49)), none⟩]) (.view [.sel [0, 4, 6, 7, 50] [0]])
theorem ok_ddiref01_split_J45 : AC.ok Tryd.prog (TIof Tryd.prog) 58 0 (kret [.t 2, .t 3] dec_ddiref01_split) a_ddiref01_split_J45 := (zA (zA (EntOkB.ok k_ddiref01_isLabel) zT) zT)
theorem t_ddiref01_split_J45 (v0 : List UInt8) (v5 : Int) (v6 : Int) (v7 : List UInt8) (a0 : List AV) (K : Ex → Env → Mem → Option ((List AV) × Bool)) : den 0 (kret [.t 2, .t 3] dec_ddiref01_split) a_ddiref01_split_J45 (envOf [(0, (.str v0)), (4, (.own 0 a0.length)), (5, (.int .i64 v5)), (6, (.int .i64 v6)), (7, (.str v7))]) (memOf [(some (.arr true 1 a0))]) K = ddiref01_split_J45 v0 v5 v6 v7 a0 (fun z_v50 => K .norm (envOf [(0, (.str v0)), (4, (.own 0 a0.length)), (6, (.int .i64 v6)), (7, (.str v7)), (50, (.bool z_v50))]) (memOf [(some (.arr true 1 a0))])) := by
  rw [ddiref01_split_J45_eq]; kernel_rfl
noncomputable def s_ddiref01_split_J45 : Env → Mem → (Ex → Env → Mem → Option ((List AV) × Bool)) → Option ((List AV) × Bool) := fun t m K => chk (fitS0 shp_ddiref01_split_J45 t m) (cond (hdS shp_ddiref01_split_J45 t m) (ddiref01_split_J45 (gS [t 0] 0) (gI [t 5] 0) (gI [t 6] 0) (gS [t 7] 0) (arL (m.s 0)) (fun z_v50 => K .norm (envOf [(0, (.str (gS [t 0] 0))), (4, (.own 0 ((arL (m.s 0)).length))), (6, (.int .i64 (gI [t 6] 0))), (7, (.str (gS [t 7] 0))), (50, (.bool z_v50))]) (memOf [(some (.arr true 1 (arL (m.s 0))))]))) none)
theorem o_ddiref01_split_J45 : SubOk Tryd.prog (TIof Tryd.prog) 58 0 (kret [.t 2, .t 3] dec_ddiref01_split) (scOf a_ddiref01_split_J45) s_ddiref01_split_J45 :=
  sub_of tabOk follows ok_ddiref01_split_J45 (er_of (by kernel_rfl)) shp_ddiref01_split_J45 (fun t m K => congrArg (fun z => chk (fitS0 shp_ddiref01_split_J45 t m) (cond (hdS shp_ddiref01_split_J45 t m) z none)) (t_ddiref01_split_J45 (gS [t 0] 0) (gI [t 5] 0) (gI [t 6] 0) (gS [t 7] 0) (arL (m.s 0)) K).symm)
def shp_ddiref01_split_L26 : Shp := ⟨[(0, .one (.l .s)), (4, .one (.own 0)), (5, .one (.l (.i .i64))), (6, .one (.l (.i .i64)))], [.arr true 1]⟩
noncomputable def ddiref01_split_L26_b  (v0 : List UInt8) (v5 : Int) (v6 : Int) (a0 : List AV) (next : Int → Int → (List AV) → Option ((List AV) × Bool)) (kx0 : (List AV) → Option ((List AV) × Bool)) : Option ((List AV) × Bool) :=
  (bif (decide (v6 < (v0.length : Int))) then (oB (ixB v0 v6) fun c1 => (bif ((c1.toNat : Int) != (46 : Int)) then (next v5 (IntKind.i64.wrap (v6 + (1 : Int))) a0) else (oB (cutI v0 (some v5) (some v6)) fun s2 => (bif (hd a0 (a0.length) && true) then (ddiref01_split_J45 v0 v5 v6 s2 a0 (fun v50q3 => (bif v50q3 then (bif hd ([] : List AV) (([] : List AV).length) then (some (([] : List AV), false)) else none) else (bif hd a0 a0.length then (bif hd ([(.str s2)] : List AV) (([(.str s2)] : List AV).length) then (bif decide ((a0.length + ([(.str s2)] : List AV).length) * 16 ≤ 140737488355328) then (next (IntKind.i64.wrap (v6 + (1 : Int))) (IntKind.i64.wrap (v6 + (1 : Int))) (a0 ++ ([(.str s2)] : List AV))) else none) else none) else none)))) else none)))) else (kx0 a0))
noncomputable def ddiref01_split_L26_i  (v0 : List UInt8) (kx0 : (List AV) → Option ((List AV) × Bool)) : Nat → Int → Int → (List AV) → Option ((List AV) × Bool)
  | 0 => (fun _ _ _ => none)
  | n + 1 => (fun v5 v6 a0 => ddiref01_split_L26_b v0 v5 v6 a0 (ddiref01_split_L26_i v0 kx0 n) kx0)
noncomputable def ddiref01_split_L26 := hull (ddiref01_split_L26_i)
theorem ddiref01_split_L26_eq : ddiref01_split_L26 = ddiref01_split_L26_i := hull_eq _
noncomputable def a_ddiref01_split_L26 : AC ((List AV) × Bool) :=
  .seq (.seq (.reg [.op ⟨some 26, (.mv (.t 6)), none⟩,
 .op ⟨some 27, (.mv (.t 0)), none⟩,
 .op ⟨some 28, (.len true (.t 27)), none⟩,
 .op ⟨some 29, (.bin .lss (.t 26) (.t 28)), none⟩]) (.cond (.t 29) (.skip) (.seq (.view [.sel [4] [0]]) (.exit 0)))) (.seq (.block 1 (.seq (.seq (.reg [.op ⟨some 32, (.mv (.t 0)), none⟩,
 .op ⟨some 33, (.mv (.t 6)), none⟩,
 .op ⟨some 34, (.ixs (.t 32) (.t 33)), none⟩,
 .op ⟨some 35, (.bin .neq (.t 34) (.c (.int .u8 46))), none⟩]) (.cond (.t 35) (.exit 1) (.skip))) (.seq (.reg [.op ⟨some 36, (.mv (.t 0)), none⟩,
 .op ⟨some 37, (.mv (.t 5)), none⟩,
 .op ⟨some 38, (.mv (.t 6)), none⟩,
 .op ⟨some 39, (.slcs (.t 36) (some (.t 37)) (some (.t 38))), none⟩,
 .op ⟨some 7, (.mv (.t 39)), none⟩]) (.seq (.seq (.seq (.view [.sel [0, 4, 5, 6, 7] [0]]) (.sub (scOf a_ddiref01_split_J45) s_ddiref01_split_J45)) (.cond (.t 50) (.seq (.reg [.op ⟨some 2, (.mv (.c .nils)), none⟩,
 .op ⟨some 3, (.mv (.c (.bool false))), none⟩]) (.seq (.view [.own 2 1]) (.ret))) (.skip))) (.seq (.reg [.op ⟨some 51, (.mv (.t 4)), none⟩,
 .op ⟨some 52, (.mv (.t 7)), none⟩,
 .op ⟨some 53, (.bsl 1 [.t 52]), none⟩,
 .op ⟨some 54, (.app 1 16 (.t 51) (.t 53)), none⟩,
 .op ⟨some 4, (.mv (.t 54)), none⟩]) (.reg [.op ⟨some 55, (.mv (.t 6)), none⟩,
 .op ⟨some 56, (.bin .add (.t 55) (.c (.int .i64 1))), none⟩,
 .op ⟨some 5, (.mv (.t 56)), none⟩])))))) (.seq (.reg [.op ⟨some 30, (.mv (.t 6)), none⟩,
 .op ⟨some 31, (.bin .add (.t 30) (.c (.int .i64 1))), none⟩,
 .op ⟨some 6, (.mv (.t 31)), none⟩]) (.view [.sel [0, 4, 5, 6] [0]])))
theorem ok_ddiref01_split_L26 : AC.ok Tryd.prog (TIof Tryd.prog) 58 0 (kret [.t 2, .t 3] dec_ddiref01_split) a_ddiref01_split_L26 := (zA (zA zT (zA zT (zA zT zT))) (zA (zA (zA zT (zA zT zT)) (zA zT (zA (zA (zA zT o_ddiref01_split_J45) (zA (zA zT (zA zT zT)) zT)) (zA zT zT)))) (zA zT zT)))
theorem t_ddiref01_split_L26_b (v0 : List UInt8) (v5 : Int) (v6 : Int) (a0 : List AV) (K : Ex → Env → Mem → Option ((List AV) × Bool)) : den 0 (kret [.t 2, .t 3] dec_ddiref01_split) a_ddiref01_split_L26 (envOf [(0, (.str v0)), (4, (.own 0 a0.length)), (5, (.int .i64 v5)), (6, (.int .i64 v6))]) (memOf [(some (.arr true 1 a0))]) K = ddiref01_split_L26_b v0 v5 v6 a0 (fun z_v5 z_v6 z_a0 => K .norm (envOf [(0, (.str v0)), (4, (.own 0 z_a0.length)), (5, (.int .i64 z_v5)), (6, (.int .i64 z_v6))]) (memOf [(some (.arr true 1 z_a0))])) (fun z_a0 => K (.exit 0) (envOf [(4, (.own 0 z_a0.length))]) (memOf [(some (.arr true 1 z_a0))])) := by kernel_rfl
theorem t_ddiref01_split_L26 (v0 : List UInt8) (K : Ex → Env → Mem → Option ((List AV) × Bool)) : ∀ (n : Nat) (v5 : Int) (v6 : Int) (a0 : List AV), iterD (den 0 (kret [.t 2, .t 3] dec_ddiref01_split) a_ddiref01_split_L26) n (envOf [(0, (.str v0)), (4, (.own 0 a0.length)), (5, (.int .i64 v5)), (6, (.int .i64 v6))]) (memOf [(some (.arr true 1 a0))]) K = ddiref01_split_L26 v0 (fun z_a0 => K (.exit 0) (envOf [(4, (.own 0 z_a0.length))]) (memOf [(some (.arr true 1 z_a0))])) n v5 v6 a0 := by
  rw [ddiref01_split_L26_eq]
  intro n
  induction n with
  | zero => intros; rfl
  | succ n ih =>
 intro v5 v6 a0
 exact (t_ddiref01_split_L26_b v0 v5 v6 a0 (itK (den 0 (kret [.t 2, .t 3] dec_ddiref01_split) a_ddiref01_split_L26) n K)).trans (congrArg (fun q => ddiref01_split_L26_b v0 v5 v6 a0 q (fun z_a0 => K (.exit 0) (envOf [(4, (.own 0 z_a0.length))]) (memOf [(some (.arr true 1 z_a0))]))) (funext fun v5 => funext fun v6 => funext fun a0 => ih v5 v6 a0))
noncomputable def s_ddiref01_split_L26 : Env → Mem → (Ex → Env → Mem → Option ((List AV) × Bool)) → Option ((List AV) × Bool) := fun t m K => chk (fitS0 shp_ddiref01_split_L26 t m) (cond (hdS shp_ddiref01_split_L26 t m) (ddiref01_split_L26 (gS [t 0] 0) (fun z_a0 => K (.exit 0) (envOf [(4, (.own 0 z_a0.length))]) (memOf [(some (.arr true 1 z_a0))])) FU (gI [t 5] 0) (gI [t 6] 0) (arL (m.s 0))) none)
theorem o_ddiref01_split_L26 : SubOk Tryd.prog (TIof Tryd.prog) 58 0 (kret [.t 2, .t 3] dec_ddiref01_split) (.loop (scOf a_ddiref01_split_L26)) s_ddiref01_split_L26 :=
  loop_of tabOk follows ok_ddiref01_split_L26 (er_of (by kernel_rfl)) shp_ddiref01_split_L26 (fun t m K => congrArg (fun z => chk (fitS0 shp_ddiref01_split_L26 t m) (cond (hdS shp_ddiref01_split_L26 t m) z none)) (t_ddiref01_split_L26 (gS [t 0] 0) K FU (gI [t 5] 0) (gI [t 6] 0) (arL (m.s 0))).symm)
def shp_ddiref01_split : Shp := ⟨[(0, .one (.l .s))], []⟩
noncomputable def ddiref01_split_i (v0 : List UInt8) : Option ((List AV) × Bool) :=
  (bif (v0 == ([46] : List UInt8)) then (bif hd ([] : List AV) (([] : List AV).length) then (some (([] : List AV), true)) else none) else (ddiref01_split_J12 v0 (fun v25q1 => (bif v25q1 then (bif hd ([] : List AV) (([] : List AV).length) then (some (([] : List AV), false)) else none) else (bif (hd ([] : List AV) (([] : List AV).length) && true) then (ddiref01_split_L26 v0 (fun a0q2 => (bif hd a0q2 a0q2.length then (some (a0q2, true)) else none)) FU (0 : Int) (0 : Int) ([] : List AV)) else none)))))
noncomputable def ddiref01_split := hull ddiref01_split_i
theorem ddiref01_split_eq : ddiref01_split = ddiref01_split_i := hull_eq _
noncomputable def a_ddiref01_split : AC ((List AV) × Bool) :=
  .seq (.reg [.op ⟨some 2, (.mv (.c .nils)), none⟩,
 .op ⟨some 3, (.mv (.c (.bool false))), none⟩]) (.seq (.seq (.reg [.op ⟨some 8, (.mv (.t 0)), none⟩,
 .op ⟨some 9, (.bin .eql (.t 8) (.c (.str [46]))), none⟩]) (.cond (.t 9) (.seq (.reg [.op ⟨some 2, (.mv (.c .nils)), none⟩,
 .op ⟨some 3, (.mv (.c (.bool true))), none⟩]) (.seq (.view [.own 2 1]) (.ret))) (.skip))) (.seq (.seq (.seq (.view [.sel [0] []]) (.sub (scOf a_ddiref01_split_J12) s_ddiref01_split_J12)) (.cond (.t 25) (.seq (.reg [.op ⟨some 2, (.mv (.c .nils)), none⟩,
 .op ⟨some 3, (.mv (.c (.bool false))), none⟩]) (.seq (.view [.own 2 1]) (.ret))) (.skip))) (.seq (.reg [.op ⟨some 4, (.mv (.c .nils)), none⟩]) (.seq (.reg [.op ⟨some 5, (.mv (.c (.int .i64 0))), none⟩]) (.seq (.seq (.reg [.op ⟨some 6, (.mv (.c (.int .i64 0))), none⟩]) (.block 0 (.seq (.view [.own 4 1, .sel [0, 4, 5, 6] [0]]) (.sub (.loop (scOf a_ddiref01_split_L26)) s_ddiref01_split_L26)))) (.seq (.reg [.op ⟨some 57, (.mv (.t 4)), none⟩,
 .op ⟨some 2, (.mv (.t 57)), none⟩,
 .op ⟨some 3, (.mv (.c (.bool true))), none⟩]) (.ret)))))))
theorem ok_ddiref01_split : AC.ok Tryd.prog (TIof Tryd.prog) 58 0 (kret [.t 2, .t 3] dec_ddiref01_split) a_ddiref01_split := (zA zT (zA (zA zT (zA (zA zT (zA zT zT)) zT)) (zA (zA (zA zT o_ddiref01_split_J12) (zA (zA zT (zA zT zT)) zT)) (zA zT (zA zT (zA (zA zT (zA zT o_ddiref01_split_L26)) (zA zT zT)))))))
theorem t_ddiref01_split (v0 : List UInt8) : den 0 (kret [.t 2, .t 3] dec_ddiref01_split) a_ddiref01_split (envOf [(0, (.str v0))]) (memOf []) (kend (kret [.t 2, .t 3] dec_ddiref01_split)) = ddiref01_split v0 := by
  rw [ddiref01_split_eq]; kernel_rfl
theorem c_ddiref01_split : cFn (TIof Tryd.prog) Tryd.f34 = some ⟨58, [.t 2, .t 3], scOf a_ddiref01_split⟩ := by kernel_rfl
noncomputable def ent_ddiref01_split {R : Type} (xs : List AV) (K : AV → Option R) : Option R := chk (fitS shp_ddiref01_split (entry xs) Mem.none) (oB (ddiref01_split (gS [(entry xs) 0] 0)) fun r => K (enc_ddiref01_split r))
theorem k_ddiref01_split {R : Type} : EntOkB Tryd.prog 34 (ent_ddiref01_split (R := R)) :=
  ent_of (F := fun xs => ddiref01_split (gS [(entry xs) 0] 0)) (enc := enc_ddiref01_split) tabOk follows Tryd.func34 (by kernel_rfl) c_ddiref01_split (fun z r h => by
 obtain ⟨h1, h2⟩ := cond_some h
 cases h2
 exact (fitTup_eq h1).symm) ok_ddiref01_split (er_of (by kernel_rfl)) shp_ddiref01_split (fun xs => t_ddiref01_split (gS [(entry xs) 0] 0)) (fun xs K r h => by
 unfold ent_ddiref01_split at h
 exact ⟨(chk_some h).1, oB_some (chk_some h).2⟩)
def dec_ddiref01_Valid (z : AV) : Option Bool := cond (fitRV (.one .b) z) (some (aB z)) none
def enc_ddiref01_Valid (r : Bool) : AV := .bool r
def shp_ddiref01_Valid : Shp := ⟨[(0, .one (.l .s))], []⟩
noncomputable def ddiref01_Valid_i (v0 : List UInt8) : Option Bool :=
  (oB (ddiref01_split v0) fun r1 => (some r1.2))
noncomputable def ddiref01_Valid := hull ddiref01_Valid_i
theorem ddiref01_Valid_eq : ddiref01_Valid = ddiref01_Valid_i := hull_eq _
noncomputable def a_ddiref01_Valid : AC Bool :=
  .seq (.reg [.op ⟨some 2, (.mv (.c (.bool false))), none⟩]) (.seq (.reg [.op ⟨some 6, (.mv (.t 0)), none⟩,
 .callc ⟨some 7, (.call 34 [.t 6]), none⟩ 34 ent_ddiref01_split,
 .op ⟨some 5, (.mv (.t 7)), none⟩,
 .op ⟨some 8, (.ext (.t 5) 0), none⟩,
 .op ⟨some 9, (.ext (.t 5) 1), none⟩,
 .op ⟨some 3, (.mv (.t 8)), none⟩,
 .op ⟨some 4, (.mv (.t 9)), none⟩]) (.seq (.reg [.op ⟨some 10, (.mv (.t 4)), none⟩,
 .op ⟨some 2, (.mv (.t 10)), none⟩]) (.ret)))
theorem ok_ddiref01_Valid : AC.ok Tryd.prog (TIof Tryd.prog) 11 0 (kret [.t 2] dec_ddiref01_Valid) a_ddiref01_Valid := (zA zT (zA (zA (EntOkB.ok k_ddiref01_split) zT) (zA zT zT)))
theorem t_ddiref01_Valid (v0 : List UInt8) : den 0 (kret [.t 2] dec_ddiref01_Valid) a_ddiref01_Valid (envOf [(0, (.str v0))]) (memOf []) (kend (kret [.t 2] dec_ddiref01_Valid)) = ddiref01_Valid v0 := by
  rw [ddiref01_Valid_eq]; kernel_rfl
theorem c_ddiref01_Valid : cFn (TIof Tryd.prog) Tryd.f45 = some ⟨11, [.t 2], scOf a_ddiref01_Valid⟩ := by kernel_rfl
noncomputable def ent_ddiref01_Valid {R : Type} (xs : List AV) (K : AV → Option R) : Option R := chk (fitS shp_ddiref01_Valid (entry xs) Mem.none) (oB (ddiref01_Valid (gS [(entry xs) 0] 0)) fun r => K (enc_ddiref01_Valid r))
theorem k_ddiref01_Valid {R : Type} : EntOkB Tryd.prog 45 (ent_ddiref01_Valid (R := R)) :=
  ent_of (F := fun xs => ddiref01_Valid (gS [(entry xs) 0] 0)) (enc := enc_ddiref01_Valid) tabOk follows Tryd.func45 (by kernel_rfl) c_ddiref01_Valid (fun z r h => by
 obtain ⟨h1, h2⟩ := cond_some h
 cases h2
 exact (etaRV_eq h1).symm) ok_ddiref01_Valid (er_of (by kernel_rfl)) shp_ddiref01_Valid (fun xs => t_ddiref01_Valid (gS [(entry xs) 0] 0)) (fun xs K r h => by
 unfold ent_ddiref01_Valid at h
 exact ⟨(chk_some h).1, oB_some (chk_some h).2⟩)
def dec_ddiref02_Valid (z : AV) : Option Bool := cond (fitRV (.one .b) z) (some (aB z)) none
def enc_ddiref02_Valid (r : Bool) : AV := .bool r
def shp_ddiref02_Valid : Shp := ⟨[(0, .st [(.l .b), (.l (.i .u64)), (.l (.i .u64))])], []⟩
noncomputable def ddiref02_Valid_i (v0_0 : Bool) (v0_1 : Int) (v0_2 : Int) : Option Bool :=
  (bif v0_0 then (some true) else (bif (v0_1 == (0 : Int)) then (some (decide (v0_2 < (4294967296 : Int)))) else (some false)))
noncomputable def ddiref02_Valid := hull ddiref02_Valid_i
theorem ddiref02_Valid_eq : ddiref02_Valid = ddiref02_Valid_i := hull_eq _
noncomputable def a_ddiref02_Valid : AC Bool :=
  .seq (.reg [.op ⟨some 1, (.box (.t 0)), none⟩,
 .op ⟨some 2, (.mv (.c (.bool false))), none⟩]) (.seq (.reg [.op ⟨some 3, (.fa 0 (.t 1)), none⟩,
 .op ⟨some 4, (.load false 1 (.t 3)), none⟩,
 .op ⟨some 5, (.mv (.t 4)), none⟩,
 .op ⟨some 6, (.fa 1 (.t 1)), (some (5, false))⟩,
 .op ⟨some 7, (.load false 1 (.t 6)), (some (5, false))⟩,
 .op ⟨some 8, (.bin .eql (.t 7) (.c (.int .u64 0))), (some (5, false))⟩,
 .op ⟨some 9, (.mv (.t 8)), (some (5, false))⟩,
 .op ⟨some 10, (.fa 2 (.t 1)), (some (9, true))⟩,
 .op ⟨some 11, (.load false 1 (.t 10)), (some (9, true))⟩,
 .op ⟨some 12, (.bin .lss (.t 11) (.c (.int .u64 4294967296))), (some (9, true))⟩,
 .op ⟨some 13, (.pick (.t 9) (.t 12) (.c (.bool false))), (some (5, false))⟩,
 .op ⟨some 14, (.pick (.t 5) (.c (.bool true)) (.t 13)), none⟩,
 .op ⟨some 2, (.mv (.t 14)), none⟩]) (.ret))
theorem ok_ddiref02_Valid : AC.ok Tryd.prog (TIof Tryd.prog) 15 0 (kret [.t 2] dec_ddiref02_Valid) a_ddiref02_Valid := (zA zT (zA zT zT))
theorem t_ddiref02_Valid (v0_0 : Bool) (v0_1 : Int) (v0_2 : Int) : den 0 (kret [.t 2] dec_ddiref02_Valid) a_ddiref02_Valid (envOf [(0, (.agg [(.bool v0_0), (.int .u64 v0_1), (.int .u64 v0_2)]))]) (memOf []) (kend (kret [.t 2] dec_ddiref02_Valid)) = ddiref02_Valid v0_0 v0_1 v0_2 := by
  rw [ddiref02_Valid_eq]; kernel_rfl
theorem c_ddiref02_Valid : cFn (TIof Tryd.prog) Tryd.f40 = some ⟨15, [.t 2], scOf a_ddiref02_Valid⟩ := by kernel_rfl
noncomputable def ent_ddiref02_Valid {R : Type} (xs : List AV) (K : AV → Option R) : Option R := chk (fitS shp_ddiref02_Valid (entry xs) Mem.none) (oB (ddiref02_Valid (gB ((entry xs) 0).cells 0) (gI ((entry xs) 0).cells 1) (gI ((entry xs) 0).cells 2)) fun r => K (enc_ddiref02_Valid r))
theorem k_ddiref02_Valid {R : Type} : EntOkB Tryd.prog 40 (ent_ddiref02_Valid (R := R)) :=
  ent_of (F := fun xs => ddiref02_Valid (gB ((entry xs) 0).cells 0) (gI ((entry xs) 0).cells 1) (gI ((entry xs) 0).cells 2)) (enc := enc_ddiref02_Valid) tabOk follows Tryd.func40 (by kernel_rfl) c_ddiref02_Valid (fun z r h => by
 obtain ⟨h1, h2⟩ := cond_some h
 cases h2
 exact (etaRV_eq h1).symm) ok_ddiref02_Valid (er_of (by kernel_rfl)) shp_ddiref02_Valid (fun xs => t_ddiref02_Valid (gB ((entry xs) 0).cells 0) (gI ((entry xs) 0).cells 1) (gI ((entry xs) 0).cells 2)) (fun xs K r h => by
 unfold ent_ddiref02_Valid at h
 exact ⟨(chk_some h).1, oB_some (chk_some h).2⟩)
def dec_ddiref03_Long (z : AV) : Option Int := cond (fitRV (.one (.i .i64)) z) (some (aI z)) none
def enc_ddiref03_Long (r : Int) : AV := .int .i64 r
def shp_ddiref03_Long : Shp := ⟨[(0, .one (.l .b))], []⟩
noncomputable def ddiref03_Long_i (v0 : Bool) : Option Int :=
  (bif v0 then (some (128 : Int)) else (some (32 : Int)))
noncomputable def ddiref03_Long := hull ddiref03_Long_i
theorem ddiref03_Long_eq : ddiref03_Long = ddiref03_Long_i := hull_eq _
noncomputable def a_ddiref03_Long : AC Int :=
  .seq (.reg [.op ⟨some 2, (.mv (.c (.int .i64 0))), none⟩]) (.seq (.seq (.reg [.op ⟨some 3, (.mv (.t 0)), none⟩]) (.cond (.t 3) (.seq (.reg [.op ⟨some 2, (.mv (.c (.int .i64 128))), none⟩]) (.ret)) (.skip))) (.seq (.reg [.op ⟨some 2, (.mv (.c (.int .i64 32))), none⟩]) (.ret)))
theorem ok_ddiref03_Long : AC.ok Tryd.prog (TIof Tryd.prog) 4 0 (kret [.t 2] dec_ddiref03_Long) a_ddiref03_Long := (zA zT (zA (zA zT (zA (zA zT zT) zT)) (zA zT zT)))
theorem t_ddiref03_Long (v0 : Bool) : den 0 (kret [.t 2] dec_ddiref03_Long) a_ddiref03_Long (envOf [(0, (.bool v0))]) (memOf []) (kend (kret [.t 2] dec_ddiref03_Long)) = ddiref03_Long v0 := by
  rw [ddiref03_Long_eq]; kernel_rfl
theorem c_ddiref03_Long : cFn (TIof Tryd.prog) Tryd.f57 = some ⟨4, [.t 2], scOf a_ddiref03_Long⟩ := by kernel_rfl
noncomputable def ent_ddiref03_Long {R : Type} (xs : List AV) (K : AV → Option R) : Option R := chk (fitS shp_ddiref03_Long (entry xs) Mem.none) (oB (ddiref03_Long (gB [(entry xs) 0] 0)) fun r => K (enc_ddiref03_Long r))
theorem k_ddiref03_Long {R : Type} : EntOkB Tryd.prog 57 (ent_ddiref03_Long (R := R)) :=
  ent_of (F := fun xs => ddiref03_Long (gB [(entry xs) 0] 0)) (enc := enc_ddiref03_Long) tabOk follows Tryd.func57 (by kernel_rfl) c_ddiref03_Long (fun z r h => by
 obtain ⟨h1, h2⟩ := cond_some h
 cases h2
 exact (etaRV_eq h1).symm) ok_ddiref03_Long (er_of (by kernel_rfl)) shp_ddiref03_Long (fun xs => t_ddiref03_Long (gB [(entry xs) 0] 0)) (fun xs K r h => by
 unfold ent_ddiref03_Long at h
 exact ⟨(chk_some h).1, oB_some (chk_some h).2⟩)
def dec_ddiref03_ones (z : AV) : Option (Int × Int) := cond (fitTup [(.one (.i .u64)), (.one (.i .u64))] z) (some (aI (gC (tpL z) 0), aI (gC (tpL z) 1))) none
def enc_ddiref03_ones (r : Int × Int) : AV := .tup [.int .u64 r.1, .int .u64 r.2]
def shp_ddiref03_ones_L8 : Shp := ⟨[(0, .one (.l (.i .i64))), (4, .one (.l (.i .u64))), (5, .one (.l (.i .u64))), (6, .one (.l (.i .i64)))], []⟩
noncomputable def ddiref03_ones_L8_b  (v0 : Int) (v4 : Int) (v5 : Int) (v6 : Int) (next : Int → Int → Int → Option (Int × Int)) (kx0 : Int → Int → Option (Int × Int)) : Option (Int × Int) :=
  (bif ((decide (v6 < v0)) && (decide (v6 < (128 : Int)))) then (next (IntKind.u64.wrap ((IntKind.u64.wrap (v4 * (2 : Int))) + (IntKind.u64.wrap (v5.tdiv (9223372036854775808 : Int))))) (IntKind.u64.wrap ((IntKind.u64.wrap (v5 * (2 : Int))) + (1 : Int))) (IntKind.i64.wrap (v6 + (1 : Int)))) else (kx0 v4 v5))
noncomputable def ddiref03_ones_L8_i  (v0 : Int) (kx0 : Int → Int → Option (Int × Int)) : Nat → Int → Int → Int → Option (Int × Int)
  | 0 => (fun _ _ _ => none)
  | n + 1 => (fun v4 v5 v6 => ddiref03_ones_L8_b v0 v4 v5 v6 (ddiref03_ones_L8_i v0 kx0 n) kx0)
noncomputable def ddiref03_ones_L8 := hull (ddiref03_ones_L8_i)
theorem ddiref03_ones_L8_eq : ddiref03_ones_L8 = ddiref03_ones_L8_i := hull_eq _
noncomputable def a_ddiref03_ones_L8 : AC (Int × Int) :=
  .seq (.seq (.reg [.op ⟨some 7, (.mv (.t 6)), none⟩,
 .op ⟨some 8, (.mv (.t 0)), none⟩,
 .op ⟨some 9, (.bin .lss (.t 7) (.t 8)), none⟩,
 .op ⟨some 10, (.mv (.t 9)), none⟩,
 .grp 10 true [⟨some 11, (.mv (.t 6)), (some (10, true))⟩, ⟨some 12, (.bin .lss (.t 11) (.c (.int .i64 128))), (some (10, true))⟩] 13 (.t 12)]) (.cond (.t 13) (.skip) (.seq (.view [.sel [4, 5] []]) (.exit 0)))) (.seq (.block 1 (.seq (.reg [.op ⟨some 16, (.mv (.t 4)), none⟩,
 .op ⟨some 17, (.bin .mul (.t 16) (.c (.int .u64 2))), none⟩,
 .op ⟨some 18, (.mv (.t 5)), none⟩,
 .op ⟨some 19, (.bin .quo (.t 18) (.c (.int .u64 9223372036854775808))), none⟩,
 .op ⟨some 20, (.bin .add (.t 17) (.t 19)), none⟩,
 .op ⟨some 4, (.mv (.t 20)), none⟩]) (.reg [.op ⟨some 21, (.mv (.t 5)), none⟩,
 .op ⟨some 22, (.bin .mul (.t 21) (.c (.int .u64 2))), none⟩,
 .op ⟨some 23, (.bin .add (.t 22) (.c (.int .u64 1))), none⟩,
 .op ⟨some 5, (.mv (.t 23)), none⟩]))) (.seq (.reg [.op ⟨some 14, (.mv (.t 6)), none⟩,
 .op ⟨some 15, (.bin .add (.t 14) (.c (.int .i64 1))), none⟩,
 .op ⟨some 6, (.mv (.t 15)), none⟩]) (.view [.sel [0, 4, 5, 6] []])))
theorem ok_ddiref03_ones_L8 : AC.ok Tryd.prog (TIof Tryd.prog) 26 0 (kret [.t 2, .t 3] dec_ddiref03_ones) a_ddiref03_ones_L8 := (zA (zA zT (zA zT (zA zT zT))) (zA (zA zT zT) (zA zT zT)))
theorem t_ddiref03_ones_L8_b (v0 : Int) (v4 : Int) (v5 : Int) (v6 : Int) (K : Ex → Env → Mem → Option (Int × Int)) : den 0 (kret [.t 2, .t 3] dec_ddiref03_ones) a_ddiref03_ones_L8 (envOf [(0, (.int .i64 v0)), (4, (.int .u64 v4)), (5, (.int .u64 v5)), (6, (.int .i64 v6))]) (memOf []) K = ddiref03_ones_L8_b v0 v4 v5 v6 (fun z_v4 z_v5 z_v6 => K .norm (envOf [(0, (.int .i64 v0)), (4, (.int .u64 z_v4)), (5, (.int .u64 z_v5)), (6, (.int .i64 z_v6))]) (memOf [])) (fun z_v4 z_v5 => K (.exit 0) (envOf [(4, (.int .u64 z_v4)), (5, (.int .u64 z_v5))]) (memOf [])) := by kernel_rfl
theorem t_ddiref03_ones_L8 (v0 : Int) (K : Ex → Env → Mem → Option (Int × Int)) : ∀ (n : Nat) (v4 : Int) (v5 : Int) (v6 : Int), iterD (den 0 (kret [.t 2, .t 3] dec_ddiref03_ones) a_ddiref03_ones_L8) n (envOf [(0, (.int .i64 v0)), (4, (.int .u64 v4)), (5, (.int .u64 v5)), (6, (.int .i64 v6))]) (memOf []) K = ddiref03_ones_L8 v0 (fun z_v4 z_v5 => K (.exit 0) (envOf [(4, (.int .u64 z_v4)), (5, (.int .u64 z_v5))]) (memOf [])) n v4 v5 v6 := by
  rw [ddiref03_ones_L8_eq]
  intro n
  induction n with
  | zero => intros; rfl
  | succ n ih =>
 intro v4 v5 v6
 exact (t_ddiref03_ones_L8_b v0 v4 v5 v6 (itK (den 0 (kret [.t 2, .t 3] dec_ddiref03_ones) a_ddiref03_ones_L8) n K)).trans (congrArg (fun q => ddiref03_ones_L8_b v0 v4 v5 v6 q (fun z_v4 z_v5 => K (.exit 0) (envOf [(4, (.int .u64 z_v4)), (5, (.int .u64 z_v5))]) (memOf []))) (funext fun v4 => funext fun v5 => funext fun v6 => ih v4 v5 v6))
noncomputable def s_ddiref03_ones_L8 : Env → Mem → (Ex → Env → Mem → Option (Int × Int)) → Option (Int × Int) := fun t m K => chk (fitS0 shp_ddiref03_ones_L8 t m) (cond (hdS shp_ddiref03_ones_L8 t m) (ddiref03_ones_L8 (gI [t 0] 0) (fun z_v4 z_v5 => K (.exit 0) (envOf [(4, (.int .u64 z_v4)), (5, (.int .u64 z_v5))]) (memOf [])) FU (gI [t 4] 0) (gI [t 5] 0) (gI [t 6] 0)) none)
theorem o_ddiref03_ones_L8 : SubOk Tryd.prog (TIof Tryd.prog) 26 0 (kret [.t 2, .t 3] dec_ddiref03_ones) (.loop (scOf a_ddiref03_ones_L8)) s_ddiref03_ones_L8 :=
  loop_of tabOk follows ok_ddiref03_ones_L8 (er_of (by kernel_rfl)) shp_ddiref03_ones_L8 (fun t m K => congrArg (fun z => chk (fitS0 shp_ddiref03_ones_L8 t m) (cond (hdS shp_ddiref03_ones_L8 t m) z none)) (t_ddiref03_ones_L8 (gI [t 0] 0) K FU (gI [t 4] 0) (gI [t 5] 0) (gI [t 6] 0)).symm)
def shp_ddiref03_ones : Shp := ⟨[(0, .one (.l (.i .i64)))], []⟩
noncomputable def ddiref03_ones_i (v0 : Int) : Option (Int × Int) :=
  (ddiref03_ones_L8 v0 (fun v4q1 v5q2 => (some (v4q1, v5q2))) FU (0 : Int) (0 : Int) (0 : Int))
noncomputable def ddiref03_ones := hull ddiref03_ones_i
theorem ddiref03_ones_eq : ddiref03_ones = ddiref03_ones_i := hull_eq _
noncomputable def a_ddiref03_ones : AC (Int × Int) :=
  .seq (.reg [.op ⟨some 2, (.mv (.c (.int .u64 0))), none⟩,
 .op ⟨some 3, (.mv (.c (.int .u64 0))), none⟩]) (.seq (.reg [.op ⟨some 4, (.mv (.c (.int .u64 0))), none⟩,
 .op ⟨some 5, (.mv (.c (.int .u64 0))), none⟩]) (.seq (.seq (.reg [.op ⟨some 6, (.mv (.c (.int .i64 0))), none⟩]) (.block 0 (.seq (.view [.sel [0, 4, 5, 6] []]) (.sub (.loop (scOf a_ddiref03_ones_L8)) s_ddiref03_ones_L8)))) (.seq (.reg [.op ⟨some 24, (.mv (.t 4)), none⟩,
 .op ⟨some 25, (.mv (.t 5)), none⟩,
 .op ⟨some 2, (.mv (.t 24)), none⟩,
 .op ⟨some 3, (.mv (.t 25)), none⟩]) (.ret))))
theorem ok_ddiref03_ones : AC.ok Tryd.prog (TIof Tryd.prog) 26 0 (kret [.t 2, .t 3] dec_ddiref03_ones) a_ddiref03_ones := (zA zT (zA zT (zA (zA zT (zA zT o_ddiref03_ones_L8)) (zA zT zT))))
theorem t_ddiref03_ones (v0 : Int) : den 0 (kret [.t 2, .t 3] dec_ddiref03_ones) a_ddiref03_ones (envOf [(0, (.int .i64 v0))]) (memOf []) (kend (kret [.t 2, .t 3] dec_ddiref03_ones)) = ddiref03_ones v0 := by
  rw [ddiref03_ones_eq]; kernel_rfl
theorem c_ddiref03_ones : cFn (TIof Tryd.prog) Tryd.f58 = some ⟨26, [.t 2, .t 3], scOf a_ddiref03_ones⟩ := by kernel_rfl
noncomputable def ent_ddiref03_ones {R : Type} (xs : List AV) (K : AV → Option R) : Option R := chk (fitS shp_ddiref03_ones (entry xs) Mem.none) (oB (ddiref03_ones (gI [(entry xs) 0] 0)) fun r => K (enc_ddiref03_ones r))
theorem k_ddiref03_ones {R : Type} : EntOkB Tryd.prog 58 (ent_ddiref03_ones (R := R)) :=
  ent_of (F := fun xs => ddiref03_ones (gI [(entry xs) 0] 0)) (enc := enc_ddiref03_ones) tabOk follows Tryd.func58 (by kernel_rfl) c_ddiref03_ones (fun z r h => by
 obtain ⟨h1, h2⟩ := cond_some h
 cases h2
 exact (fitTup_eq h1).symm) ok_ddiref03_ones (er_of (by kernel_rfl)) shp_ddiref03_ones (fun xs => t_ddiref03_ones (gI [(entry xs) 0] 0)) (fun xs K r h => by
 unfold ent_ddiref03_ones at h
 exact ⟨(chk_some h).1, oB_some (chk_some h).2⟩)
def dec_ddiref03_Valid (z : AV) : Option Bool := cond (fitRV (.one .b) z) (some (aB z)) none
def enc_ddiref03_Valid (r : Bool) : AV := .bool r
def shp_ddiref03_Valid_J4 : Shp := ⟨[(1, .one (.ptr 0 0))], [.box true [(.l .b), (.l (.i .u64)), (.l (.i .u64)), (.l (.i .i64))]]⟩
noncomputable def ddiref03_Valid_J4_i  (b0_0 : Bool) (b0_1 : Int) (b0_2 : Int) (b0_3 : Int) (kn : Bool → Option Bool) : Option Bool :=
  (oB (ddiref02_Valid b0_0 b0_1 b0_2) fun r1 => (bif (!r1) then (kn true) else (bif (decide (b0_3 < (0 : Int))) then (kn true) else (oB (ddiref03_Long b0_0) fun r2 => (kn (decide (b0_3 > r2)))))))
noncomputable def ddiref03_Valid_J4 := hull (ddiref03_Valid_J4_i)
theorem ddiref03_Valid_J4_eq : ddiref03_Valid_J4 = ddiref03_Valid_J4_i := hull_eq _
noncomputable def a_ddiref03_Valid_J4 : AC Bool :=
  .seq (.draw [] [.op ⟨some 5, (.fa 0 (.t 1)), none⟩,
 .op ⟨some 6, (.load true 3 (.t 5)), none⟩,
 .call ⟨some 7, (.call 40 [.t 6]), none⟩ 40 ent_ddiref02_Valid,
 .op ⟨some 8, (.un .not (.t 7)), none⟩,
 .op ⟨some 9, (.mv (.t 8)), none⟩,
 .op ⟨some 10, (.fa 3 (.t 1)), (some (9, false))⟩,
 .op ⟨some 11, (.load false 1 (.t 10)), (some (9, false))⟩,
 .op ⟨some 12, (.bin .lss (.t 11) (.c (.int .i64 0))), (some (9, false))⟩,
 .op ⟨some 13, (.pick (.t 9) (.c (.bool true)) (.t 12)), none⟩,
 .op ⟨some 14, (.mv (.t 13)), none⟩,
 .op ⟨some 15, (.fa 3 (.t 1)), (some (14, false))⟩,
 .op ⟨some 16, (.load false 1 (.t 15)), (some (14, false))⟩,
 .op ⟨some 17, (.fa 0 (.t 1)), (some (14, false))⟩,
 .op ⟨some 18, (.fa 0 (.t 17)), (some (14, false))⟩,
 .op ⟨some 19, (.load false 1 (.t 18)), (some (14, false))⟩,
 .call ⟨some 20, (.call 57 [.t 19]), (some (14, false))⟩ 57 ent_ddiref03_Long] [.op ⟨some 21, (.bin .gtr (.t 16) (.t 20)), (some (14, false))⟩,
 .op ⟨some 22, (.pick (.t 14) (.c (.bool true)) (.t 21)), none⟩]) (.view [.sel [1, 22] [0]])
theorem ok_ddiref03_Valid_J4 : AC.ok Tryd.prog (TIof Tryd.prog) 48 0 (kret [.t 2] dec_ddiref03_Valid) a_ddiref03_Valid_J4 := (zA (zA (zA (EntOkB.ok k_ddiref02_Valid) (zA (EntOkB.ok k_ddiref03_Long) zT)) (zA zT rfl)) zT)
theorem t_ddiref03_Valid_J4 (b0_0 : Bool) (b0_1 : Int) (b0_2 : Int) (b0_3 : Int) (K : Ex → Env → Mem → Option Bool) : den 0 (kret [.t 2] dec_ddiref03_Valid) a_ddiref03_Valid_J4 (envOf [(1, (.ptr 0 0))]) (memOf [(some (.box true [(.bool b0_0), (.int .u64 b0_1), (.int .u64 b0_2), (.int .i64 b0_3)]))]) K = ddiref03_Valid_J4 b0_0 b0_1 b0_2 b0_3 (fun z_v22 => K .norm (envOf [(1, (.ptr 0 0)), (22, (.bool z_v22))]) (memOf [(some (.box true [(.bool b0_0), (.int .u64 b0_1), (.int .u64 b0_2), (.int .i64 b0_3)]))])) := by
  rw [ddiref03_Valid_J4_eq]; kernel_rfl
noncomputable def s_ddiref03_Valid_J4 : Env → Mem → (Ex → Env → Mem → Option Bool) → Option Bool := fun t m K => chk (fitS0 shp_ddiref03_Valid_J4 t m) (cond (hdS shp_ddiref03_Valid_J4 t m) (ddiref03_Valid_J4 (gB (bxC (m.s 0)) 0) (gI (bxC (m.s 0)) 1) (gI (bxC (m.s 0)) 2) (gI (bxC (m.s 0)) 3) (fun z_v22 => K .norm (envOf [(1, (.ptr 0 0)), (22, (.bool z_v22))]) (memOf [(some (.box true [(.bool (gB (bxC (m.s 0)) 0)), (.int .u64 (gI (bxC (m.s 0)) 1)), (.int .u64 (gI (bxC (m.s 0)) 2)), (.int .i64 (gI (bxC (m.s 0)) 3))]))]))) none)
theorem o_ddiref03_Valid_J4 : SubOk Tryd.prog (TIof Tryd.prog) 48 0 (kret [.t 2] dec_ddiref03_Valid) (scOf a_ddiref03_Valid_J4) s_ddiref03_Valid_J4 :=
  sub_of tabOk follows ok_ddiref03_Valid_J4 (er_of (by kernel_rfl)) shp_ddiref03_Valid_J4 (fun t m K => congrArg (fun z => chk (fitS0 shp_ddiref03_Valid_J4 t m) (cond (hdS shp_ddiref03_Valid_J4 t m) z none)) (t_ddiref03_Valid_J4 (gB (bxC (m.s 0)) 0) (gI (bxC (m.s 0)) 1) (gI (bxC (m.s 0)) 2) (gI (bxC (m.s 0)) 3) K).symm)
def shp_ddiref03_Valid : Shp := ⟨[(0, .st [(.l .b), (.l (.i .u64)), (.l (.i .u64)), (.l (.i .i64))])], []⟩
noncomputable def ddiref03_Valid_i (v0_0 : Bool) (v0_1 : Int) (v0_2 : Int) (v0_3 : Int) : Option Bool :=
  (ddiref03_Valid_J4 v0_0 v0_1 v0_2 v0_3 (fun v22q1 => (bif v22q1 then (some false) else (oB (ddiref03_Long v0_0) fun r2 => (oB (ddiref03_ones (IntKind.i64.wrap (r2 - v0_3))) fun r3 => (some (((ibits .and .u64 v0_1 r3.1) == (0 : Int)) && ((ibits .and .u64 v0_2 r3.2) == (0 : Int)))))))))
noncomputable def ddiref03_Valid := hull ddiref03_Valid_i
theorem ddiref03_Valid_eq : ddiref03_Valid = ddiref03_Valid_i := hull_eq _
noncomputable def a_ddiref03_Valid : AC Bool :=
  .seq (.reg [.op ⟨some 1, (.box (.t 0)), none⟩,
 .op ⟨some 2, (.mv (.c (.bool false))), none⟩]) (.seq (.seq (.seq (.view [.sel [1] [0]]) (.sub (scOf a_ddiref03_Valid_J4) s_ddiref03_Valid_J4)) (.cond (.t 22) (.seq (.reg [.op ⟨some 2, (.mv (.c (.bool false))), none⟩]) (.ret)) (.skip))) (.seq (.draw [] [.op ⟨some 24, (.fa 0 (.t 1)), none⟩,
 .op ⟨some 25, (.fa 0 (.t 24)), none⟩,
 .op ⟨some 26, (.load false 1 (.t 25)), none⟩,
 .call ⟨some 27, (.call 57 [.t 26]), none⟩ 57 ent_ddiref03_Long,
 .op ⟨some 28, (.fa 3 (.t 1)), none⟩,
 .op ⟨some 29, (.load false 1 (.t 28)), none⟩,
 .op ⟨some 30, (.bin .sub (.t 27) (.t 29)), none⟩,
 .call ⟨some 31, (.call 58 [.t 30]), none⟩ 58 ent_ddiref03_ones,
 .op ⟨some 23, (.mv (.t 31)), none⟩,
 .op ⟨some 32, (.ext (.t 23) 0), none⟩,
 .op ⟨some 33, (.ext (.t 23) 1), none⟩,
 .op ⟨some 3, (.mv (.t 32)), none⟩] [.op ⟨some 4, (.mv (.t 33)), none⟩]) (.seq (.reg [.op ⟨some 34, (.fa 0 (.t 1)), none⟩,
 .op ⟨some 35, (.fa 1 (.t 34)), none⟩,
 .op ⟨some 36, (.load false 1 (.t 35)), none⟩,
 .op ⟨some 37, (.mv (.t 3)), none⟩,
 .op ⟨some 38, (.bin .and (.t 36) (.t 37)), none⟩,
 .op ⟨some 39, (.bin .eql (.t 38) (.c (.int .u64 0))), none⟩,
 .op ⟨some 40, (.mv (.t 39)), none⟩,
 .grp 40 true [⟨some 41, (.fa 0 (.t 1)), (some (40, true))⟩, ⟨some 42, (.fa 2 (.t 41)), (some (40, true))⟩, ⟨some 43, (.load false 1 (.t 42)), (some (40, true))⟩, ⟨some 44, (.mv (.t 4)), (some (40, true))⟩, ⟨some 45, (.bin .and (.t 43) (.t 44)), (some (40, true))⟩, ⟨some 46, (.bin .eql (.t 45) (.c (.int .u64 0))), (some (40, true))⟩] 47 (.t 46),
 .op ⟨some 2, (.mv (.t 47)), none⟩]) (.ret))))
theorem ok_ddiref03_Valid : AC.ok Tryd.prog (TIof Tryd.prog) 48 0 (kret [.t 2] dec_ddiref03_Valid) a_ddiref03_Valid := (zA zT (zA (zA (zA zT o_ddiref03_Valid_J4) (zA (zA zT zT) zT)) (zA (zA (zA (EntOkB.ok k_ddiref03_Long) (zA (EntOkB.ok k_ddiref03_ones) zT)) (zA zT rfl)) (zA zT zT))))
theorem t_ddiref03_Valid (v0_0 : Bool) (v0_1 : Int) (v0_2 : Int) (v0_3 : Int) : den 0 (kret [.t 2] dec_ddiref03_Valid) a_ddiref03_Valid (envOf [(0, (.agg [(.bool v0_0), (.int .u64 v0_1), (.int .u64 v0_2), (.int .i64 v0_3)]))]) (memOf []) (kend (kret [.t 2] dec_ddiref03_Valid)) = ddiref03_Valid v0_0 v0_1 v0_2 v0_3 := by
  rw [ddiref03_Valid_eq]; kernel_rfl
theorem c_ddiref03_Valid : cFn (TIof Tryd.prog) Tryd.f39 = some ⟨48, [.t 2], scOf a_ddiref03_Valid⟩ := by kernel_rfl
noncomputable def ent_ddiref03_Valid {R : Type} (xs : List AV) (K : AV → Option R) : Option R := chk (fitS shp_ddiref03_Valid (entry xs) Mem.none) (oB (ddiref03_Valid (gB ((entry xs) 0).cells 0) (gI ((entry xs) 0).cells 1) (gI ((entry xs) 0).cells 2) (gI ((entry xs) 0).cells 3)) fun r => K (enc_ddiref03_Valid r))
theorem k_ddiref03_Valid {R : Type} : EntOkB Tryd.prog 39 (ent_ddiref03_Valid (R := R)) :=
  ent_of (F := fun xs => ddiref03_Valid (gB ((entry xs) 0).cells 0) (gI ((entry xs) 0).cells 1) (gI ((entry xs) 0).cells 2) (gI ((entry xs) 0).cells 3)) (enc := enc_ddiref03_Valid) tabOk follows Tryd.func39 (by kernel_rfl) c_ddiref03_Valid (fun z r h => by
 obtain ⟨h1, h2⟩ := cond_some h
 cases h2
 exact (etaRV_eq h1).symm) ok_ddiref03_Valid (er_of (by kernel_rfl)) shp_ddiref03_Valid (fun xs => t_ddiref03_Valid (gB ((entry xs) 0).cells 0) (gI ((entry xs) 0).cells 1) (gI ((entry xs) 0).cells 2) (gI ((entry xs) 0).cells 3)) (fun xs K r h => by
 unfold ent_ddiref03_Valid at h
 exact ⟨(chk_some h).1, oB_some (chk_some h).2⟩)
def dec_ddiref05_Mnemonic (z : AV) : Option (List UInt8) := cond (fitRV (.one .s) z) (some (aS z)) none
def enc_ddiref05_Mnemonic (r : (List UInt8)) : AV := .str r
def shp_ddiref05_Mnemonic : Shp := ⟨[(0, .one (.l (.i .i64)))], []⟩
noncomputable def ddiref05_Mnemonic_i (v0 : Int) : Option (List UInt8) :=
  (bif (v0 == (1 : Int)) then (some ([65] : List UInt8)) else (bif (v0 == (2 : Int)) then (some ([78, 83] : List UInt8)) else (bif (v0 == (5 : Int)) then (some ([67, 78, 65, 77, 69] : List UInt8)) else (bif (v0 == (6 : Int)) then (some ([83, 79, 65] : List UInt8)) else (bif (v0 == (12 : Int)) then (some ([80, 84, 82] : List UInt8)) else (bif (v0 == (15 : Int)) then (some ([77, 88] : List UInt8)) else (bif (v0 == (16 : Int)) then (some ([84, 88, 84] : List UInt8)) else (bif (v0 == (28 : Int)) then (some ([65, 65, 65, 65] : List UInt8)) else (bif (v0 == (33 : Int)) then (some ([83, 82, 86] : List UInt8)) else (bif (v0 == (39 : Int)) then (some ([68, 78, 65, 77, 69] : List UInt8)) else (bif (v0 == (43 : Int)) then (some ([68, 83] : List UInt8)) else (bif (v0 == (46 : Int)) then (some ([82, 82, 83, 73, 71] : List UInt8)) else (bif (v0 == (47 : Int)) then (some ([78, 83, 69, 67] : List UInt8)) else (bif (v0 == (48 : Int)) then (some ([68, 78, 83, 75, 69, 89] : List UInt8)) else (some ([] : List UInt8))))))))))))))))
noncomputable def ddiref05_Mnemonic := hull ddiref05_Mnemonic_i
theorem ddiref05_Mnemonic_eq : ddiref05_Mnemonic = ddiref05_Mnemonic_i := hull_eq _
noncomputable def a_ddiref05_Mnemonic : AC (List UInt8) :=
  .seq (.reg [.op ⟨some 2, (.mv (.c (.str []))), none⟩]) (.seq (.seq (.reg [.op ⟨some 3, (.mv (.t 0)), none⟩]) (.block 0 (.seq (.reg [.op ⟨some 5, (.bin .eql (.t 3) (.c (.int .i64 1))), none⟩,
 .op ⟨some 4, (.mv (.t 5)), none⟩]) (.cond (.t 4) (.seq (.reg [.op ⟨some 2, (.mv (.c (.str [65]))), none⟩]) (.ret)) (.seq (.reg [.op ⟨some 7, (.bin .eql (.t 3) (.c (.int .i64 2))), none⟩,
 .op ⟨some 6, (.mv (.t 7)), none⟩]) (.cond (.t 6) (.seq (.reg [.op ⟨some 2, (.mv (.c (.str [78, 83]))), none⟩]) (.ret)) (.seq (.reg [.op ⟨some 9, (.bin .eql (.t 3) (.c (.int .i64 5))), none⟩,
 .op ⟨some 8, (.mv (.t 9)), none⟩]) (.cond (.t 8) (.seq (.reg [.op ⟨some 2, (.mv (.c (.str [67, 78, 65, 77, 69]))), none⟩]) (.ret)) (.seq (.reg [.op ⟨some 11, (.bin .eql (.t 3) (.c (.int .i64 6))), none⟩,
 .op ⟨some 10, (.mv (.t 11)), none⟩]) (.cond (.t 10) (.seq (.reg [.op ⟨some 2, (.mv (.c (.str [83, 79, 65]))), none⟩]) (.ret)) (.seq (.reg [.op ⟨some 13, (.bin .eql (.t 3) (.c (.int .i64 12))), none⟩,
 .op ⟨some 12, (.mv (.t 13)), none⟩]) (.cond (.t 12) (.seq (.reg [.op ⟨some 2, (.mv (.c (.str [80, 84, 82]))), none⟩]) (.ret)) (.seq (.reg [.op ⟨some 15, (.bin .eql (.t 3) (.c (.int .i64 15))), none⟩,
 .op ⟨some 14, (.mv (.t 15)), none⟩]) (.cond (.t 14) (.seq (.reg [.op ⟨some 2, (.mv (.c (.str [77, 88]))), none⟩]) (.ret)) (.seq (.reg [.op ⟨some 17, (.bin .eql (.t 3) (.c (.int .i64 16))), none⟩,
 .op ⟨some 16, (.mv (.t 17)), none⟩]) (.cond (.t 16) (.seq (.reg [.op ⟨some 2, (.mv (.c (.str [84, 88, 84]))), none⟩]) (.ret)) (.seq (.reg [.op ⟨some 19, (.bin .eql (.t 3) (.c (.int .i64 28))), none⟩,
 .op ⟨some 18, (.mv (.t 19)), none⟩]) (.cond (.t 18) (.seq (.reg [.op ⟨some 2, (.mv (.c (.str [65, 65, 65, 65]))), none⟩]) (.ret)) (.seq (.reg [.op ⟨some 21, (.bin .eql (.t 3) (.c (.int .i64 33))), none⟩,
 .op ⟨some 20, (.mv (.t 21)), none⟩]) (.cond (.t 20) (.seq (.reg [.op ⟨some 2, (.mv (.c (.str [83, 82, 86]))), none⟩]) (.ret)) (.seq (.reg [.op ⟨some 23, (.bin .eql (.t 3) (.c (.int .i64 39))), none⟩,
 .op ⟨some 22, (.mv (.t 23)), none⟩]) (.cond (.t 22) (.seq (.reg [.op ⟨some 2, (.mv (.c (.str [68, 78, 65, 77, 69]))), none⟩]) (.ret)) (.seq (.reg [.op ⟨some 25, (.bin .eql (.t 3) (.c (.int .i64 43))), none⟩,
 .op ⟨some 24, (.mv (.t 25)), none⟩]) (.cond (.t 24) (.seq (.reg [.op ⟨some 2, (.mv (.c (.str [68, 83]))), none⟩]) (.ret)) (.seq (.reg [.op ⟨some 27, (.bin .eql (.t 3) (.c (.int .i64 46))), none⟩,
 .op ⟨some 26, (.mv (.t 27)), none⟩]) (.cond (.t 26) (.seq (.reg [.op ⟨some 2, (.mv (.c (.str [82, 82, 83, 73, 71]))), none⟩]) (.ret)) (.seq (.reg [.op ⟨some 29, (.bin .eql (.t 3) (.c (.int .i64 47))), none⟩,
 .op ⟨some 28, (.mv (.t 29)), none⟩]) (.cond (.t 28) (.seq (.reg [.op ⟨some 2, (.mv (.c (.str [78, 83, 69, 67]))), none⟩]) (.ret)) (.seq (.reg [.op ⟨some 31, (.bin .eql (.t 3) (.c (.int .i64 48))), none⟩,
 .op ⟨some 30, (.mv (.t 31)), none⟩]) (.cond (.t 30) (.seq (.reg [.op ⟨some 2, (.mv (.c (.str [68, 78, 83, 75, 69, 89]))), none⟩]) (.ret)) (.skip))))))))))))))))))))))))))))))) (.seq (.reg [.op ⟨some 2, (.mv (.c (.str []))), none⟩]) (.ret)))
theorem ok_ddiref05_Mnemonic : AC.ok Tryd.prog (TIof Tryd.prog) 32 0 (kret [.t 2] dec_ddiref05_Mnemonic) a_ddiref05_Mnemonic := (zA zT (zA (zA zT (zA zT (zA (zA zT zT) (zA zT (zA (zA zT zT) (zA zT (zA (zA zT zT) (zA zT (zA (zA zT zT) (zA zT (zA (zA zT zT) (zA zT (zA (zA zT zT) (zA zT (zA (zA zT zT) (zA zT (zA (zA zT zT) (zA zT (zA (zA zT zT) (zA zT (zA (zA zT zT) (zA zT (zA (zA zT zT) (zA zT (zA (zA zT zT) (zA zT (zA (zA zT zT) (zA zT (zA (zA zT zT) zT))))))))))))))))))))))))))))) (zA zT zT)))
theorem t_ddiref05_Mnemonic (v0 : Int) : den 0 (kret [.t 2] dec_ddiref05_Mnemonic) a_ddiref05_Mnemonic (envOf [(0, (.int .i64 v0))]) (memOf []) (kend (kret [.t 2] dec_ddiref05_Mnemonic)) = ddiref05_Mnemonic v0 := by
  rw [ddiref05_Mnemonic_eq]; kernel_rfl
theorem c_ddiref05_Mnemonic : cFn (TIof Tryd.prog) Tryd.f84 = some ⟨32, [.t 2], scOf a_ddiref05_Mnemonic⟩ := by kernel_rfl
noncomputable def ent_ddiref05_Mnemonic {R : Type} (xs : List AV) (K : AV → Option R) : Option R := chk (fitS shp_ddiref05_Mnemonic (entry xs) Mem.none) (oB (ddiref05_Mnemonic (gI [(entry xs) 0] 0)) fun r => K (enc_ddiref05_Mnemonic r))
theorem k_ddiref05_Mnemonic {R : Type} : EntOkB Tryd.prog 84 (ent_ddiref05_Mnemonic (R := R)) :=
  ent_of (F := fun xs => ddiref05_Mnemonic (gI [(entry xs) 0] 0)) (enc := enc_ddiref05_Mnemonic) tabOk follows Tryd.func84 (by kernel_rfl) c_ddiref05_Mnemonic (fun z r h => by
 obtain ⟨h1, h2⟩ := cond_some h
 cases h2
 exact (etaRV_eq h1).symm) ok_ddiref05_Mnemonic (er_of (by kernel_rfl)) shp_ddiref05_Mnemonic (fun xs => t_ddiref05_Mnemonic (gI [(entry xs) 0] 0)) (fun xs K r h => by
 unfold ent_ddiref05_Mnemonic at h
 exact ⟨(chk_some h).1, oB_some (chk_some h).2⟩)
def dec_ddiref05_Known (z : AV) : Option Bool := cond (fitRV (.one .b) z) (some (aB z)) none
def enc_ddiref05_Known (r : Bool) : AV := .bool r
def shp_ddiref05_Known : Shp := ⟨[(0, .one (.l (.i .i64)))], []⟩
noncomputable def ddiref05_Known_i (v0 : Int) : Option Bool :=
  (oB (ddiref05_Mnemonic v0) fun r1 => (some (!(r1 == ([] : List UInt8)))))
noncomputable def ddiref05_Known := hull ddiref05_Known_i
theorem ddiref05_Known_eq : ddiref05_Known = ddiref05_Known_i := hull_eq _
noncomputable def a_ddiref05_Known : AC Bool :=
  .seq (.reg [.op ⟨some 2, (.mv (.c (.bool false))), none⟩]) (.seq (.reg [.op ⟨some 3, (.mv (.t 0)), none⟩,
 .call ⟨some 4, (.call 84 [.t 3]), none⟩ 84 ent_ddiref05_Mnemonic,
 .op ⟨some 5, (.bin .neq (.t 4) (.c (.str []))), none⟩,
 .op ⟨some 2, (.mv (.t 5)), none⟩]) (.ret))
theorem ok_ddiref05_Known : AC.ok Tryd.prog (TIof Tryd.prog) 6 0 (kret [.t 2] dec_ddiref05_Known) a_ddiref05_Known := (zA zT (zA (zA (EntOkB.ok k_ddiref05_Mnemonic) zT) zT))
theorem t_ddiref05_Known (v0 : Int) : den 0 (kret [.t 2] dec_ddiref05_Known) a_ddiref05_Known (envOf [(0, (.int .i64 v0))]) (memOf []) (kend (kret [.t 2] dec_ddiref05_Known)) = ddiref05_Known v0 := by
  rw [ddiref05_Known_eq]; kernel_rfl
theorem c_ddiref05_Known : cFn (TIof Tryd.prog) Tryd.f76 = some ⟨6, [.t 2], scOf a_ddiref05_Known⟩ := by kernel_rfl
noncomputable def ent_ddiref05_Known {R : Type} (xs : List AV) (K : AV → Option R) : Option R := chk (fitS shp_ddiref05_Known (entry xs) Mem.none) (oB (ddiref05_Known (gI [(entry xs) 0] 0)) fun r => K (enc_ddiref05_Known r))
theorem k_ddiref05_Known {R : Type} : EntOkB Tryd.prog 76 (ent_ddiref05_Known (R := R)) :=
  ent_of (F := fun xs => ddiref05_Known (gI [(entry xs) 0] 0)) (enc := enc_ddiref05_Known) tabOk follows Tryd.func76 (by kernel_rfl) c_ddiref05_Known (fun z r h => by
 obtain ⟨h1, h2⟩ := cond_some h
 cases h2
 exact (etaRV_eq h1).symm) ok_ddiref05_Known (er_of (by kernel_rfl)) shp_ddiref05_Known (fun xs => t_ddiref05_Known (gI [(entry xs) 0] 0)) (fun xs K r h => by
 unfold ent_ddiref05_Known at h
 exact ⟨(chk_some h).1, oB_some (chk_some h).2⟩)
def dec_ddiref05_used (z : AV) : Option AV := cond (fitRV (.st [.b, (.i .u64), (.i .u64), .s, .s, .s, (.i .i64), (.i .i64), (.i .i64), (.i .i64), (.i .i64), (.i .i64), (.i .u64)]) z) (some (z)) none
def enc_ddiref05_used (r : AV) : AV := etaRV (.st [.b, (.i .u64), (.i .u64), .s, .s, .s, (.i .i64), (.i .i64), (.i .i64), (.i .i64), (.i .i64), (.i .i64), (.i .u64)]) r
def shp_ddiref05_used_J7 : Shp := ⟨[(3, .one (.ptr 0 0)), (4, .one (.ptr 1 0)), (5, .one (.l (.i .i64)))], [.box true [(.l .b), (.l (.i .u64)), (.l (.i .u64)), (.l .s), (.l .s), (.l .s), (.l (.i .i64)), (.l (.i .i64)), (.l (.i .i64)), (.l (.i .i64)), (.l (.i .i64)), (.l (.i .i64)), (.l (.i .u64))], .box true [(.l .b), (.l (.i .u64)), (.l (.i .u64)), (.l .s), (.l .s), (.l .s), (.l (.i .i64)), (.l (.i .i64)), (.l (.i .i64)), (.l (.i .i64)), (.l (.i .i64)), (.l (.i .i64)), (.l (.i .u64))]]⟩
noncomputable def ddiref05_used_J7_i  (v5 : Int) (b0_0 : Bool) (b0_1 : Int) (b0_2 : Int) (b0_3 : List UInt8) (b0_4 : List UInt8) (b0_5 : List UInt8) (b0_6 : Int) (b0_7 : Int) (b0_8 : Int) (b0_9 : Int) (b0_10 : Int) (b0_11 : Int) (b0_12 : Int) (b1_0 : Bool) (b1_1 : Int) (b1_2 : Int) (b1_3 : List UInt8) (b1_4 : List UInt8) (b1_5 : List UInt8) (b1_6 : Int) (b1_7 : Int) (b1_8 : Int) (b1_9 : Int) (b1_10 : Int) (b1_11 : Int) (b1_12 : Int) (kn : Bool → Option AV) : Option AV :=
  (bif (v5 == (1 : Int)) then (kn true) else (kn (v5 == (28 : Int))))
noncomputable def ddiref05_used_J7 := hull (ddiref05_used_J7_i)
theorem ddiref05_used_J7_eq : ddiref05_used_J7 = ddiref05_used_J7_i := hull_eq _
noncomputable def a_ddiref05_used_J7 : AC AV :=
  .seq (.reg [.op ⟨some 7, (.bin .eql (.t 5) (.c (.int .i64 1))), none⟩,
 .op ⟨some 6, (.mv (.t 7)), none⟩]) (.cond (.t 6) (.seq (.skip) (.view [.sel [3, 4, 5, 6] [0, 1]])) (.seq (.reg [.op ⟨some 8, (.bin .eql (.t 5) (.c (.int .i64 28))), none⟩,
 .op ⟨some 6, (.mv (.t 8)), none⟩]) (.view [.sel [3, 4, 5, 6] [0, 1]])))
theorem ok_ddiref05_used_J7 : AC.ok Tryd.prog (TIof Tryd.prog) 96 0 (kret [(.cell 4 true 13)] dec_ddiref05_used) a_ddiref05_used_J7 := (zA zT (zA (zA zT zT) (zA zT zT)))
theorem t_ddiref05_used_J7 (v5 : Int) (b0_0 : Bool) (b0_1 : Int) (b0_2 : Int) (b0_3 : List UInt8) (b0_4 : List UInt8) (b0_5 : List UInt8) (b0_6 : Int) (b0_7 : Int) (b0_8 : Int) (b0_9 : Int) (b0_10 : Int) (b0_11 : Int) (b0_12 : Int) (b1_0 : Bool) (b1_1 : Int) (b1_2 : Int) (b1_3 : List UInt8) (b1_4 : List UInt8) (b1_5 : List UInt8) (b1_6 : Int) (b1_7 : Int) (b1_8 : Int) (b1_9 : Int) (b1_10 : Int) (b1_11 : Int) (b1_12 : Int) (K : Ex → Env → Mem → Option AV) : den 0 (kret [(.cell 4 true 13)] dec_ddiref05_used) a_ddiref05_used_J7 (envOf [(3, (.ptr 0 0)), (4, (.ptr 1 0)), (5, (.int .i64 v5))]) (memOf [(some (.box true [(.bool b0_0), (.int .u64 b0_1), (.int .u64 b0_2), (.str b0_3), (.str b0_4), (.str b0_5), (.int .i64 b0_6), (.int .i64 b0_7), (.int .i64 b0_8), (.int .i64 b0_9), (.int .i64 b0_10), (.int .i64 b0_11), (.int .u64 b0_12)])), (some (.box true [(.bool b1_0), (.int .u64 b1_1), (.int .u64 b1_2), (.str b1_3), (.str b1_4), (.str b1_5), (.int .i64 b1_6), (.int .i64 b1_7), (.int .i64 b1_8), (.int .i64 b1_9), (.int .i64 b1_10), (.int .i64 b1_11), (.int .u64 b1_12)]))]) K = ddiref05_used_J7 v5 b0_0 b0_1 b0_2 b0_3 b0_4 b0_5 b0_6 b0_7 b0_8 b0_9 b0_10 b0_11 b0_12 b1_0 b1_1 b1_2 b1_3 b1_4 b1_5 b1_6 b1_7 b1_8 b1_9 b1_10 b1_11 b1_12 (fun z_v6 => K .norm (envOf [(3, (.ptr 0 0)), (4, (.ptr 1 0)), (5, (.int .i64 v5)), (6, (.bool z_v6))]) (memOf [(some (.box true [(.bool b0_0), (.int .u64 b0_1), (.int .u64 b0_2), (.str b0_3), (.str b0_4), (.str b0_5), (.int .i64 b0_6), (.int .i64 b0_7), (.int .i64 b0_8), (.int .i64 b0_9), (.int .i64 b0_10), (.int .i64 b0_11), (.int .u64 b0_12)])), (some (.box true [(.bool b1_0), (.int .u64 b1_1), (.int .u64 b1_2), (.str b1_3), (.str b1_4), (.str b1_5), (.int .i64 b1_6), (.int .i64 b1_7), (.int .i64 b1_8), (.int .i64 b1_9), (.int .i64 b1_10), (.int .i64 b1_11), (.int .u64 b1_12)]))])) := by
  rw [ddiref05_used_J7_eq]; kernel_rfl
noncomputable def s_ddiref05_used_J7 : Env → Mem → (Ex → Env → Mem → Option AV) → Option AV := fun t m K => chk (fitS0 shp_ddiref05_used_J7 t m) (cond (hdS shp_ddiref05_used_J7 t m) (ddiref05_used_J7 (gI [t 5] 0) (gB (bxC (m.s 0)) 0) (gI (bxC (m.s 0)) 1) (gI (bxC (m.s 0)) 2) (gS (bxC (m.s 0)) 3) (gS (bxC (m.s 0)) 4) (gS (bxC (m.s 0)) 5) (gI (bxC (m.s 0)) 6) (gI (bxC (m.s 0)) 7) (gI (bxC (m.s 0)) 8) (gI (bxC (m.s 0)) 9) (gI (bxC (m.s 0)) 10) (gI (bxC (m.s 0)) 11) (gI (bxC (m.s 0)) 12) (gB (bxC (m.s 1)) 0) (gI (bxC (m.s 1)) 1) (gI (bxC (m.s 1)) 2) (gS (bxC (m.s 1)) 3) (gS (bxC (m.s 1)) 4) (gS (bxC (m.s 1)) 5) (gI (bxC (m.s 1)) 6) (gI (bxC (m.s 1)) 7) (gI (bxC (m.s 1)) 8) (gI (bxC (m.s 1)) 9) (gI (bxC (m.s 1)) 10) (gI (bxC (m.s 1)) 11) (gI (bxC (m.s 1)) 12) (fun z_v6 => K .norm (envOf [(3, (.ptr 0 0)), (4, (.ptr 1 0)), (5, (.int .i64 (gI [t 5] 0))), (6, (.bool z_v6))]) (memOf [(some (.box true [(.bool (gB (bxC (m.s 0)) 0)), (.int .u64 (gI (bxC (m.s 0)) 1)), (.int .u64 (gI (bxC (m.s 0)) 2)), (.str (gS (bxC (m.s 0)) 3)), (.str (gS (bxC (m.s 0)) 4)), (.str (gS (bxC (m.s 0)) 5)), (.int .i64 (gI (bxC (m.s 0)) 6)), (.int .i64 (gI (bxC (m.s 0)) 7)), (.int .i64 (gI (bxC (m.s 0)) 8)), (.int .i64 (gI (bxC (m.s 0)) 9)), (.int .i64 (gI (bxC (m.s 0)) 10)), (.int .i64 (gI (bxC (m.s 0)) 11)), (.int .u64 (gI (bxC (m.s 0)) 12))])), (some (.box true [(.bool (gB (bxC (m.s 1)) 0)), (.int .u64 (gI (bxC (m.s 1)) 1)), (.int .u64 (gI (bxC (m.s 1)) 2)), (.str (gS (bxC (m.s 1)) 3)), (.str (gS (bxC (m.s 1)) 4)), (.str (gS (bxC (m.s 1)) 5)), (.int .i64 (gI (bxC (m.s 1)) 6)), (.int .i64 (gI (bxC (m.s 1)) 7)), (.int .i64 (gI (bxC (m.s 1)) 8)), (.int .i64 (gI (bxC (m.s 1)) 9)), (.int .i64 (gI (bxC (m.s 1)) 10)), (.int .i64 (gI (bxC (m.s 1)) 11)), (.int .u64 (gI (bxC (m.s 1)) 12))]))]))) none)
theorem o_ddiref05_used_J7 : SubOk Tryd.prog (TIof Tryd.prog) 96 0 (kret [(.cell 4 true 13)] dec_ddiref05_used) (scOf a_ddiref05_used_J7) s_ddiref05_used_J7 :=
  sub_of tabOk follows ok_ddiref05_used_J7 (er_of (by kernel_rfl)) shp_ddiref05_used_J7 (fun t m K => congrArg (fun z => chk (fitS0 shp_ddiref05_used_J7 t m) (cond (hdS shp_ddiref05_used_J7 t m) z none)) (t_ddiref05_used_J7 (gI [t 5] 0) (gB (bxC (m.s 0)) 0) (gI (bxC (m.s 0)) 1) (gI (bxC (m.s 0)) 2) (gS (bxC (m.s 0)) 3) (gS (bxC (m.s 0)) 4) (gS (bxC (m.s 0)) 5) (gI (bxC (m.s 0)) 6) (gI (bxC (m.s 0)) 7) (gI (bxC (m.s 0)) 8) (gI (bxC (m.s 0)) 9) (gI (bxC (m.s 0)) 10) (gI (bxC (m.s 0)) 11) (gI (bxC (m.s 0)) 12) (gB (bxC (m.s 1)) 0) (gI (bxC (m.s 1)) 1) (gI (bxC (m.s 1)) 2) (gS (bxC (m.s 1)) 3) (gS (bxC (m.s 1)) 4) (gS (bxC (m.s 1)) 5) (gI (bxC (m.s 1)) 6) (gI (bxC (m.s 1)) 7) (gI (bxC (m.s 1)) 8) (gI (bxC (m.s 1)) 9) (gI (bxC (m.s 1)) 10) (gI (bxC (m.s 1)) 11) (gI (bxC (m.s 1)) 12) K).symm)
def shp_ddiref05_used_J17 : Shp := ⟨[(3, .one (.ptr 0 0)), (4, .one (.ptr 1 0)), (5, .one (.l (.i .i64)))], [.box true [(.l .b), (.l (.i .u64)), (.l (.i .u64)), (.l .s), (.l .s), (.l .s), (.l (.i .i64)), (.l (.i .i64)), (.l (.i .i64)), (.l (.i .i64)), (.l (.i .i64)), (.l (.i .i64)), (.l (.i .u64))], .box true [(.l .b), (.l (.i .u64)), (.l (.i .u64)), (.l .s), (.l .s), (.l .s), (.l (.i .i64)), (.l (.i .i64)), (.l (.i .i64)), (.l (.i .i64)), (.l (.i .i64)), (.l (.i .i64)), (.l (.i .u64))]]⟩
noncomputable def ddiref05_used_J17_i  (v5 : Int) (b0_0 : Bool) (b0_1 : Int) (b0_2 : Int) (b0_3 : List UInt8) (b0_4 : List UInt8) (b0_5 : List UInt8) (b0_6 : Int) (b0_7 : Int) (b0_8 : Int) (b0_9 : Int) (b0_10 : Int) (b0_11 : Int) (b0_12 : Int) (b1_0 : Bool) (b1_1 : Int) (b1_2 : Int) (b1_3 : List UInt8) (b1_4 : List UInt8) (b1_5 : List UInt8) (b1_6 : Int) (b1_7 : Int) (b1_8 : Int) (b1_9 : Int) (b1_10 : Int) (b1_11 : Int) (b1_12 : Int) (kn : Bool → Option AV) : Option AV :=
  (bif (v5 == (2 : Int)) then (kn true) else (bif (v5 == (5 : Int)) then (kn true) else (bif (v5 == (12 : Int)) then (kn true) else (kn (v5 == (39 : Int))))))
noncomputable def ddiref05_used_J17 := hull (ddiref05_used_J17_i)
theorem ddiref05_used_J17_eq : ddiref05_used_J17 = ddiref05_used_J17_i := hull_eq _
noncomputable def a_ddiref05_used_J17 : AC AV :=
  .seq (.reg [.op ⟨some 13, (.bin .eql (.t 5) (.c (.int .i64 2))), none⟩,
 .op ⟨some 12, (.mv (.t 13)), none⟩]) (.cond (.t 12) (.seq (.skip) (.view [.sel [3, 4, 5, 12] [0, 1]])) (.seq (.reg [.op ⟨some 14, (.bin .eql (.t 5) (.c (.int .i64 5))), none⟩,
 .op ⟨some 12, (.mv (.t 14)), none⟩]) (.cond (.t 12) (.seq (.skip) (.view [.sel [3, 4, 5, 12] [0, 1]])) (.seq (.reg [.op ⟨some 15, (.bin .eql (.t 5) (.c (.int .i64 12))), none⟩,
 .op ⟨some 12, (.mv (.t 15)), none⟩]) (.cond (.t 12) (.seq (.skip) (.view [.sel [3, 4, 5, 12] [0, 1]])) (.seq (.reg [.op ⟨some 16, (.bin .eql (.t 5) (.c (.int .i64 39))), none⟩,
 .op ⟨some 12, (.mv (.t 16)), none⟩]) (.view [.sel [3, 4, 5, 12] [0, 1]])))))))
theorem ok_ddiref05_used_J17 : AC.ok Tryd.prog (TIof Tryd.prog) 96 0 (kret [(.cell 4 true 13)] dec_ddiref05_used) a_ddiref05_used_J17 := (zA zT (zA (zA zT zT) (zA zT (zA (zA zT zT) (zA zT (zA (zA zT zT) (zA zT zT)))))))
theorem t_ddiref05_used_J17 (v5 : Int) (b0_0 : Bool) (b0_1 : Int) (b0_2 : Int) (b0_3 : List UInt8) (b0_4 : List UInt8) (b0_5 : List UInt8) (b0_6 : Int) (b0_7 : Int) (b0_8 : Int) (b0_9 : Int) (b0_10 : Int) (b0_11 : Int) (b0_12 : Int) (b1_0 : Bool) (b1_1 : Int) (b1_2 : Int) (b1_3 : List UInt8) (b1_4 : List UInt8) (b1_5 : List UInt8) (b1_6 : Int) (b1_7 : Int) (b1_8 : Int) (b1_9 : Int) (b1_10 : Int) (b1_11 : Int) (b1_12 : Int) (K : Ex → Env → Mem → Option AV) : den 0 (kret [(.cell 4 true 13)] dec_ddiref05_used) a_ddiref05_used_J17 (envOf [(3, (.ptr 0 0)), (4, (.ptr 1 0)), (5, (.int .i64 v5))]) (memOf [(some (.box true [(.bool b0_0), (.int .u64 b0_1), (.int .u64 b0_2), (.str b0_3), (.str b0_4), (.str b0_5), (.int .i64 b0_6), (.int .i64 b0_7), (.int .i64 b0_8), (.int .i64 b0_9), (.int .i64 b0_10), (.int .i64 b0_11), (.int .u64 b0_12)])), (some (.box true [(.bool b1_0), (.int .u64 b1_1), (.int .u64 b1_2), (.str b1_3), (.str b1_4), (.str b1_5), (.int .i64 b1_6), (.int .i64 b1_7), (.int .i64 b1_8), (.int .i64 b1_9), (.int .i64 b1_10), (.int .i64 b1_11), (.int .u64 b1_12)]))]) K = ddiref05_used_J17 v5 b0_0 b0_1 b0_2 b0_3 b0_4 b0_5 b0_6 b0_7 b0_8 b0_9 b0_10 b0_11 b0_12 b1_0 b1_1 b1_2 b1_3 b1_4 b1_5 b1_6 b1_7 b1_8 b1_9 b1_10 b1_11 b1_12 (fun z_v12 => K .norm (envOf [(3, (.ptr 0 0)), (4, (.ptr 1 0)), (5, (.int .i64 v5)), (12, (.bool z_v12))]) (memOf [(some (.box true [(.bool b0_0), (.int .u64 b0_1), (.int .u64 b0_2), (.str b0_3), (.str b0_4), (.str b0_5), (.int .i64 b0_6), (.int .i64 b0_7), (.int .i64 b0_8), (.int .i64 b0_9), (.int .i64 b0_10), (.int .i64 b0_11), (.int .u64 b0_12)])), (some (.box true [(.bool b1_0), (.int .u64 b1_1), (.int .u64 b1_2), (.str b1_3), (.str b1_4), (.str b1_5), (.int .i64 b1_6), (.int .i64 b1_7), (.int .i64 b1_8), (.int .i64 b1_9), (.int .i64 b1_10), (.int .i64 b1_11), (.int .u64 b1_12)]))])) := by
  rw [ddiref05_used_J17_eq]; kernel_rfl
noncomputable def s_ddiref05_used_J17 : Env → Mem → (Ex → Env → Mem → Option AV) → Option AV := fun t m K => chk (fitS0 shp_ddiref05_used_J17 t m) (cond (hdS shp_ddiref05_used_J17 t m) (ddiref05_used_J17 (gI [t 5] 0) (gB (bxC (m.s 0)) 0) (gI (bxC (m.s 0)) 1) (gI (bxC (m.s 0)) 2) (gS (bxC (m.s 0)) 3) (gS (bxC (m.s 0)) 4) (gS (bxC (m.s 0)) 5) (gI (bxC (m.s 0)) 6) (gI (bxC (m.s 0)) 7) (gI (bxC (m.s 0)) 8) (gI (bxC (m.s 0)) 9) (gI (bxC (m.s 0)) 10) (gI (bxC (m.s 0)) 11) (gI (bxC (m.s 0)) 12) (gB (bxC (m.s 1)) 0) (gI (bxC (m.s 1)) 1) (gI (bxC (m.s 1)) 2) (gS (bxC (m.s 1)) 3) (gS (bxC (m.s 1)) 4) (gS (bxC (m.s 1)) 5) (gI (bxC (m.s 1)) 6) (gI (bxC (m.s 1)) 7) (gI (bxC (m.s 1)) 8) (gI (bxC (m.s 1)) 9) (gI (bxC (m.s 1)) 10) (gI (bxC (m.s 1)) 11) (gI (bxC (m.s 1)) 12) (fun z_v12 => K .norm (envOf [(3, (.ptr 0 0)), (4, (.ptr 1 0)), (5, (.int .i64 (gI [t 5] 0))), (12, (.bool z_v12))]) (memOf [(some (.box true [(.bool (gB (bxC (m.s 0)) 0)), (.int .u64 (gI (bxC (m.s 0)) 1)), (.int .u64 (gI (bxC (m.s 0)) 2)), (.str (gS (bxC (m.s 0)) 3)), (.str (gS (bxC (m.s 0)) 4)), (.str (gS (bxC (m.s 0)) 5)), (.int .i64 (gI (bxC (m.s 0)) 6)), (.int .i64 (gI (bxC (m.s 0)) 7)), (.int .i64 (gI (bxC (m.s 0)) 8)), (.int .i64 (gI (bxC (m.s 0)) 9)), (.int .i64 (gI (bxC (m.s 0)) 10)), (.int .i64 (gI (bxC (m.s 0)) 11)), (.int .u64 (gI (bxC (m.s 0)) 12))])), (some (.box true [(.bool (gB (bxC (m.s 1)) 0)), (.int .u64 (gI (bxC (m.s 1)) 1)), (.int .u64 (gI (bxC (m.s 1)) 2)), (.str (gS (bxC (m.s 1)) 3)), (.str (gS (bxC (m.s 1)) 4)), (.str (gS (bxC (m.s 1)) 5)), (.int .i64 (gI (bxC (m.s 1)) 6)), (.int .i64 (gI (bxC (m.s 1)) 7)), (.int .i64 (gI (bxC (m.s 1)) 8)), (.int .i64 (gI (bxC (m.s 1)) 9)), (.int .i64 (gI (bxC (m.s 1)) 10)), (.int .i64 (gI (bxC (m.s 1)) 11)), (.int .u64 (gI (bxC (m.s 1)) 12))]))]))) none)
theorem o_ddiref05_used_J17 : SubOk Tryd.prog (TIof Tryd.prog) 96 0 (kret [(.cell 4 true 13)] dec_ddiref05_used) (scOf a_ddiref05_used_J17) s_ddiref05_used_J17 :=
  sub_of tabOk follows ok_ddiref05_used_J17 (er_of (by kernel_rfl)) shp_ddiref05_used_J17 (fun t m K => congrArg (fun z => chk (fitS0 shp_ddiref05_used_J17 t m) (cond (hdS shp_ddiref05_used_J17 t m) z none)) (t_ddiref05_used_J17 (gI [t 5] 0) (gB (bxC (m.s 0)) 0) (gI (bxC (m.s 0)) 1) (gI (bxC (m.s 0)) 2) (gS (bxC (m.s 0)) 3) (gS (bxC (m.s 0)) 4) (gS (bxC (m.s 0)) 5) (gI (bxC (m.s 0)) 6) (gI (bxC (m.s 0)) 7) (gI (bxC (m.s 0)) 8) (gI (bxC (m.s 0)) 9) (gI (bxC (m.s 0)) 10) (gI (bxC (m.s 0)) 11) (gI (bxC (m.s 0)) 12) (gB (bxC (m.s 1)) 0) (gI (bxC (m.s 1)) 1) (gI (bxC (m.s 1)) 2) (gS (bxC (m.s 1)) 3) (gS (bxC (m.s 1)) 4) (gS (bxC (m.s 1)) 5) (gI (bxC (m.s 1)) 6) (gI (bxC (m.s 1)) 7) (gI (bxC (m.s 1)) 8) (gI (bxC (m.s 1)) 9) (gI (bxC (m.s 1)) 10) (gI (bxC (m.s 1)) 11) (gI (bxC (m.s 1)) 12) K).symm)
def shp_ddiref05_used_J59 : Shp := ⟨[(3, .one (.ptr 0 0)), (4, .one (.ptr 1 0)), (5, .one (.l (.i .i64)))], [.box true [(.l .b), (.l (.i .u64)), (.l (.i .u64)), (.l .s), (.l .s), (.l .s), (.l (.i .i64)), (.l (.i .i64)), (.l (.i .i64)), (.l (.i .i64)), (.l (.i .i64)), (.l (.i .i64)), (.l (.i .u64))], .box true [(.l .b), (.l (.i .u64)), (.l (.i .u64)), (.l .s), (.l .s), (.l .s), (.l (.i .i64)), (.l (.i .i64)), (.l (.i .i64)), (.l (.i .i64)), (.l (.i .i64)), (.l (.i .i64)), (.l (.i .u64))]]⟩
noncomputable def ddiref05_used_J59_i  (v5 : Int) (b0_0 : Bool) (b0_1 : Int) (b0_2 : Int) (b0_3 : List UInt8) (b0_4 : List UInt8) (b0_5 : List UInt8) (b0_6 : Int) (b0_7 : Int) (b0_8 : Int) (b0_9 : Int) (b0_10 : Int) (b0_11 : Int) (b0_12 : Int) (b1_0 : Bool) (b1_1 : Int) (b1_2 : Int) (b1_3 : List UInt8) (b1_4 : List UInt8) (b1_5 : List UInt8) (b1_6 : Int) (b1_7 : Int) (b1_8 : Int) (b1_9 : Int) (b1_10 : Int) (b1_11 : Int) (b1_12 : Int) (kn : Bool → Option AV) : Option AV :=
  (bif (v5 == (43 : Int)) then (kn true) else (kn (v5 == (48 : Int))))
noncomputable def ddiref05_used_J59 := hull (ddiref05_used_J59_i)
theorem ddiref05_used_J59_eq : ddiref05_used_J59 = ddiref05_used_J59_i := hull_eq _
noncomputable def a_ddiref05_used_J59 : AC AV :=
  .seq (.reg [.op ⟨some 61, (.bin .eql (.t 5) (.c (.int .i64 43))), none⟩,
 .op ⟨some 60, (.mv (.t 61)), none⟩]) (.cond (.t 60) (.seq (.skip) (.view [.sel [3, 4, 5, 60] [0, 1]])) (.seq (.reg [.op ⟨some 62, (.bin .eql (.t 5) (.c (.int .i64 48))), none⟩,
 .op ⟨some 60, (.mv (.t 62)), none⟩]) (.view [.sel [3, 4, 5, 60] [0, 1]])))
theorem ok_ddiref05_used_J59 : AC.ok Tryd.prog (TIof Tryd.prog) 96 0 (kret [(.cell 4 true 13)] dec_ddiref05_used) a_ddiref05_used_J59 := (zA zT (zA (zA zT zT) (zA zT zT)))
theorem t_ddiref05_used_J59 (v5 : Int) (b0_0 : Bool) (b0_1 : Int) (b0_2 : Int) (b0_3 : List UInt8) (b0_4 : List UInt8) (b0_5 : List UInt8) (b0_6 : Int) (b0_7 : Int) (b0_8 : Int) (b0_9 : Int) (b0_10 : Int) (b0_11 : Int) (b0_12 : Int) (b1_0 : Bool) (b1_1 : Int) (b1_2 : Int) (b1_3 : List UInt8) (b1_4 : List UInt8) (b1_5 : List UInt8) (b1_6 : Int) (b1_7 : Int) (b1_8 : Int) (b1_9 : Int) (b1_10 : Int) (b1_11 : Int) (b1_12 : Int) (K : Ex → Env → Mem → Option AV) : den 0 (kret [(.cell 4 true 13)] dec_ddiref05_used) a_ddiref05_used_J59 (envOf [(3, (.ptr 0 0)), (4, (.ptr 1 0)), (5, (.int .i64 v5))]) (memOf [(some (.box true [(.bool b0_0), (.int .u64 b0_1), (.int .u64 b0_2), (.str b0_3), (.str b0_4), (.str b0_5), (.int .i64 b0_6), (.int .i64 b0_7), (.int .i64 b0_8), (.int .i64 b0_9), (.int .i64 b0_10), (.int .i64 b0_11), (.int .u64 b0_12)])), (some (.box true [(.bool b1_0), (.int .u64 b1_1), (.int .u64 b1_2), (.str b1_3), (.str b1_4), (.str b1_5), (.int .i64 b1_6), (.int .i64 b1_7), (.int .i64 b1_8), (.int .i64 b1_9), (.int .i64 b1_10), (.int .i64 b1_11), (.int .u64 b1_12)]))]) K = ddiref05_used_J59 v5 b0_0 b0_1 b0_2 b0_3 b0_4 b0_5 b0_6 b0_7 b0_8 b0_9 b0_10 b0_11 b0_12 b1_0 b1_1 b1_2 b1_3 b1_4 b1_5 b1_6 b1_7 b1_8 b1_9 b1_10 b1_11 b1_12 (fun z_v60 => K .norm (envOf [(3, (.ptr 0 0)), (4, (.ptr 1 0)), (5, (.int .i64 v5)), (60, (.bool z_v60))]) (memOf [(some (.box true [(.bool b0_0), (.int .u64 b0_1), (.int .u64 b0_2), (.str b0_3), (.str b0_4), (.str b0_5), (.int .i64 b0_6), (.int .i64 b0_7), (.int .i64 b0_8), (.int .i64 b0_9), (.int .i64 b0_10), (.int .i64 b0_11), (.int .u64 b0_12)])), (some (.box true [(.bool b1_0), (.int .u64 b1_1), (.int .u64 b1_2), (.str b1_3), (.str b1_4), (.str b1_5), (.int .i64 b1_6), (.int .i64 b1_7), (.int .i64 b1_8), (.int .i64 b1_9), (.int .i64 b1_10), (.int .i64 b1_11), (.int .u64 b1_12)]))])) := by
  rw [ddiref05_used_J59_eq]; kernel_rfl
noncomputable def s_ddiref05_used_J59 : Env → Mem → (Ex → Env → Mem → Option AV) → Option AV := fun t m K => chk (fitS0 shp_ddiref05_used_J59 t m) (cond (hdS shp_ddiref05_used_J59 t m) (ddiref05_used_J59 (gI [t 5] 0) (gB (bxC (m.s 0)) 0) (gI (bxC (m.s 0)) 1) (gI (bxC (m.s 0)) 2) (gS (bxC (m.s 0)) 3) (gS (bxC (m.s 0)) 4) (gS (bxC (m.s 0)) 5) (gI (bxC (m.s 0)) 6) (gI (bxC (m.s 0)) 7) (gI (bxC (m.s 0)) 8) (gI (bxC (m.s 0)) 9) (gI (bxC (m.s 0)) 10) (gI (bxC (m.s 0)) 11) (gI (bxC (m.s 0)) 12) (gB (bxC (m.s 1)) 0) (gI (bxC (m.s 1)) 1) (gI (bxC (m.s 1)) 2) (gS (bxC (m.s 1)) 3) (gS (bxC (m.s 1)) 4) (gS (bxC (m.s 1)) 5) (gI (bxC (m.s 1)) 6) (gI (bxC (m.s 1)) 7) (gI (bxC (m.s 1)) 8) (gI (bxC (m.s 1)) 9) (gI (bxC (m.s 1)) 10) (gI (bxC (m.s 1)) 11) (gI (bxC (m.s 1)) 12) (fun z_v60 => K .norm (envOf [(3, (.ptr 0 0)), (4, (.ptr 1 0)), (5, (.int .i64 (gI [t 5] 0))), (60, (.bool z_v60))]) (memOf [(some (.box true [(.bool (gB (bxC (m.s 0)) 0)), (.int .u64 (gI (bxC (m.s 0)) 1)), (.int .u64 (gI (bxC (m.s 0)) 2)), (.str (gS (bxC (m.s 0)) 3)), (.str (gS (bxC (m.s 0)) 4)), (.str (gS (bxC (m.s 0)) 5)), (.int .i64 (gI (bxC (m.s 0)) 6)), (.int .i64 (gI (bxC (m.s 0)) 7)), (.int .i64 (gI (bxC (m.s 0)) 8)), (.int .i64 (gI (bxC (m.s 0)) 9)), (.int .i64 (gI (bxC (m.s 0)) 10)), (.int .i64 (gI (bxC (m.s 0)) 11)), (.int .u64 (gI (bxC (m.s 0)) 12))])), (some (.box true [(.bool (gB (bxC (m.s 1)) 0)), (.int .u64 (gI (bxC (m.s 1)) 1)), (.int .u64 (gI (bxC (m.s 1)) 2)), (.str (gS (bxC (m.s 1)) 3)), (.str (gS (bxC (m.s 1)) 4)), (.str (gS (bxC (m.s 1)) 5)), (.int .i64 (gI (bxC (m.s 1)) 6)), (.int .i64 (gI (bxC (m.s 1)) 7)), (.int .i64 (gI (bxC (m.s 1)) 8)), (.int .i64 (gI (bxC (m.s 1)) 9)), (.int .i64 (gI (bxC (m.s 1)) 10)), (.int .i64 (gI (bxC (m.s 1)) 11)), (.int .u64 (gI (bxC (m.s 1)) 12))]))]))) none)
theorem o_ddiref05_used_J59 : SubOk Tryd.prog (TIof Tryd.prog) 96 0 (kret [(.cell 4 true 13)] dec_ddiref05_used) (scOf a_ddiref05_used_J59) s_ddiref05_used_J59 :=
  sub_of tabOk follows ok_ddiref05_used_J59 (er_of (by kernel_rfl)) shp_ddiref05_used_J59 (fun t m K => congrArg (fun z => chk (fitS0 shp_ddiref05_used_J59 t m) (cond (hdS shp_ddiref05_used_J59 t m) z none)) (t_ddiref05_used_J59 (gI [t 5] 0) (gB (bxC (m.s 0)) 0) (gI (bxC (m.s 0)) 1) (gI (bxC (m.s 0)) 2) (gS (bxC (m.s 0)) 3) (gS (bxC (m.s 0)) 4) (gS (bxC (m.s 0)) 5) (gI (bxC (m.s 0)) 6) (gI (bxC (m.s 0)) 7) (gI (bxC (m.s 0)) 8) (gI (bxC (m.s 0)) 9) (gI (bxC (m.s 0)) 10) (gI (bxC (m.s 0)) 11) (gI (bxC (m.s 0)) 12) (gB (bxC (m.s 1)) 0) (gI (bxC (m.s 1)) 1) (gI (bxC (m.s 1)) 2) (gS (bxC (m.s 1)) 3) (gS (bxC (m.s 1)) 4) (gS (bxC (m.s 1)) 5) (gI (bxC (m.s 1)) 6) (gI (bxC (m.s 1)) 7) (gI (bxC (m.s 1)) 8) (gI (bxC (m.s 1)) 9) (gI (bxC (m.s 1)) 10) (gI (bxC (m.s 1)) 11) (gI (bxC (m.s 1)) 12) K).symm)
def shp_ddiref05_used : Shp := ⟨[(0, .one (.l (.i .i64))), (1, .st [(.l .b), (.l (.i .u64)), (.l (.i .u64)), (.l .s), (.l .s), (.l .s), (.l (.i .i64)), (.l (.i .i64)), (.l (.i .i64)), (.l (.i .i64)), (.l (.i .i64)), (.l (.i .i64)), (.l (.i .u64))])], []⟩
noncomputable def ddiref05_used_i (v0 : Int) (v1_0 : Bool) (v1_1 : Int) (v1_2 : Int) (v1_3 : List UInt8) (v1_4 : List UInt8) (v1_5 : List UInt8) (v1_6 : Int) (v1_7 : Int) (v1_8 : Int) (v1_9 : Int) (v1_10 : Int) (v1_11 : Int) (v1_12 : Int) : Option AV :=
  (ddiref05_used_J7 v0 v1_0 v1_1 v1_2 v1_3 v1_4 v1_5 v1_6 v1_7 v1_8 v1_9 v1_10 v1_11 v1_12 false (0 : Int) (0 : Int) ([] : List UInt8) ([] : List UInt8) ([] : List UInt8) (0 : Int) (0 : Int) (0 : Int) (0 : Int) (0 : Int) (0 : Int) (0 : Int) (fun v6q1 => (bif v6q1 then (some (.agg [(.bool v1_0), (.int .u64 v1_1), (.int .u64 v1_2), (.str ([] : List UInt8)), (.str ([] : List UInt8)), (.str ([] : List UInt8)), (.int .i64 (0 : Int)), (.int .i64 (0 : Int)), (.int .i64 (0 : Int)), (.int .i64 (0 : Int)), (.int .i64 (0 : Int)), (.int .i64 (0 : Int)), (.int .u64 (0 : Int))])) else (ddiref05_used_J17 v0 v1_0 v1_1 v1_2 v1_3 v1_4 v1_5 v1_6 v1_7 v1_8 v1_9 v1_10 v1_11 v1_12 false (0 : Int) (0 : Int) ([] : List UInt8) ([] : List UInt8) ([] : List UInt8) (0 : Int) (0 : Int) (0 : Int) (0 : Int) (0 : Int) (0 : Int) (0 : Int) (fun v12q2 => (bif v12q2 then (some (.agg [(.bool false), (.int .u64 (0 : Int)), (.int .u64 (0 : Int)), (.str v1_3), (.str ([] : List UInt8)), (.str ([] : List UInt8)), (.int .i64 (0 : Int)), (.int .i64 (0 : Int)), (.int .i64 (0 : Int)), (.int .i64 (0 : Int)), (.int .i64 (0 : Int)), (.int .i64 (0 : Int)), (.int .u64 (0 : Int))])) else (bif (v0 == (6 : Int)) then (some (.agg [(.bool false), (.int .u64 (0 : Int)), (.int .u64 (0 : Int)), (.str v1_3), (.str v1_4), (.str ([] : List UInt8)), (.int .i64 v1_6), (.int .i64 v1_7), (.int .i64 v1_8), (.int .i64 v1_9), (.int .i64 v1_10), (.int .i64 (0 : Int)), (.int .u64 (0 : Int))])) else (bif (v0 == (15 : Int)) then (some (.agg [(.bool false), (.int .u64 (0 : Int)), (.int .u64 (0 : Int)), (.str v1_3), (.str ([] : List UInt8)), (.str ([] : List UInt8)), (.int .i64 v1_6), (.int .i64 (0 : Int)), (.int .i64 (0 : Int)), (.int .i64 (0 : Int)), (.int .i64 (0 : Int)), (.int .i64 (0 : Int)), (.int .u64 (0 : Int))])) else (bif (v0 == (16 : Int)) then (some (.agg [(.bool false), (.int .u64 (0 : Int)), (.int .u64 (0 : Int)), (.str ([] : List UInt8)), (.str ([] : List UInt8)), (.str v1_5), (.int .i64 (0 : Int)), (.int .i64 (0 : Int)), (.int .i64 (0 : Int)), (.int .i64 (0 : Int)), (.int .i64 (0 : Int)), (.int .i64 (0 : Int)), (.int .u64 (0 : Int))])) else (bif (v0 == (33 : Int)) then (some (.agg [(.bool false), (.int .u64 (0 : Int)), (.int .u64 (0 : Int)), (.str v1_3), (.str ([] : List UInt8)), (.str ([] : List UInt8)), (.int .i64 v1_6), (.int .i64 v1_7), (.int .i64 v1_8), (.int .i64 (0 : Int)), (.int .i64 (0 : Int)), (.int .i64 (0 : Int)), (.int .u64 (0 : Int))])) else (ddiref05_used_J59 v0 v1_0 v1_1 v1_2 v1_3 v1_4 v1_5 v1_6 v1_7 v1_8 v1_9 v1_10 v1_11 v1_12 false (0 : Int) (0 : Int) ([] : List UInt8) ([] : List UInt8) ([] : List UInt8) (0 : Int) (0 : Int) (0 : Int) (0 : Int) (0 : Int) (0 : Int) (0 : Int) (fun v60q3 => (bif v60q3 then (some (.agg [(.bool false), (.int .u64 (0 : Int)), (.int .u64 (0 : Int)), (.str ([] : List UInt8)), (.str ([] : List UInt8)), (.str v1_5), (.int .i64 v1_6), (.int .i64 v1_7), (.int .i64 v1_8), (.int .i64 (0 : Int)), (.int .i64 (0 : Int)), (.int .i64 (0 : Int)), (.int .u64 (0 : Int))])) else (bif (v0 == (46 : Int)) then (some (.agg [(.bool false), (.int .u64 (0 : Int)), (.int .u64 (0 : Int)), (.str v1_3), (.str ([] : List UInt8)), (.str v1_5), (.int .i64 v1_6), (.int .i64 v1_7), (.int .i64 v1_8), (.int .i64 v1_9), (.int .i64 v1_10), (.int .i64 v1_11), (.int .u64 (0 : Int))])) else (some (.agg [(.bool false), (.int .u64 (0 : Int)), (.int .u64 (0 : Int)), (.str v1_3), (.str ([] : List UInt8)), (.str ([] : List UInt8)), (.int .i64 (0 : Int)), (.int .i64 (0 : Int)), (.int .i64 (0 : Int)), (.int .i64 (0 : Int)), (.int .i64 (0 : Int)), (.int .i64 (0 : Int)), (.int .u64 v1_12)]))))))))))))))))
noncomputable def ddiref05_used := hull ddiref05_used_i
theorem ddiref05_used_eq : ddiref05_used = ddiref05_used_i := hull_eq _
noncomputable def a_ddiref05_used : AC AV :=
  .seq (.reg [.op ⟨some 3, (.box (.t 1)), none⟩,
 .op ⟨some 4, (.alloc [(.bool false), (.int .u64 0), (.int .u64 0), (.str []), (.str []), (.str []), (.int .i64 0), (.int .i64 0), (.int .i64 0), (.int .i64 0), (.int .i64 0), (.int .i64 0), (.int .u64 0)]), none⟩]) (.seq (.seq (.reg [.op ⟨some 5, (.mv (.t 0)), none⟩]) (.block 0 (.seq (.seq (.view [.sel [3, 4, 5] [0, 1]]) (.sub (scOf a_ddiref05_used_J7) s_ddiref05_used_J7)) (.cond (.t 6) (.seq (.reg [.op ⟨some 9, (.fa 0 (.t 3)), none⟩,
 .op ⟨some 10, (.load true 3 (.t 9)), none⟩,
 .op ⟨some 11, (.build [(.bool false), (.int .u64 0), (.int .u64 0), (.str []), (.str []), (.str []), (.int .i64 0), (.int .i64 0), (.int .i64 0), (.int .i64 0), (.int .i64 0), (.int .i64 0), (.int .u64 0)] [(0, (3, (.t 10)))]), none⟩,
 .op ⟨none, (.store 13 (.t 4) (.t 11)), none⟩]) (.ret)) (.seq (.seq (.view [.sel [3, 4, 5] [0, 1]]) (.sub (scOf a_ddiref05_used_J17) s_ddiref05_used_J17)) (.cond (.t 12) (.seq (.reg [.op ⟨some 17, (.fa 3 (.t 3)), none⟩,
 .op ⟨some 18, (.load false 1 (.t 17)), none⟩,
 .op ⟨some 19, (.build [(.bool false), (.int .u64 0), (.int .u64 0), (.str []), (.str []), (.str []), (.int .i64 0), (.int .i64 0), (.int .i64 0), (.int .i64 0), (.int .i64 0), (.int .i64 0), (.int .u64 0)] [(3, (1, (.t 18)))]), none⟩,
 .op ⟨none, (.store 13 (.t 4) (.t 19)), none⟩]) (.ret)) (.seq (.reg [.op ⟨some 21, (.bin .eql (.t 5) (.c (.int .i64 6))), none⟩,
 .op ⟨some 20, (.mv (.t 21)), none⟩]) (.cond (.t 20) (.seq (.reg [.op ⟨some 22, (.fa 3 (.t 3)), none⟩,
 .op ⟨some 23, (.load false 1 (.t 22)), none⟩,
 .op ⟨some 24, (.fa 4 (.t 3)), none⟩,
 .op ⟨some 25, (.load false 1 (.t 24)), none⟩,
 .op ⟨some 26, (.fa 6 (.t 3)), none⟩,
 .op ⟨some 27, (.load false 1 (.t 26)), none⟩,
 .op ⟨some 28, (.fa 7 (.t 3)), none⟩,
 .op ⟨some 29, (.load false 1 (.t 28)), none⟩,
 .op ⟨some 30, (.fa 8 (.t 3)), none⟩,
 .op ⟨some 31, (.load false 1 (.t 30)), none⟩,
 .op ⟨some 32, (.fa 9 (.t 3)), none⟩,
 .op ⟨some 33, (.load false 1 (.t 32)), none⟩,
 .op ⟨some 34, (.fa 10 (.t 3)), none⟩,
 .op ⟨some 35, (.load false 1 (.t 34)), none⟩,
 .op ⟨some 36, (.build [(.bool false), (.int .u64 0), (.int .u64 0), (.str []), (.str []), (.str []), (.int .i64 0), (.int .i64 0), (.int .i64 0), (.int .i64 0), (.int .i64 0), (.int .i64 0), (.int .u64 0)] [(3, (1, (.t 23))), (4, (1, (.t 25))), (6, (1, (.t 27))), (7, (1, (.t 29))), (8, (1, (.t 31))), (9, (1, (.t 33))), (10, (1, (.t 35)))]), none⟩,
 .op ⟨none, (.store 13 (.t 4) (.t 36)), none⟩]) (.ret)) (.seq (.reg [.op ⟨some 38, (.bin .eql (.t 5) (.c (.int .i64 15))), none⟩,
 .op ⟨some 37, (.mv (.t 38)), none⟩]) (.cond (.t 37) (.seq (.reg [.op ⟨some 39, (.fa 6 (.t 3)), none⟩,
 .op ⟨some 40, (.load false 1 (.t 39)), none⟩,
 .op ⟨some 41, (.fa 3 (.t 3)), none⟩,
 .op ⟨some 42, (.load false 1 (.t 41)), none⟩,
 .op ⟨some 43, (.build [(.bool false), (.int .u64 0), (.int .u64 0), (.str []), (.str []), (.str []), (.int .i64 0), (.int .i64 0), (.int .i64 0), (.int .i64 0), (.int .i64 0), (.int .i64 0), (.int .u64 0)] [(6, (1, (.t 40))), (3, (1, (.t 42)))]), none⟩,
 .op ⟨none, (.store 13 (.t 4) (.t 43)), none⟩]) (.ret)) (.seq (.reg [.op ⟨some 45, (.bin .eql (.t 5) (.c (.int .i64 16))), none⟩,
 .op ⟨some 44, (.mv (.t 45)), none⟩]) (.cond (.t 44) (.seq (.reg [.op ⟨some 46, (.fa 5 (.t 3)), none⟩,
 .op ⟨some 47, (.load false 1 (.t 46)), none⟩,
 .op ⟨some 48, (.build [(.bool false), (.int .u64 0), (.int .u64 0), (.str []), (.str []), (.str []), (.int .i64 0), (.int .i64 0), (.int .i64 0), (.int .i64 0), (.int .i64 0), (.int .i64 0), (.int .u64 0)] [(5, (1, (.t 47)))]), none⟩,
 .op ⟨none, (.store 13 (.t 4) (.t 48)), none⟩]) (.ret)) (.seq (.reg [.op ⟨some 50, (.bin .eql (.t 5) (.c (.int .i64 33))), none⟩,
 .op ⟨some 49, (.mv (.t 50)), none⟩]) (.cond (.t 49) (.seq (.reg [.op ⟨some 51, (.fa 6 (.t 3)), none⟩,
 .op ⟨some 52, (.load false 1 (.t 51)), none⟩,
 .op ⟨some 53, (.fa 7 (.t 3)), none⟩,
 .op ⟨some 54, (.load false 1 (.t 53)), none⟩,
 .op ⟨some 55, (.fa 8 (.t 3)), none⟩,
 .op ⟨some 56, (.load false 1 (.t 55)), none⟩,
 .op ⟨some 57, (.fa 3 (.t 3)), none⟩,
 .op ⟨some 58, (.load false 1 (.t 57)), none⟩,
 .op ⟨some 59, (.build [(.bool false), (.int .u64 0), (.int .u64 0), (.str []), (.str []), (.str []), (.int .i64 0), (.int .i64 0), (.int .i64 0), (.int .i64 0), (.int .i64 0), (.int .i64 0), (.int .u64 0)] [(6, (1, (.t 52))), (7, (1, (.t 54))), (8, (1, (.t 56))), (3, (1, (.t 58)))]), none⟩,
 .op ⟨none, (.store 13 (.t 4) (.t 59)), none⟩]) (.ret)) (.seq (.seq (.view [.sel [3, 4, 5] [0, 1]]) (.sub (scOf a_ddiref05_used_J59) s_ddiref05_used_J59)) (.cond (.t 60) (.seq (.reg [.op ⟨some 63, (.fa 6 (.t 3)), none⟩,
 .op ⟨some 64, (.load false 1 (.t 63)), none⟩,
 .op ⟨some 65, (.fa 7 (.t 3)), none⟩,
 .op ⟨some 66, (.load false 1 (.t 65)), none⟩,
 .op ⟨some 67, (.fa 8 (.t 3)), none⟩,
 .op ⟨some 68, (.load false 1 (.t 67)), none⟩,
 .op ⟨some 69, (.fa 5 (.t 3)), none⟩,
 .op ⟨some 70, (.load false 1 (.t 69)), none⟩,
 .op ⟨some 71, (.build [(.bool false), (.int .u64 0), (.int .u64 0), (.str []), (.str []), (.str []), (.int .i64 0), (.int .i64 0), (.int .i64 0), (.int .i64 0), (.int .i64 0), (.int .i64 0), (.int .u64 0)] [(6, (1, (.t 64))), (7, (1, (.t 66))), (8, (1, (.t 68))), (5, (1, (.t 70)))]), none⟩,
 .op ⟨none, (.store 13 (.t 4) (.t 71)), none⟩]) (.ret)) (.seq (.reg [.op ⟨some 73, (.bin .eql (.t 5) (.c (.int .i64 46))), none⟩,
 .op ⟨some 72, (.mv (.t 73)), none⟩]) (.cond (.t 72) (.seq (.reg [.op ⟨some 74, (.fa 6 (.t 3)), none⟩,
 .op ⟨some 75, (.load false 1 (.t 74)), none⟩,
 .op ⟨some 76, (.fa 7 (.t 3)), none⟩,
 .op ⟨some 77, (.load false 1 (.t 76)), none⟩,
 .op ⟨some 78, (.fa 8 (.t 3)), none⟩,
 .op ⟨some 79, (.load false 1 (.t 78)), none⟩,
 .op ⟨some 80, (.fa 9 (.t 3)), none⟩,
 .op ⟨some 81, (.load false 1 (.t 80)), none⟩,
 .op ⟨some 82, (.fa 10 (.t 3)), none⟩,
 .op ⟨some 83, (.load false 1 (.t 82)), none⟩,
 .op ⟨some 84, (.fa 11 (.t 3)), none⟩,
 .op ⟨some 85, (.load false 1 (.t 84)), none⟩,
 .op ⟨some 86, (.fa 3 (.t 3)), none⟩,
 .op ⟨some 87, (.load false 1 (.t 86)), none⟩,
 .op ⟨some 88, (.fa 5 (.t 3)), none⟩,
 .op ⟨some 89, (.load false 1 (.t 88)), none⟩,
 .op ⟨some 90, (.build [(.bool false), (.int .u64 0), (.int .u64 0), (.str []), (.str []), (.str []), (.int .i64 0), (.int .i64 0), (.int .i64 0), (.int .i64 0), (.int .i64 0), (.int .i64 0), (.int .u64 0)] [(6, (1, (.t 75))), (7, (1, (.t 77))), (8, (1, (.t 79))), (9, (1, (.t 81))), (10, (1, (.t 83))), (11, (1, (.t 85))), (3, (1, (.t 87))), (5, (1, (.t 89)))]), none⟩,
 .op ⟨none, (.store 13 (.t 4) (.t 90)), none⟩]) (.ret)) (.skip))))))))))))))))))) (.seq (.reg [.op ⟨some 91, (.fa 3 (.t 3)), none⟩,
 .op ⟨some 92, (.load false 1 (.t 91)), none⟩,
 .op ⟨some 93, (.fa 12 (.t 3)), none⟩,
 .op ⟨some 94, (.load false 1 (.t 93)), none⟩,
 .op ⟨some 95, (.build [(.bool false), (.int .u64 0), (.int .u64 0), (.str []), (.str []), (.str []), (.int .i64 0), (.int .i64 0), (.int .i64 0), (.int .i64 0), (.int .i64 0), (.int .i64 0), (.int .u64 0)] [(3, (1, (.t 92))), (12, (1, (.t 94)))]), none⟩,
 .op ⟨none, (.store 13 (.t 4) (.t 95)), none⟩]) (.ret)))
theorem ok_ddiref05_used : AC.ok Tryd.prog (TIof Tryd.prog) 96 0 (kret [(.cell 4 true 13)] dec_ddiref05_used) a_ddiref05_used := (zA zT (zA (zA zT (zA (zA zT o_ddiref05_used_J7) (zA (zA zT zT) (zA (zA zT o_ddiref05_used_J17) (zA (zA zT zT) (zA zT (zA (zA zT zT) (zA zT (zA (zA zT zT) (zA zT (zA (zA zT zT) (zA zT (zA (zA zT zT) (zA (zA zT o_ddiref05_used_J59) (zA (zA zT zT) (zA zT (zA (zA zT zT) zT))))))))))))))))) (zA zT zT)))
theorem t_ddiref05_used (v0 : Int) (v1_0 : Bool) (v1_1 : Int) (v1_2 : Int) (v1_3 : List UInt8) (v1_4 : List UInt8) (v1_5 : List UInt8) (v1_6 : Int) (v1_7 : Int) (v1_8 : Int) (v1_9 : Int) (v1_10 : Int) (v1_11 : Int) (v1_12 : Int) : den 0 (kret [(.cell 4 true 13)] dec_ddiref05_used) a_ddiref05_used (envOf [(0, (.int .i64 v0)), (1, (.agg [(.bool v1_0), (.int .u64 v1_1), (.int .u64 v1_2), (.str v1_3), (.str v1_4), (.str v1_5), (.int .i64 v1_6), (.int .i64 v1_7), (.int .i64 v1_8), (.int .i64 v1_9), (.int .i64 v1_10), (.int .i64 v1_11), (.int .u64 v1_12)]))]) (memOf []) (kend (kret [(.cell 4 true 13)] dec_ddiref05_used)) = ddiref05_used v0 v1_0 v1_1 v1_2 v1_3 v1_4 v1_5 v1_6 v1_7 v1_8 v1_9 v1_10 v1_11 v1_12 := by
  rw [ddiref05_used_eq]; kernel_rfl
theorem c_ddiref05_used : cFn (TIof Tryd.prog) Tryd.f85 = some ⟨96, [(.cell 4 true 13)], scOf a_ddiref05_used⟩ := by kernel_rfl
noncomputable def ent_ddiref05_used {R : Type} (xs : List AV) (K : AV → Option R) : Option R := chk (fitS shp_ddiref05_used (entry xs) Mem.none) (oB (ddiref05_used (gI [(entry xs) 0] 0) (gB ((entry xs) 1).cells 0) (gI ((entry xs) 1).cells 1) (gI ((entry xs) 1).cells 2) (gS ((entry xs) 1).cells 3) (gS ((entry xs) 1).cells 4) (gS ((entry xs) 1).cells 5) (gI ((entry xs) 1).cells 6) (gI ((entry xs) 1).cells 7) (gI ((entry xs) 1).cells 8) (gI ((entry xs) 1).cells 9) (gI ((entry xs) 1).cells 10) (gI ((entry xs) 1).cells 11) (gI ((entry xs) 1).cells 12)) fun r => K (enc_ddiref05_used r))
theorem k_ddiref05_used {R : Type} : EntOkB Tryd.prog 85 (ent_ddiref05_used (R := R)) :=
  ent_of (F := fun xs => ddiref05_used (gI [(entry xs) 0] 0) (gB ((entry xs) 1).cells 0) (gI ((entry xs) 1).cells 1) (gI ((entry xs) 1).cells 2) (gS ((entry xs) 1).cells 3) (gS ((entry xs) 1).cells 4) (gS ((entry xs) 1).cells 5) (gI ((entry xs) 1).cells 6) (gI ((entry xs) 1).cells 7) (gI ((entry xs) 1).cells 8) (gI ((entry xs) 1).cells 9) (gI ((entry xs) 1).cells 10) (gI ((entry xs) 1).cells 11) (gI ((entry xs) 1).cells 12)) (enc := enc_ddiref05_used) tabOk follows Tryd.func85 (by kernel_rfl) c_ddiref05_used (fun z r h => by
 obtain ⟨h1, h2⟩ := cond_some h
 cases h2
 exact (etaRV_eq h1).symm) ok_ddiref05_used (er_of (by kernel_rfl)) shp_ddiref05_used (fun xs => t_ddiref05_used (gI [(entry xs) 0] 0) (gB ((entry xs) 1).cells 0) (gI ((entry xs) 1).cells 1) (gI ((entry xs) 1).cells 2) (gS ((entry xs) 1).cells 3) (gS ((entry xs) 1).cells 4) (gS ((entry xs) 1).cells 5) (gI ((entry xs) 1).cells 6) (gI ((entry xs) 1).cells 7) (gI ((entry xs) 1).cells 8) (gI ((entry xs) 1).cells 9) (gI ((entry xs) 1).cells 10) (gI ((entry xs) 1).cells 11) (gI ((entry xs) 1).cells 12)) (fun xs K r h => by
 unfold ent_ddiref05_used at h
 exact ⟨(chk_some h).1, oB_some (chk_some h).2⟩)
def dec_ddiref05_host (z : AV) : Option Bool := cond (fitRV (.one .b) z) (some (aB z)) none
def enc_ddiref05_host (r : Bool) : AV := .bool r
def shp_ddiref05_host : Shp := ⟨[(0, .one (.l .s))], []⟩
noncomputable def ddiref05_host_i (v0 : List UInt8) : Option Bool :=
  (oB (ddiref01_Valid v0) fun r1 => (bif r1 then (oB (ixB v0 (0 : Int)) fun c2 => (some ((c2.toNat : Int) != (42 : Int)))) else (some false)))
noncomputable def ddiref05_host := hull ddiref05_host_i
theorem ddiref05_host_eq : ddiref05_host = ddiref05_host_i := hull_eq _
noncomputable def a_ddiref05_host : AC Bool :=
  .seq (.reg [.op ⟨some 2, (.mv (.c (.bool false))), none⟩]) (.seq (.reg [.op ⟨some 3, (.mv (.t 0)), none⟩,
 .call ⟨some 4, (.call 45 [.t 3]), none⟩ 45 ent_ddiref01_Valid,
 .op ⟨some 5, (.mv (.t 4)), none⟩,
 .op ⟨some 6, (.mv (.t 0)), (some (5, true))⟩,
 .op ⟨some 7, (.ixs (.t 6) (.c (.int .i64 0))), (some (5, true))⟩,
 .op ⟨some 8, (.bin .neq (.t 7) (.c (.int .u8 42))), (some (5, true))⟩,
 .op ⟨some 9, (.pick (.t 5) (.t 8) (.c (.bool false))), none⟩,
 .op ⟨some 2, (.mv (.t 9)), none⟩]) (.ret))
theorem ok_ddiref05_host : AC.ok Tryd.prog (TIof Tryd.prog) 10 0 (kret [.t 2] dec_ddiref05_host) a_ddiref05_host := (zA zT (zA (zA (EntOkB.ok k_ddiref01_Valid) zT) zT))
theorem t_ddiref05_host (v0 : List UInt8) : den 0 (kret [.t 2] dec_ddiref05_host) a_ddiref05_host (envOf [(0, (.str v0))]) (memOf []) (kend (kret [.t 2] dec_ddiref05_host)) = ddiref05_host v0 := by
  rw [ddiref05_host_eq]; kernel_rfl
theorem c_ddiref05_host : cFn (TIof Tryd.prog) Tryd.f86 = some ⟨10, [.t 2], scOf a_ddiref05_host⟩ := by kernel_rfl
noncomputable def ent_ddiref05_host {R : Type} (xs : List AV) (K : AV → Option R) : Option R := chk (fitS shp_ddiref05_host (entry xs) Mem.none) (oB (ddiref05_host (gS [(entry xs) 0] 0)) fun r => K (enc_ddiref05_host r))
theorem k_ddiref05_host {R : Type} : EntOkB Tryd.prog 86 (ent_ddiref05_host (R := R)) :=
  ent_of (F := fun xs => ddiref05_host (gS [(entry xs) 0] 0)) (enc := enc_ddiref05_host) tabOk follows Tryd.func86 (by kernel_rfl) c_ddiref05_host (fun z r h => by
 obtain ⟨h1, h2⟩ := cond_some h
 cases h2
 exact (etaRV_eq h1).symm) ok_ddiref05_host (er_of (by kernel_rfl)) shp_ddiref05_host (fun xs => t_ddiref05_host (gS [(entry xs) 0] 0)) (fun xs K r h => by
 unfold ent_ddiref05_host at h
 exact ⟨(chk_some h).1, oB_some (chk_some h).2⟩)
def dec_ddiref04_Valid (z : AV) : Option Bool := cond (fitRV (.one .b) z) (some (aB z)) none
def enc_ddiref04_Valid (r : Bool) : AV := .bool r
def shp_ddiref04_Valid : Shp := ⟨[(0, .one (.l (.i .i64)))], []⟩
noncomputable def ddiref04_Valid_i (v0 : Int) : Option Bool :=
  (some ((decide (v0 ≥ (0 : Int))) && (decide (v0 < (4294967296 : Int)))))
noncomputable def ddiref04_Valid := hull ddiref04_Valid_i
theorem ddiref04_Valid_eq : ddiref04_Valid = ddiref04_Valid_i := hull_eq _
noncomputable def a_ddiref04_Valid : AC Bool :=
  .seq (.reg [.op ⟨some 2, (.mv (.c (.bool false))), none⟩]) (.seq (.reg [.op ⟨some 3, (.mv (.t 0)), none⟩,
 .op ⟨some 4, (.bin .geq (.t 3) (.c (.int .i64 0))), none⟩,
 .op ⟨some 5, (.mv (.t 4)), none⟩,
 .grp 5 true [⟨some 6, (.mv (.t 0)), (some (5, true))⟩, ⟨some 7, (.bin .lss (.t 6) (.c (.int .i64 4294967296))), (some (5, true))⟩] 8 (.t 7),
 .op ⟨some 2, (.mv (.t 8)), none⟩]) (.ret))
theorem ok_ddiref04_Valid : AC.ok Tryd.prog (TIof Tryd.prog) 9 0 (kret [.t 2] dec_ddiref04_Valid) a_ddiref04_Valid := (zA zT (zA zT zT))
theorem t_ddiref04_Valid (v0 : Int) : den 0 (kret [.t 2] dec_ddiref04_Valid) a_ddiref04_Valid (envOf [(0, (.int .i64 v0))]) (memOf []) (kend (kret [.t 2] dec_ddiref04_Valid)) = ddiref04_Valid v0 := by
  rw [ddiref04_Valid_eq]; kernel_rfl
theorem c_ddiref04_Valid : cFn (TIof Tryd.prog) Tryd.f87 = some ⟨9, [.t 2], scOf a_ddiref04_Valid⟩ := by kernel_rfl
noncomputable def ent_ddiref04_Valid {R : Type} (xs : List AV) (K : AV → Option R) : Option R := chk (fitS shp_ddiref04_Valid (entry xs) Mem.none) (oB (ddiref04_Valid (gI [(entry xs) 0] 0)) fun r => K (enc_ddiref04_Valid r))
theorem k_ddiref04_Valid {R : Type} : EntOkB Tryd.prog 87 (ent_ddiref04_Valid (R := R)) :=
  ent_of (F := fun xs => ddiref04_Valid (gI [(entry xs) 0] 0)) (enc := enc_ddiref04_Valid) tabOk follows Tryd.func87 (by kernel_rfl) c_ddiref04_Valid (fun z r h => by
 obtain ⟨h1, h2⟩ := cond_some h
 cases h2
 exact (etaRV_eq h1).symm) ok_ddiref04_Valid (er_of (by kernel_rfl)) shp_ddiref04_Valid (fun xs => t_ddiref04_Valid (gI [(entry xs) 0] 0)) (fun xs K r h => by
 unfold ent_ddiref04_Valid at h
 exact ⟨(chk_some h).1, oB_some (chk_some h).2⟩)
def dec_ddiref05_in (z : AV) : Option Bool := cond (fitRV (.one .b) z) (some (aB z)) none
def enc_ddiref05_in (r : Bool) : AV := .bool r
def shp_ddiref05_in : Shp := ⟨[(0, .one (.l (.i .i64))), (1, .one (.l (.i .i64)))], []⟩
noncomputable def ddiref05_in_i (v0 : Int) (v1 : Int) : Option Bool :=
  (some ((decide (v0 ≥ (0 : Int))) && (decide (v0 ≤ v1))))
noncomputable def ddiref05_in := hull ddiref05_in_i
theorem ddiref05_in_eq : ddiref05_in = ddiref05_in_i := hull_eq _
noncomputable def a_ddiref05_in : AC Bool :=
  .seq (.reg [.op ⟨some 4, (.mv (.c (.bool false))), none⟩]) (.seq (.reg [.op ⟨some 5, (.mv (.t 0)), none⟩,
 .op ⟨some 6, (.bin .geq (.t 5) (.c (.int .i64 0))), none⟩,
 .op ⟨some 7, (.mv (.t 6)), none⟩,
 .grp 7 true [⟨some 8, (.mv (.t 0)), (some (7, true))⟩, ⟨some 9, (.mv (.t 1)), (some (7, true))⟩, ⟨some 10, (.bin .leq (.t 8) (.t 9)), (some (7, true))⟩] 11 (.t 10),
 .op ⟨some 4, (.mv (.t 11)), none⟩]) (.ret))
theorem ok_ddiref05_in : AC.ok Tryd.prog (TIof Tryd.prog) 12 0 (kret [.t 4] dec_ddiref05_in) a_ddiref05_in := (zA zT (zA zT zT))
theorem t_ddiref05_in (v0 : Int) (v1 : Int) : den 0 (kret [.t 4] dec_ddiref05_in) a_ddiref05_in (envOf [(0, (.int .i64 v0)), (1, (.int .i64 v1))]) (memOf []) (kend (kret [.t 4] dec_ddiref05_in)) = ddiref05_in v0 v1 := by
  rw [ddiref05_in_eq]; kernel_rfl
theorem c_ddiref05_in : cFn (TIof Tryd.prog) Tryd.f88 = some ⟨12, [.t 4], scOf a_ddiref05_in⟩ := by kernel_rfl
noncomputable def ent_ddiref05_in {R : Type} (xs : List AV) (K : AV → Option R) : Option R := chk (fitS shp_ddiref05_in (entry xs) Mem.none) (oB (ddiref05_in (gI [(entry xs) 0] 0) (gI [(entry xs) 1] 0)) fun r => K (enc_ddiref05_in r))
theorem k_ddiref05_in {R : Type} : EntOkB Tryd.prog 88 (ent_ddiref05_in (R := R)) :=
  ent_of (F := fun xs => ddiref05_in (gI [(entry xs) 0] 0) (gI [(entry xs) 1] 0)) (enc := enc_ddiref05_in) tabOk follows Tryd.func88 (by kernel_rfl) c_ddiref05_in (fun z r h => by
 obtain ⟨h1, h2⟩ := cond_some h
 cases h2
 exact (etaRV_eq h1).symm) ok_ddiref05_in (er_of (by kernel_rfl)) shp_ddiref05_in (fun xs => t_ddiref05_in (gI [(entry xs) 0] 0) (gI [(entry xs) 1] 0)) (fun xs K r h => by
 unfold ent_ddiref05_in at h
 exact ⟨(chk_some h).1, oB_some (chk_some h).2⟩)
def dec_ddiref05_text (z : AV) : Option Bool := cond (fitRV (.one .b) z) (some (aB z)) none
def enc_ddiref05_text (r : Bool) : AV := .bool r
def shp_ddiref05_text : Shp := ⟨[(0, .one (.l .s))], []⟩
noncomputable def ddiref05_text_i (v0 : List UInt8) : Option Bool :=
  (some ((decide ((v0.length : Int) ≥ (1 : Int))) && (decide ((v0.length : Int) ≤ (255 : Int)))))
noncomputable def ddiref05_text := hull ddiref05_text_i
theorem ddiref05_text_eq : ddiref05_text = ddiref05_text_i := hull_eq _
noncomputable def a_ddiref05_text : AC Bool :=
  .seq (.reg [.op ⟨some 2, (.mv (.c (.bool false))), none⟩]) (.seq (.reg [.op ⟨some 3, (.mv (.t 0)), none⟩,
 .op ⟨some 4, (.len true (.t 3)), none⟩,
 .op ⟨some 5, (.bin .geq (.t 4) (.c (.int .i64 1))), none⟩,
 .op ⟨some 6, (.mv (.t 5)), none⟩,
 .grp 6 true [⟨some 7, (.mv (.t 0)), (some (6, true))⟩, ⟨some 8, (.len true (.t 7)), (some (6, true))⟩, ⟨some 9, (.bin .leq (.t 8) (.c (.int .i64 255))), (some (6, true))⟩] 10 (.t 9),
 .op ⟨some 2, (.mv (.t 10)), none⟩]) (.ret))
theorem ok_ddiref05_text : AC.ok Tryd.prog (TIof Tryd.prog) 11 0 (kret [.t 2] dec_ddiref05_text) a_ddiref05_text := (zA zT (zA zT zT))
theorem t_ddiref05_text (v0 : List UInt8) : den 0 (kret [.t 2] dec_ddiref05_text) a_ddiref05_text (envOf [(0, (.str v0))]) (memOf []) (kend (kret [.t 2] dec_ddiref05_text)) = ddiref05_text v0 := by
  rw [ddiref05_text_eq]; kernel_rfl
theorem c_ddiref05_text : cFn (TIof Tryd.prog) Tryd.f89 = some ⟨11, [.t 2], scOf a_ddiref05_text⟩ := by kernel_rfl
noncomputable def ent_ddiref05_text {R : Type} (xs : List AV) (K : AV → Option R) : Option R := chk (fitS shp_ddiref05_text (entry xs) Mem.none) (oB (ddiref05_text (gS [(entry xs) 0] 0)) fun r => K (enc_ddiref05_text r))
theorem k_ddiref05_text {R : Type} : EntOkB Tryd.prog 89 (ent_ddiref05_text (R := R)) :=
  ent_of (F := fun xs => ddiref05_text (gS [(entry xs) 0] 0)) (enc := enc_ddiref05_text) tabOk follows Tryd.func89 (by kernel_rfl) c_ddiref05_text (fun z r h => by
 obtain ⟨h1, h2⟩ := cond_some h
 cases h2
 exact (etaRV_eq h1).symm) ok_ddiref05_text (er_of (by kernel_rfl)) shp_ddiref05_text (fun xs => t_ddiref05_text (gS [(entry xs) 0] 0)) (fun xs K r h => by
 unfold ent_ddiref05_text at h
 exact ⟨(chk_some h).1, oB_some (chk_some h).2⟩)
def dec_ddiref05_all (z : AV) : Option Bool := cond (fitRV (.one .b) z) (some (aB z)) none
def enc_ddiref05_all (r : Bool) : AV := .bool r
def shp_ddiref05_all_L6 : Shp := ⟨[(0, .one (.l (.i .u64))), (3, .one (.l (.i .i64)))], []⟩
noncomputable def ddiref05_all_L6_b  (v0 : Int) (v3 : Int) (next : Int → Option Bool) (kx0 : Unit → Option Bool) : Option Bool :=
  (bif (decide (v3 < (64 : Int))) then (bif decide ((IntKind.u64.wrap v3) < 0) then none else (bif ((ibits .and .u64 (v0.fdiv (2 ^ min (IntKind.u64.wrap v3).toNat IntKind.u64.bits)) (1 : Int)) == (1 : Int)) then (oB (ddiref05_Known v3) fun r1 => (bif (!r1) then (some false) else (next (IntKind.i64.wrap (v3 + (1 : Int)))))) else (next (IntKind.i64.wrap (v3 + (1 : Int)))))) else (kx0 ()))
noncomputable def ddiref05_all_L6_i  (v0 : Int) (kx0 : Unit → Option Bool) : Nat → Int → Option Bool
  | 0 => (fun _ => none)
  | n + 1 => (fun v3 => ddiref05_all_L6_b v0 v3 (ddiref05_all_L6_i v0 kx0 n) kx0)
noncomputable def ddiref05_all_L6 := hull (ddiref05_all_L6_i)
theorem ddiref05_all_L6_eq : ddiref05_all_L6 = ddiref05_all_L6_i := hull_eq _
noncomputable def a_ddiref05_all_L6 : AC Bool :=
  .seq (.seq (.reg [.op ⟨some 4, (.mv (.t 3)), none⟩,
 .op ⟨some 5, (.bin .lss (.t 4) (.c (.int .i64 64))), none⟩]) (.cond (.t 5) (.skip) (.seq (.view [.sel [] []]) (.exit 0)))) (.seq (.block 1 (.seq (.reg [.op ⟨some 8, (.mv (.t 0)), none⟩,
 .op ⟨some 9, (.mv (.t 3)), none⟩,
 .op ⟨some 10, (.conv (.int .u64) (.t 9)), none⟩,
 .op ⟨some 11, (.bin .shr (.t 8) (.t 10)), none⟩,
 .op ⟨some 12, (.bin .and (.t 11) (.c (.int .u64 1))), none⟩,
 .op ⟨some 13, (.bin .eql (.t 12) (.c (.int .u64 1))), none⟩,
 .op ⟨some 14, (.mv (.t 13)), none⟩,
 .op ⟨some 15, (.mv (.t 3)), (some (14, true))⟩,
 .call ⟨some 16, (.call 76 [.t 15]), (some (14, true))⟩ 76 ent_ddiref05_Known,
 .op ⟨some 17, (.un .not (.t 16)), (some (14, true))⟩,
 .op ⟨some 18, (.pick (.t 14) (.t 17) (.c (.bool false))), none⟩]) (.cond (.t 18) (.seq (.reg [.op ⟨some 2, (.mv (.c (.bool false))), none⟩]) (.ret)) (.skip)))) (.seq (.reg [.op ⟨some 6, (.mv (.t 3)), none⟩,
 .op ⟨some 7, (.bin .add (.t 6) (.c (.int .i64 1))), none⟩,
 .op ⟨some 3, (.mv (.t 7)), none⟩]) (.view [.sel [0, 3] []])))
theorem ok_ddiref05_all_L6 : AC.ok Tryd.prog (TIof Tryd.prog) 19 0 (kret [.t 2] dec_ddiref05_all) a_ddiref05_all_L6 := (zA (zA zT (zA zT (zA zT zT))) (zA (zA (zA (EntOkB.ok k_ddiref05_Known) zT) (zA (zA zT zT) zT)) (zA zT zT)))
theorem t_ddiref05_all_L6_b (v0 : Int) (v3 : Int) (K : Ex → Env → Mem → Option Bool) : den 0 (kret [.t 2] dec_ddiref05_all) a_ddiref05_all_L6 (envOf [(0, (.int .u64 v0)), (3, (.int .i64 v3))]) (memOf []) K = ddiref05_all_L6_b v0 v3 (fun z_v3 => K .norm (envOf [(0, (.int .u64 v0)), (3, (.int .i64 z_v3))]) (memOf [])) (fun _ => K (.exit 0) (envOf []) (memOf [])) := by kernel_rfl
theorem t_ddiref05_all_L6 (v0 : Int) (K : Ex → Env → Mem → Option Bool) : ∀ (n : Nat) (v3 : Int), iterD (den 0 (kret [.t 2] dec_ddiref05_all) a_ddiref05_all_L6) n (envOf [(0, (.int .u64 v0)), (3, (.int .i64 v3))]) (memOf []) K = ddiref05_all_L6 v0 (fun _ => K (.exit 0) (envOf []) (memOf [])) n v3 := by
  rw [ddiref05_all_L6_eq]
  intro n
  induction n with
  | zero => intros; rfl
  | succ n ih =>
 intro v3
 exact (t_ddiref05_all_L6_b v0 v3 (itK (den 0 (kret [.t 2] dec_ddiref05_all) a_ddiref05_all_L6) n K)).trans (congrArg (fun q => ddiref05_all_L6_b v0 v3 q (fun _ => K (.exit 0) (envOf []) (memOf []))) (funext fun v3 => ih v3))
noncomputable def s_ddiref05_all_L6 : Env → Mem → (Ex → Env → Mem → Option Bool) → Option Bool := fun t m K => chk (fitS0 shp_ddiref05_all_L6 t m) (cond (hdS shp_ddiref05_all_L6 t m) (ddiref05_all_L6 (gI [t 0] 0) (fun _ => K (.exit 0) (envOf []) (memOf [])) FU (gI [t 3] 0)) none)
theorem o_ddiref05_all_L6 : SubOk Tryd.prog (TIof Tryd.prog) 19 0 (kret [.t 2] dec_ddiref05_all) (.loop (scOf a_ddiref05_all_L6)) s_ddiref05_all_L6 :=
  loop_of tabOk follows ok_ddiref05_all_L6 (er_of (by kernel_rfl)) shp_ddiref05_all_L6 (fun t m K => congrArg (fun z => chk (fitS0 shp_ddiref05_all_L6 t m) (cond (hdS shp_ddiref05_all_L6 t m) z none)) (t_ddiref05_all_L6 (gI [t 0] 0) K FU (gI [t 3] 0)).symm)
def shp_ddiref05_all : Shp := ⟨[(0, .one (.l (.i .u64)))], []⟩
noncomputable def ddiref05_all_i (v0 : Int) : Option Bool :=
  (ddiref05_all_L6 v0 (fun (_ : Unit) => (some true)) FU (0 : Int))
noncomputable def ddiref05_all := hull ddiref05_all_i
theorem ddiref05_all_eq : ddiref05_all = ddiref05_all_i := hull_eq _
noncomputable def a_ddiref05_all : AC Bool :=
  .seq (.reg [.op ⟨some 2, (.mv (.c (.bool false))), none⟩]) (.seq (.seq (.reg [.op ⟨some 3, (.mv (.c (.int .i64 0))), none⟩]) (.block 0 (.seq (.view [.sel [0, 3] []]) (.sub (.loop (scOf a_ddiref05_all_L6)) s_ddiref05_all_L6)))) (.seq (.reg [.op ⟨some 2, (.mv (.c (.bool true))), none⟩]) (.ret)))
theorem ok_ddiref05_all : AC.ok Tryd.prog (TIof Tryd.prog) 19 0 (kret [.t 2] dec_ddiref05_all) a_ddiref05_all := (zA zT (zA (zA zT (zA zT o_ddiref05_all_L6)) (zA zT zT)))
theorem t_ddiref05_all (v0 : Int) : den 0 (kret [.t 2] dec_ddiref05_all) a_ddiref05_all (envOf [(0, (.int .u64 v0))]) (memOf []) (kend (kret [.t 2] dec_ddiref05_all)) = ddiref05_all v0 := by
  rw [ddiref05_all_eq]; kernel_rfl
theorem c_ddiref05_all : cFn (TIof Tryd.prog) Tryd.f90 = some ⟨19, [.t 2], scOf a_ddiref05_all⟩ := by kernel_rfl
noncomputable def ent_ddiref05_all {R : Type} (xs : List AV) (K : AV → Option R) : Option R := chk (fitS shp_ddiref05_all (entry xs) Mem.none) (oB (ddiref05_all (gI [(entry xs) 0] 0)) fun r => K (enc_ddiref05_all r))
theorem k_ddiref05_all {R : Type} : EntOkB Tryd.prog 90 (ent_ddiref05_all (R := R)) :=
  ent_of (F := fun xs => ddiref05_all (gI [(entry xs) 0] 0)) (enc := enc_ddiref05_all) tabOk follows Tryd.func90 (by kernel_rfl) c_ddiref05_all (fun z r h => by
 obtain ⟨h1, h2⟩ := cond_some h
 cases h2
 exact (etaRV_eq h1).symm) ok_ddiref05_all (er_of (by kernel_rfl)) shp_ddiref05_all (fun xs => t_ddiref05_all (gI [(entry xs) 0] 0)) (fun xs K r h => by
 unfold ent_ddiref05_all at h
 exact ⟨(chk_some h).1, oB_some (chk_some h).2⟩)
def dec_ddiref05_Valid (z : AV) : Option Bool := cond (fitRV (.one .b) z) (some (aB z)) none
def enc_ddiref05_Valid (r : Bool) : AV := .bool r
def shp_ddiref05_Valid_J4 : Shp := ⟨[(0, .one (.l (.i .i64))), (3, .one (.ptr 0 0))], [.box true [(.l .b), (.l (.i .u64)), (.l (.i .u64)), (.l .s), (.l .s), (.l .s), (.l (.i .i64)), (.l (.i .i64)), (.l (.i .i64)), (.l (.i .i64)), (.l (.i .i64)), (.l (.i .i64)), (.l (.i .u64))]]⟩
noncomputable def ddiref05_Valid_J4_i  (v0 : Int) (b0_0 : Bool) (b0_1 : Int) (b0_2 : Int) (b0_3 : List UInt8) (b0_4 : List UInt8) (b0_5 : List UInt8) (b0_6 : Int) (b0_7 : Int) (b0_8 : Int) (b0_9 : Int) (b0_10 : Int) (b0_11 : Int) (b0_12 : Int) (kn : Bool → Option Bool) : Option Bool :=
  (oB (ddiref05_Known v0) fun r1 => (bif (!r1) then (kn true) else (oB (ddiref05_used v0 b0_0 b0_1 b0_2 b0_3 b0_4 b0_5 b0_6 b0_7 b0_8 b0_9 b0_10 b0_11 b0_12) fun r2 => (kn (!(((gB r2.cells 0) == b0_0) && (((gI r2.cells 1) == b0_1) && (((gI r2.cells 2) == b0_2) && (((gS r2.cells 3) == b0_3) && (((gS r2.cells 4) == b0_4) && (((gS r2.cells 5) == b0_5) && (((gI r2.cells 6) == b0_6) && (((gI r2.cells 7) == b0_7) && (((gI r2.cells 8) == b0_8) && (((gI r2.cells 9) == b0_9) && (((gI r2.cells 10) == b0_10) && (((gI r2.cells 11) == b0_11) && (((gI r2.cells 12) == b0_12) && true))))))))))))))))))
noncomputable def ddiref05_Valid_J4 := hull (ddiref05_Valid_J4_i)
theorem ddiref05_Valid_J4_eq : ddiref05_Valid_J4 = ddiref05_Valid_J4_i := hull_eq _
noncomputable def a_ddiref05_Valid_J4 : AC Bool :=
  .seq (.draw [] [.op ⟨some 5, (.mv (.t 0)), none⟩,
 .call ⟨some 6, (.call 76 [.t 5]), none⟩ 76 ent_ddiref05_Known,
 .op ⟨some 7, (.un .not (.t 6)), none⟩,
 .op ⟨some 8, (.mv (.t 7)), none⟩,
 .op ⟨some 9, (.mv (.t 0)), (some (8, false))⟩,
 .op ⟨some 10, (.load true 13 (.t 3)), (some (8, false))⟩,
 .call ⟨some 11, (.call 85 [.t 9, .t 10]), (some (8, false))⟩ 85 ent_ddiref05_used,
 .op ⟨some 12, (.load true 13 (.t 3)), (some (8, false))⟩] [.op ⟨some 13, (.eq true true [.b, (.i .u64), (.i .u64), .s, .s, .s, (.i .i64), (.i .i64), (.i .i64), (.i .i64), (.i .i64), (.i .i64), (.i .u64)] (.t 11) (.t 12)), (some (8, false))⟩,
 .op ⟨some 14, (.pick (.t 8) (.c (.bool true)) (.t 13)), none⟩]) (.view [.sel [0, 3, 14] [0]])
theorem ok_ddiref05_Valid_J4 : AC.ok Tryd.prog (TIof Tryd.prog) 211 0 (kret [.t 4] dec_ddiref05_Valid) a_ddiref05_Valid_J4 := (zA (zA (zA (EntOkB.ok k_ddiref05_Known) (zA (EntOkB.ok k_ddiref05_used) zT)) (zA zT rfl)) zT)
theorem t_ddiref05_Valid_J4 (v0 : Int) (b0_0 : Bool) (b0_1 : Int) (b0_2 : Int) (b0_3 : List UInt8) (b0_4 : List UInt8) (b0_5 : List UInt8) (b0_6 : Int) (b0_7 : Int) (b0_8 : Int) (b0_9 : Int) (b0_10 : Int) (b0_11 : Int) (b0_12 : Int) (K : Ex → Env → Mem → Option Bool) : den 0 (kret [.t 4] dec_ddiref05_Valid) a_ddiref05_Valid_J4 (envOf [(0, (.int .i64 v0)), (3, (.ptr 0 0))]) (memOf [(some (.box true [(.bool b0_0), (.int .u64 b0_1), (.int .u64 b0_2), (.str b0_3), (.str b0_4), (.str b0_5), (.int .i64 b0_6), (.int .i64 b0_7), (.int .i64 b0_8), (.int .i64 b0_9), (.int .i64 b0_10), (.int .i64 b0_11), (.int .u64 b0_12)]))]) K = ddiref05_Valid_J4 v0 b0_0 b0_1 b0_2 b0_3 b0_4 b0_5 b0_6 b0_7 b0_8 b0_9 b0_10 b0_11 b0_12 (fun z_v14 => K .norm (envOf [(0, (.int .i64 v0)), (3, (.ptr 0 0)), (14, (.bool z_v14))]) (memOf [(some (.box true [(.bool b0_0), (.int .u64 b0_1), (.int .u64 b0_2), (.str b0_3), (.str b0_4), (.str b0_5), (.int .i64 b0_6), (.int .i64 b0_7), (.int .i64 b0_8), (.int .i64 b0_9), (.int .i64 b0_10), (.int .i64 b0_11), (.int .u64 b0_12)]))])) := by
  rw [ddiref05_Valid_J4_eq]; kernel_rfl
noncomputable def s_ddiref05_Valid_J4 : Env → Mem → (Ex → Env → Mem → Option Bool) → Option Bool := fun t m K => chk (fitS0 shp_ddiref05_Valid_J4 t m) (cond (hdS shp_ddiref05_Valid_J4 t m) (ddiref05_Valid_J4 (gI [t 0] 0) (gB (bxC (m.s 0)) 0) (gI (bxC (m.s 0)) 1) (gI (bxC (m.s 0)) 2) (gS (bxC (m.s 0)) 3) (gS (bxC (m.s 0)) 4) (gS (bxC (m.s 0)) 5) (gI (bxC (m.s 0)) 6) (gI (bxC (m.s 0)) 7) (gI (bxC (m.s 0)) 8) (gI (bxC (m.s 0)) 9) (gI (bxC (m.s 0)) 10) (gI (bxC (m.s 0)) 11) (gI (bxC (m.s 0)) 12) (fun z_v14 => K .norm (envOf [(0, (.int .i64 (gI [t 0] 0))), (3, (.ptr 0 0)), (14, (.bool z_v14))]) (memOf [(some (.box true [(.bool (gB (bxC (m.s 0)) 0)), (.int .u64 (gI (bxC (m.s 0)) 1)), (.int .u64 (gI (bxC (m.s 0)) 2)), (.str (gS (bxC (m.s 0)) 3)), (.str (gS (bxC (m.s 0)) 4)), (.str (gS (bxC (m.s 0)) 5)), (.int .i64 (gI (bxC (m.s 0)) 6)), (.int .i64 (gI (bxC (m.s 0)) 7)), (.int .i64 (gI (bxC (m.s 0)) 8)), (.int .i64 (gI (bxC (m.s 0)) 9)), (.int .i64 (gI (bxC (m.s 0)) 10)), (.int .i64 (gI (bxC (m.s 0)) 11)), (.int .u64 (gI (bxC (m.s 0)) 12))]))]))) none)
theorem o_ddiref05_Valid_J4 : SubOk Tryd.prog (TIof Tryd.prog) 211 0 (kret [.t 4] dec_ddiref05_Valid) (scOf a_ddiref05_Valid_J4) s_ddiref05_Valid_J4 :=
  sub_of tabOk follows ok_ddiref05_Valid_J4 (er_of (by kernel_rfl)) shp_ddiref05_Valid_J4 (fun t m K => congrArg (fun z => chk (fitS0 shp_ddiref05_Valid_J4 t m) (cond (hdS shp_ddiref05_Valid_J4 t m) z none)) (t_ddiref05_Valid_J4 (gI [t 0] 0) (gB (bxC (m.s 0)) 0) (gI (bxC (m.s 0)) 1) (gI (bxC (m.s 0)) 2) (gS (bxC (m.s 0)) 3) (gS (bxC (m.s 0)) 4) (gS (bxC (m.s 0)) 5) (gI (bxC (m.s 0)) 6) (gI (bxC (m.s 0)) 7) (gI (bxC (m.s 0)) 8) (gI (bxC (m.s 0)) 9) (gI (bxC (m.s 0)) 10) (gI (bxC (m.s 0)) 11) (gI (bxC (m.s 0)) 12) K).symm)
def shp_ddiref05_Valid_J30 : Shp := ⟨[(3, .one (.ptr 0 0))], [.box true [(.l .b), (.l (.i .u64)), (.l (.i .u64)), (.l .s), (.l .s), (.l .s), (.l (.i .i64)), (.l (.i .i64)), (.l (.i .i64)), (.l (.i .i64)), (.l (.i .i64)), (.l (.i .i64)), (.l (.i .u64))]]⟩
noncomputable def ddiref05_Valid_J30_i  (b0_0 : Bool) (b0_1 : Int) (b0_2 : Int) (b0_3 : List UInt8) (b0_4 : List UInt8) (b0_5 : List UInt8) (b0_6 : Int) (b0_7 : Int) (b0_8 : Int) (b0_9 : Int) (b0_10 : Int) (b0_11 : Int) (b0_12 : Int) (kn : Bool → Option Bool) : Option Bool :=
  (oB (ddiref05_host b0_3) fun r1 => (bif r1 then (oB (ddiref05_host b0_4) fun r2 => (bif r2 then (oB (ddiref04_Valid b0_6) fun r3 => (bif r3 then (oB (ddiref05_in b0_7 (2147483647 : Int)) fun r4 => (bif r4 then (oB (ddiref05_in b0_8 (2147483647 : Int)) fun r5 => (bif r5 then (oB (ddiref05_in b0_9 (2147483647 : Int)) fun r6 => (bif r6 then (oB (ddiref05_in b0_10 (2147483647 : Int)) fun r7 => (kn r7)) else (kn false))) else (kn false))) else (kn false))) else (kn false))) else (kn false))) else (kn false)))
noncomputable def ddiref05_Valid_J30 := hull (ddiref05_Valid_J30_i)
theorem ddiref05_Valid_J30_eq : ddiref05_Valid_J30 = ddiref05_Valid_J30_i := hull_eq _
noncomputable def a_ddiref05_Valid_J30 : AC Bool :=
  .seq (.reg [.op ⟨some 34, (.fa 3 (.t 3)), none⟩,
 .op ⟨some 35, (.load false 1 (.t 34)), none⟩,
 .call ⟨some 36, (.call 86 [.t 35]), none⟩ 86 ent_ddiref05_host,
 .op ⟨some 37, (.mv (.t 36)), none⟩,
 .op ⟨some 38, (.fa 4 (.t 3)), (some (37, true))⟩,
 .op ⟨some 39, (.load false 1 (.t 38)), (some (37, true))⟩,
 .call ⟨some 40, (.call 86 [.t 39]), (some (37, true))⟩ 86 ent_ddiref05_host,
 .op ⟨some 41, (.pick (.t 37) (.t 40) (.c (.bool false))), none⟩,
 .op ⟨some 42, (.mv (.t 41)), none⟩,
 .op ⟨some 43, (.fa 6 (.t 3)), (some (42, true))⟩,
 .op ⟨some 44, (.load false 1 (.t 43)), (some (42, true))⟩,
 .call ⟨some 45, (.call 87 [.t 44]), (some (42, true))⟩ 87 ent_ddiref04_Valid,
 .op ⟨some 46, (.pick (.t 42) (.t 45) (.c (.bool false))), none⟩,
 .op ⟨some 47, (.mv (.t 46)), none⟩,
 .op ⟨some 48, (.fa 7 (.t 3)), (some (47, true))⟩,
 .op ⟨some 49, (.load false 1 (.t 48)), (some (47, true))⟩,
 .call ⟨some 50, (.call 88 [.t 49, (.c (.int .i64 2147483647))]), (some (47, true))⟩ 88 ent_ddiref05_in,
 .op ⟨some 51, (.pick (.t 47) (.t 50) (.c (.bool false))), none⟩,
 .op ⟨some 52, (.mv (.t 51)), none⟩,
 .op ⟨some 53, (.fa 8 (.t 3)), (some (52, true))⟩,
 .op ⟨some 54, (.load false 1 (.t 53)), (some (52, true))⟩,
 .call ⟨some 55, (.call 88 [.t 54, (.c (.int .i64 2147483647))]), (some (52, true))⟩ 88 ent_ddiref05_in,
 .op ⟨some 56, (.pick (.t 52) (.t 55) (.c (.bool false))), none⟩,
 .op ⟨some 57, (.mv (.t 56)), none⟩,
 .op ⟨some 58, (.fa 9 (.t 3)), (some (57, true))⟩,
 .op ⟨some 59, (.load false 1 (.t 58)), (some (57, true))⟩,
 .call ⟨some 60, (.call 88 [.t 59, (.c (.int .i64 2147483647))]), (some (57, true))⟩ 88 ent_ddiref05_in,
 .op ⟨some 61, (.pick (.t 57) (.t 60) (.c (.bool false))), none⟩,
 .op ⟨some 62, (.mv (.t 61)), none⟩,
 .op ⟨some 63, (.fa 10 (.t 3)), (some (62, true))⟩,
 .op ⟨some 64, (.load false 1 (.t 63)), (some (62, true))⟩,
 .call ⟨some 65, (.call 88 [.t 64, (.c (.int .i64 2147483647))]), (some (62, true))⟩ 88 ent_ddiref05_in,
 .op ⟨some 66, (.pick (.t 62) (.t 65) (.c (.bool false))), none⟩,
 .op ⟨some 4, (.mv (.t 66)), none⟩]) (.view [.sel [4] []])
theorem ok_ddiref05_Valid_J30 : AC.ok Tryd.prog (TIof Tryd.prog) 211 0 (kret [.t 4] dec_ddiref05_Valid) a_ddiref05_Valid_J30 := (zA (zA (EntOkB.ok k_ddiref05_host) (zA (EntOkB.ok k_ddiref05_host) (zA (EntOkB.ok k_ddiref04_Valid) (zA (EntOkB.ok k_ddiref05_in) (zA (EntOkB.ok k_ddiref05_in) (zA (EntOkB.ok k_ddiref05_in) (zA (EntOkB.ok k_ddiref05_in) zT))))))) zT)
theorem t_ddiref05_Valid_J30 (b0_0 : Bool) (b0_1 : Int) (b0_2 : Int) (b0_3 : List UInt8) (b0_4 : List UInt8) (b0_5 : List UInt8) (b0_6 : Int) (b0_7 : Int) (b0_8 : Int) (b0_9 : Int) (b0_10 : Int) (b0_11 : Int) (b0_12 : Int) (K : Ex → Env → Mem → Option Bool) : den 0 (kret [.t 4] dec_ddiref05_Valid) a_ddiref05_Valid_J30 (envOf [(3, (.ptr 0 0))]) (memOf [(some (.box true [(.bool b0_0), (.int .u64 b0_1), (.int .u64 b0_2), (.str b0_3), (.str b0_4), (.str b0_5), (.int .i64 b0_6), (.int .i64 b0_7), (.int .i64 b0_8), (.int .i64 b0_9), (.int .i64 b0_10), (.int .i64 b0_11), (.int .u64 b0_12)]))]) K = ddiref05_Valid_J30 b0_0 b0_1 b0_2 b0_3 b0_4 b0_5 b0_6 b0_7 b0_8 b0_9 b0_10 b0_11 b0_12 (fun z_v4 => K .norm (envOf [(4, (.bool z_v4))]) (memOf [])) := by
  rw [ddiref05_Valid_J30_eq]; kernel_rfl
noncomputable def s_ddiref05_Valid_J30 : Env → Mem → (Ex → Env → Mem → Option Bool) → Option Bool := fun t m K => chk (fitS0 shp_ddiref05_Valid_J30 t m) (cond (hdS shp_ddiref05_Valid_J30 t m) (ddiref05_Valid_J30 (gB (bxC (m.s 0)) 0) (gI (bxC (m.s 0)) 1) (gI (bxC (m.s 0)) 2) (gS (bxC (m.s 0)) 3) (gS (bxC (m.s 0)) 4) (gS (bxC (m.s 0)) 5) (gI (bxC (m.s 0)) 6) (gI (bxC (m.s 0)) 7) (gI (bxC (m.s 0)) 8) (gI (bxC (m.s 0)) 9) (gI (bxC (m.s 0)) 10) (gI (bxC (m.s 0)) 11) (gI (bxC (m.s 0)) 12) (fun z_v4 => K .norm (envOf [(4, (.bool z_v4))]) (memOf []))) none)
theorem o_ddiref05_Valid_J30 : SubOk Tryd.prog (TIof Tryd.prog) 211 0 (kret [.t 4] dec_ddiref05_Valid) (scOf a_ddiref05_Valid_J30) s_ddiref05_Valid_J30 :=
  sub_of tabOk follows ok_ddiref05_Valid_J30 (er_of (by kernel_rfl)) shp_ddiref05_Valid_J30 (fun t m K => congrArg (fun z => chk (fitS0 shp_ddiref05_Valid_J30 t m) (cond (hdS shp_ddiref05_Valid_J30 t m) z none)) (t_ddiref05_Valid_J30 (gB (bxC (m.s 0)) 0) (gI (bxC (m.s 0)) 1) (gI (bxC (m.s 0)) 2) (gS (bxC (m.s 0)) 3) (gS (bxC (m.s 0)) 4) (gS (bxC (m.s 0)) 5) (gI (bxC (m.s 0)) 6) (gI (bxC (m.s 0)) 7) (gI (bxC (m.s 0)) 8) (gI (bxC (m.s 0)) 9) (gI (bxC (m.s 0)) 10) (gI (bxC (m.s 0)) 11) (gI (bxC (m.s 0)) 12) K).symm)
def shp_ddiref05_Valid_J48 : Shp := ⟨[(3, .one (.ptr 0 0))], [.box true [(.l .b), (.l (.i .u64)), (.l (.i .u64)), (.l .s), (.l .s), (.l .s), (.l (.i .i64)), (.l (.i .i64)), (.l (.i .i64)), (.l (.i .i64)), (.l (.i .i64)), (.l (.i .i64)), (.l (.i .u64))]]⟩
noncomputable def ddiref05_Valid_J48_i  (b0_0 : Bool) (b0_1 : Int) (b0_2 : Int) (b0_3 : List UInt8) (b0_4 : List UInt8) (b0_5 : List UInt8) (b0_6 : Int) (b0_7 : Int) (b0_8 : Int) (b0_9 : Int) (b0_10 : Int) (b0_11 : Int) (b0_12 : Int) (kn : Bool → Option Bool) : Option Bool :=
  (oB (ddiref05_host b0_3) fun r1 => (bif r1 then (oB (ddiref05_in b0_6 (65535 : Int)) fun r2 => (bif r2 then (oB (ddiref05_in b0_7 (65535 : Int)) fun r3 => (bif r3 then (oB (ddiref05_in b0_8 (65535 : Int)) fun r4 => (kn r4)) else (kn false))) else (kn false))) else (kn false)))
noncomputable def ddiref05_Valid_J48 := hull (ddiref05_Valid_J48_i)
theorem ddiref05_Valid_J48_eq : ddiref05_Valid_J48 = ddiref05_Valid_J48_i := hull_eq _
noncomputable def a_ddiref05_Valid_J48 : AC Bool :=
  .seq (.reg [.op ⟨some 85, (.fa 3 (.t 3)), none⟩,
 .op ⟨some 86, (.load false 1 (.t 85)), none⟩,
 .call ⟨some 87, (.call 86 [.t 86]), none⟩ 86 ent_ddiref05_host,
 .op ⟨some 88, (.mv (.t 87)), none⟩,
 .op ⟨some 89, (.fa 6 (.t 3)), (some (88, true))⟩,
 .op ⟨some 90, (.load false 1 (.t 89)), (some (88, true))⟩,
 .call ⟨some 91, (.call 88 [.t 90, (.c (.int .i64 65535))]), (some (88, true))⟩ 88 ent_ddiref05_in,
 .op ⟨some 92, (.pick (.t 88) (.t 91) (.c (.bool false))), none⟩,
 .op ⟨some 93, (.mv (.t 92)), none⟩,
 .op ⟨some 94, (.fa 7 (.t 3)), (some (93, true))⟩,
 .op ⟨some 95, (.load false 1 (.t 94)), (some (93, true))⟩,
 .call ⟨some 96, (.call 88 [.t 95, (.c (.int .i64 65535))]), (some (93, true))⟩ 88 ent_ddiref05_in,
 .op ⟨some 97, (.pick (.t 93) (.t 96) (.c (.bool false))), none⟩,
 .op ⟨some 98, (.mv (.t 97)), none⟩,
 .op ⟨some 99, (.fa 8 (.t 3)), (some (98, true))⟩,
 .op ⟨some 100, (.load false 1 (.t 99)), (some (98, true))⟩,
 .call ⟨some 101, (.call 88 [.t 100, (.c (.int .i64 65535))]), (some (98, true))⟩ 88 ent_ddiref05_in,
 .op ⟨some 102, (.pick (.t 98) (.t 101) (.c (.bool false))), none⟩,
 .op ⟨some 4, (.mv (.t 102)), none⟩]) (.view [.sel [4] []])
theorem ok_ddiref05_Valid_J48 : AC.ok Tryd.prog (TIof Tryd.prog) 211 0 (kret [.t 4] dec_ddiref05_Valid) a_ddiref05_Valid_J48 := (zA (zA (EntOkB.ok k_ddiref05_host) (zA (EntOkB.ok k_ddiref05_in) (zA (EntOkB.ok k_ddiref05_in) (zA (EntOkB.ok k_ddiref05_in) zT)))) zT)
theorem t_ddiref05_Valid_J48 (b0_0 : Bool) (b0_1 : Int) (b0_2 : Int) (b0_3 : List UInt8) (b0_4 : List UInt8) (b0_5 : List UInt8) (b0_6 : Int) (b0_7 : Int) (b0_8 : Int) (b0_9 : Int) (b0_10 : Int) (b0_11 : Int) (b0_12 : Int) (K : Ex → Env → Mem → Option Bool) : den 0 (kret [.t 4] dec_ddiref05_Valid) a_ddiref05_Valid_J48 (envOf [(3, (.ptr 0 0))]) (memOf [(some (.box true [(.bool b0_0), (.int .u64 b0_1), (.int .u64 b0_2), (.str b0_3), (.str b0_4), (.str b0_5), (.int .i64 b0_6), (.int .i64 b0_7), (.int .i64 b0_8), (.int .i64 b0_9), (.int .i64 b0_10), (.int .i64 b0_11), (.int .u64 b0_12)]))]) K = ddiref05_Valid_J48 b0_0 b0_1 b0_2 b0_3 b0_4 b0_5 b0_6 b0_7 b0_8 b0_9 b0_10 b0_11 b0_12 (fun z_v4 => K .norm (envOf [(4, (.bool z_v4))]) (memOf [])) := by
  rw [ddiref05_Valid_J48_eq]; kernel_rfl
noncomputable def s_ddiref05_Valid_J48 : Env → Mem → (Ex → Env → Mem → Option Bool) → Option Bool := fun t m K => chk (fitS0 shp_ddiref05_Valid_J48 t m) (cond (hdS shp_ddiref05_Valid_J48 t m) (ddiref05_Valid_J48 (gB (bxC (m.s 0)) 0) (gI (bxC (m.s 0)) 1) (gI (bxC (m.s 0)) 2) (gS (bxC (m.s 0)) 3) (gS (bxC (m.s 0)) 4) (gS (bxC (m.s 0)) 5) (gI (bxC (m.s 0)) 6) (gI (bxC (m.s 0)) 7) (gI (bxC (m.s 0)) 8) (gI (bxC (m.s 0)) 9) (gI (bxC (m.s 0)) 10) (gI (bxC (m.s 0)) 11) (gI (bxC (m.s 0)) 12) (fun z_v4 => K .norm (envOf [(4, (.bool z_v4))]) (memOf []))) none)
theorem o_ddiref05_Valid_J48 : SubOk Tryd.prog (TIof Tryd.prog) 211 0 (kret [.t 4] dec_ddiref05_Valid) (scOf a_ddiref05_Valid_J48) s_ddiref05_Valid_J48 :=
  sub_of tabOk follows ok_ddiref05_Valid_J48 (er_of (by kernel_rfl)) shp_ddiref05_Valid_J48 (fun t m K => congrArg (fun z => chk (fitS0 shp_ddiref05_Valid_J48 t m) (cond (hdS shp_ddiref05_Valid_J48 t m) z none)) (t_ddiref05_Valid_J48 (gB (bxC (m.s 0)) 0) (gI (bxC (m.s 0)) 1) (gI (bxC (m.s 0)) 2) (gS (bxC (m.s 0)) 3) (gS (bxC (m.s 0)) 4) (gS (bxC (m.s 0)) 5) (gI (bxC (m.s 0)) 6) (gI (bxC (m.s 0)) 7) (gI (bxC (m.s 0)) 8) (gI (bxC (m.s 0)) 9) (gI (bxC (m.s 0)) 10) (gI (bxC (m.s 0)) 11) (gI (bxC (m.s 0)) 12) K).symm)
def shp_ddiref05_Valid_J54 : Shp := ⟨[(3, .one (.ptr 0 0))], [.box true [(.l .b), (.l (.i .u64)), (.l (.i .u64)), (.l .s), (.l .s), (.l .s), (.l (.i .i64)), (.l (.i .i64)), (.l (.i .i64)), (.l (.i .i64)), (.l (.i .i64)), (.l (.i .i64)), (.l (.i .u64))]]⟩
noncomputable def ddiref05_Valid_J54_i  (b0_0 : Bool) (b0_1 : Int) (b0_2 : Int) (b0_3 : List UInt8) (b0_4 : List UInt8) (b0_5 : List UInt8) (b0_6 : Int) (b0_7 : Int) (b0_8 : Int) (b0_9 : Int) (b0_10 : Int) (b0_11 : Int) (b0_12 : Int) (kn : Bool → Option Bool) : Option Bool :=
  (oB (ddiref05_in b0_6 (65535 : Int)) fun r1 => (bif r1 then (oB (ddiref05_in b0_7 (255 : Int)) fun r2 => (bif r2 then (oB (ddiref05_in b0_8 (255 : Int)) fun r3 => (bif r3 then (oB (ddiref05_text b0_5) fun r4 => (kn r4)) else (kn false))) else (kn false))) else (kn false)))
noncomputable def ddiref05_Valid_J54 := hull (ddiref05_Valid_J54_i)
theorem ddiref05_Valid_J54_eq : ddiref05_Valid_J54 = ddiref05_Valid_J54_i := hull_eq _
noncomputable def a_ddiref05_Valid_J54 : AC Bool :=
  .seq (.reg [.op ⟨some 105, (.fa 6 (.t 3)), none⟩,
 .op ⟨some 106, (.load false 1 (.t 105)), none⟩,
 .call ⟨some 107, (.call 88 [.t 106, (.c (.int .i64 65535))]), none⟩ 88 ent_ddiref05_in,
 .op ⟨some 108, (.mv (.t 107)), none⟩,
 .op ⟨some 109, (.fa 7 (.t 3)), (some (108, true))⟩,
 .op ⟨some 110, (.load false 1 (.t 109)), (some (108, true))⟩,
 .call ⟨some 111, (.call 88 [.t 110, (.c (.int .i64 255))]), (some (108, true))⟩ 88 ent_ddiref05_in,
 .op ⟨some 112, (.pick (.t 108) (.t 111) (.c (.bool false))), none⟩,
 .op ⟨some 113, (.mv (.t 112)), none⟩,
 .op ⟨some 114, (.fa 8 (.t 3)), (some (113, true))⟩,
 .op ⟨some 115, (.load false 1 (.t 114)), (some (113, true))⟩,
 .call ⟨some 116, (.call 88 [.t 115, (.c (.int .i64 255))]), (some (113, true))⟩ 88 ent_ddiref05_in,
 .op ⟨some 117, (.pick (.t 113) (.t 116) (.c (.bool false))), none⟩,
 .op ⟨some 118, (.mv (.t 117)), none⟩,
 .op ⟨some 119, (.fa 5 (.t 3)), (some (118, true))⟩,
 .op ⟨some 120, (.load false 1 (.t 119)), (some (118, true))⟩,
 .call ⟨some 121, (.call 89 [.t 120]), (some (118, true))⟩ 89 ent_ddiref05_text,
 .op ⟨some 122, (.pick (.t 118) (.t 121) (.c (.bool false))), none⟩,
 .op ⟨some 4, (.mv (.t 122)), none⟩]) (.view [.sel [4] []])
theorem ok_ddiref05_Valid_J54 : AC.ok Tryd.prog (TIof Tryd.prog) 211 0 (kret [.t 4] dec_ddiref05_Valid) a_ddiref05_Valid_J54 := (zA (zA (EntOkB.ok k_ddiref05_in) (zA (EntOkB.ok k_ddiref05_in) (zA (EntOkB.ok k_ddiref05_in) (zA (EntOkB.ok k_ddiref05_text) zT)))) zT)
theorem t_ddiref05_Valid_J54 (b0_0 : Bool) (b0_1 : Int) (b0_2 : Int) (b0_3 : List UInt8) (b0_4 : List UInt8) (b0_5 : List UInt8) (b0_6 : Int) (b0_7 : Int) (b0_8 : Int) (b0_9 : Int) (b0_10 : Int) (b0_11 : Int) (b0_12 : Int) (K : Ex → Env → Mem → Option Bool) : den 0 (kret [.t 4] dec_ddiref05_Valid) a_ddiref05_Valid_J54 (envOf [(3, (.ptr 0 0))]) (memOf [(some (.box true [(.bool b0_0), (.int .u64 b0_1), (.int .u64 b0_2), (.str b0_3), (.str b0_4), (.str b0_5), (.int .i64 b0_6), (.int .i64 b0_7), (.int .i64 b0_8), (.int .i64 b0_9), (.int .i64 b0_10), (.int .i64 b0_11), (.int .u64 b0_12)]))]) K = ddiref05_Valid_J54 b0_0 b0_1 b0_2 b0_3 b0_4 b0_5 b0_6 b0_7 b0_8 b0_9 b0_10 b0_11 b0_12 (fun z_v4 => K .norm (envOf [(4, (.bool z_v4))]) (memOf [])) := by
  rw [ddiref05_Valid_J54_eq]; kernel_rfl
noncomputable def s_ddiref05_Valid_J54 : Env → Mem → (Ex → Env → Mem → Option Bool) → Option Bool := fun t m K => chk (fitS0 shp_ddiref05_Valid_J54 t m) (cond (hdS shp_ddiref05_Valid_J54 t m) (ddiref05_Valid_J54 (gB (bxC (m.s 0)) 0) (gI (bxC (m.s 0)) 1) (gI (bxC (m.s 0)) 2) (gS (bxC (m.s 0)) 3) (gS (bxC (m.s 0)) 4) (gS (bxC (m.s 0)) 5) (gI (bxC (m.s 0)) 6) (gI (bxC (m.s 0)) 7) (gI (bxC (m.s 0)) 8) (gI (bxC (m.s 0)) 9) (gI (bxC (m.s 0)) 10) (gI (bxC (m.s 0)) 11) (gI (bxC (m.s 0)) 12) (fun z_v4 => K .norm (envOf [(4, (.bool z_v4))]) (memOf []))) none)
theorem o_ddiref05_Valid_J54 : SubOk Tryd.prog (TIof Tryd.prog) 211 0 (kret [.t 4] dec_ddiref05_Valid) (scOf a_ddiref05_Valid_J54) s_ddiref05_Valid_J54 :=
  sub_of tabOk follows ok_ddiref05_Valid_J54 (er_of (by kernel_rfl)) shp_ddiref05_Valid_J54 (fun t m K => congrArg (fun z => chk (fitS0 shp_ddiref05_Valid_J54 t m) (cond (hdS shp_ddiref05_Valid_J54 t m) z none)) (t_ddiref05_Valid_J54 (gB (bxC (m.s 0)) 0) (gI (bxC (m.s 0)) 1) (gI (bxC (m.s 0)) 2) (gS (bxC (m.s 0)) 3) (gS (bxC (m.s 0)) 4) (gS (bxC (m.s 0)) 5) (gI (bxC (m.s 0)) 6) (gI (bxC (m.s 0)) 7) (gI (bxC (m.s 0)) 8) (gI (bxC (m.s 0)) 9) (gI (bxC (m.s 0)) 10) (gI (bxC (m.s 0)) 11) (gI (bxC (m.s 0)) 12) K).symm)
def shp_ddiref05_Valid_J60 : Shp := ⟨[(3, .one (.ptr 0 0))], [.box true [(.l .b), (.l (.i .u64)), (.l (.i .u64)), (.l .s), (.l .s), (.l .s), (.l (.i .i64)), (.l (.i .i64)), (.l (.i .i64)), (.l (.i .i64)), (.l (.i .i64)), (.l (.i .i64)), (.l (.i .u64))]]⟩
noncomputable def ddiref05_Valid_J60_i  (b0_0 : Bool) (b0_1 : Int) (b0_2 : Int) (b0_3 : List UInt8) (b0_4 : List UInt8) (b0_5 : List UInt8) (b0_6 : Int) (b0_7 : Int) (b0_8 : Int) (b0_9 : Int) (b0_10 : Int) (b0_11 : Int) (b0_12 : Int) (kn : Bool → Option Bool) : Option Bool :=
  (oB (ddiref05_Known b0_6) fun r1 => (bif (r1 && (b0_6 != (46 : Int))) then (oB (ddiref05_in b0_7 (127 : Int)) fun r2 => (bif r2 then (oB (ddiref05_in b0_8 (2147483647 : Int)) fun r3 => (bif r3 then (oB (ddiref05_in b0_9 (4294967295 : Int)) fun r4 => (bif r4 then (oB (ddiref05_in b0_10 (4294967295 : Int)) fun r5 => (bif r5 then (oB (ddiref05_in b0_11 (65535 : Int)) fun r6 => (bif r6 then (oB (ddiref05_host b0_3) fun r7 => (bif r7 then (oB (ddiref05_text b0_5) fun r8 => (kn r8)) else (kn false))) else (kn false))) else (kn false))) else (kn false))) else (kn false))) else (kn false))) else (kn false)))
noncomputable def ddiref05_Valid_J60 := hull (ddiref05_Valid_J60_i)
theorem ddiref05_Valid_J60_eq : ddiref05_Valid_J60 = ddiref05_Valid_J60_i := hull_eq _
noncomputable def a_ddiref05_Valid_J60 : AC Bool :=
  .seq (.reg [.op ⟨some 125, (.fa 6 (.t 3)), none⟩,
 .op ⟨some 126, (.load false 1 (.t 125)), none⟩,
 .call ⟨some 127, (.call 76 [.t 126]), none⟩ 76 ent_ddiref05_Known,
 .op ⟨some 128, (.mv (.t 127)), none⟩,
 .grp 128 true [⟨some 129, (.fa 6 (.t 3)), (some (128, true))⟩, ⟨some 130, (.load false 1 (.t 129)), (some (128, true))⟩, ⟨some 131, (.bin .neq (.t 130) (.c (.int .i64 46))), (some (128, true))⟩] 132 (.t 131),
 .op ⟨some 133, (.mv (.t 132)), none⟩,
 .op ⟨some 134, (.fa 7 (.t 3)), (some (133, true))⟩,
 .op ⟨some 135, (.load false 1 (.t 134)), (some (133, true))⟩,
 .call ⟨some 136, (.call 88 [.t 135, (.c (.int .i64 127))]), (some (133, true))⟩ 88 ent_ddiref05_in,
 .op ⟨some 137, (.pick (.t 133) (.t 136) (.c (.bool false))), none⟩,
 .op ⟨some 138, (.mv (.t 137)), none⟩,
 .op ⟨some 139, (.fa 8 (.t 3)), (some (138, true))⟩,
 .op ⟨some 140, (.load false 1 (.t 139)), (some (138, true))⟩,
 .call ⟨some 141, (.call 88 [.t 140, (.c (.int .i64 2147483647))]), (some (138, true))⟩ 88 ent_ddiref05_in,
 .op ⟨some 142, (.pick (.t 138) (.t 141) (.c (.bool false))), none⟩,
 .op ⟨some 143, (.mv (.t 142)), none⟩,
 .op ⟨some 144, (.fa 9 (.t 3)), (some (143, true))⟩,
 .op ⟨some 145, (.load false 1 (.t 144)), (some (143, true))⟩,
 .call ⟨some 146, (.call 88 [.t 145, (.c (.int .i64 4294967295))]), (some (143, true))⟩ 88 ent_ddiref05_in,
 .op ⟨some 147, (.pick (.t 143) (.t 146) (.c (.bool false))), none⟩,
 .op ⟨some 148, (.mv (.t 147)), none⟩,
 .op ⟨some 149, (.fa 10 (.t 3)), (some (148, true))⟩,
 .op ⟨some 150, (.load false 1 (.t 149)), (some (148, true))⟩,
 .call ⟨some 151, (.call 88 [.t 150, (.c (.int .i64 4294967295))]), (some (148, true))⟩ 88 ent_ddiref05_in,
 .op ⟨some 152, (.pick (.t 148) (.t 151) (.c (.bool false))), none⟩,
 .op ⟨some 153, (.mv (.t 152)), none⟩,
 .op ⟨some 154, (.fa 11 (.t 3)), (some (153, true))⟩,
 .op ⟨some 155, (.load false 1 (.t 154)), (some (153, true))⟩,
 .call ⟨some 156, (.call 88 [.t 155, (.c (.int .i64 65535))]), (some (153, true))⟩ 88 ent_ddiref05_in,
 .op ⟨some 157, (.pick (.t 153) (.t 156) (.c (.bool false))), none⟩,
 .op ⟨some 158, (.mv (.t 157)), none⟩,
 .op ⟨some 159, (.fa 3 (.t 3)), (some (158, true))⟩,
 .op ⟨some 160, (.load false 1 (.t 159)), (some (158, true))⟩,
 .call ⟨some 161, (.call 86 [.t 160]), (some (158, true))⟩ 86 ent_ddiref05_host,
 .op ⟨some 162, (.pick (.t 158) (.t 161) (.c (.bool false))), none⟩,
 .op ⟨some 163, (.mv (.t 162)), none⟩,
 .op ⟨some 164, (.fa 5 (.t 3)), (some (163, true))⟩,
 .op ⟨some 165, (.load false 1 (.t 164)), (some (163, true))⟩,
 .call ⟨some 166, (.call 89 [.t 165]), (some (163, true))⟩ 89 ent_ddiref05_text,
 .op ⟨some 167, (.pick (.t 163) (.t 166) (.c (.bool false))), none⟩,
 .op ⟨some 4, (.mv (.t 167)), none⟩]) (.view [.sel [4] []])
theorem ok_ddiref05_Valid_J60 : AC.ok Tryd.prog (TIof Tryd.prog) 211 0 (kret [.t 4] dec_ddiref05_Valid) a_ddiref05_Valid_J60 := (zA (zA (EntOkB.ok k_ddiref05_Known) (zA (EntOkB.ok k_ddiref05_in) (zA (EntOkB.ok k_ddiref05_in) (zA (EntOkB.ok k_ddiref05_in) (zA (EntOkB.ok k_ddiref05_in) (zA (EntOkB.ok k_ddiref05_in) (zA (EntOkB.ok k_ddiref05_host) (zA (EntOkB.ok k_ddiref05_text) zT)))))))) zT)
theorem t_ddiref05_Valid_J60 (b0_0 : Bool) (b0_1 : Int) (b0_2 : Int) (b0_3 : List UInt8) (b0_4 : List UInt8) (b0_5 : List UInt8) (b0_6 : Int) (b0_7 : Int) (b0_8 : Int) (b0_9 : Int) (b0_10 : Int) (b0_11 : Int) (b0_12 : Int) (K : Ex → Env → Mem → Option Bool) : den 0 (kret [.t 4] dec_ddiref05_Valid) a_ddiref05_Valid_J60 (envOf [(3, (.ptr 0 0))]) (memOf [(some (.box true [(.bool b0_0), (.int .u64 b0_1), (.int .u64 b0_2), (.str b0_3), (.str b0_4), (.str b0_5), (.int .i64 b0_6), (.int .i64 b0_7), (.int .i64 b0_8), (.int .i64 b0_9), (.int .i64 b0_10), (.int .i64 b0_11), (.int .u64 b0_12)]))]) K = ddiref05_Valid_J60 b0_0 b0_1 b0_2 b0_3 b0_4 b0_5 b0_6 b0_7 b0_8 b0_9 b0_10 b0_11 b0_12 (fun z_v4 => K .norm (envOf [(4, (.bool z_v4))]) (memOf [])) := by
  rw [ddiref05_Valid_J60_eq]; kernel_rfl
noncomputable def s_ddiref05_Valid_J60 : Env → Mem → (Ex → Env → Mem → Option Bool) → Option Bool := fun t m K => chk (fitS0 shp_ddiref05_Valid_J60 t m) (cond (hdS shp_ddiref05_Valid_J60 t m) (ddiref05_Valid_J60 (gB (bxC (m.s 0)) 0) (gI (bxC (m.s 0)) 1) (gI (bxC (m.s 0)) 2) (gS (bxC (m.s 0)) 3) (gS (bxC (m.s 0)) 4) (gS (bxC (m.s 0)) 5) (gI (bxC (m.s 0)) 6) (gI (bxC (m.s 0)) 7) (gI (bxC (m.s 0)) 8) (gI (bxC (m.s 0)) 9) (gI (bxC (m.s 0)) 10) (gI (bxC (m.s 0)) 11) (gI (bxC (m.s 0)) 12) (fun z_v4 => K .norm (envOf [(4, (.bool z_v4))]) (memOf []))) none)
theorem o_ddiref05_Valid_J60 : SubOk Tryd.prog (TIof Tryd.prog) 211 0 (kret [.t 4] dec_ddiref05_Valid) (scOf a_ddiref05_Valid_J60) s_ddiref05_Valid_J60 :=
  sub_of tabOk follows ok_ddiref05_Valid_J60 (er_of (by kernel_rfl)) shp_ddiref05_Valid_J60 (fun t m K => congrArg (fun z => chk (fitS0 shp_ddiref05_Valid_J60 t m) (cond (hdS shp_ddiref05_Valid_J60 t m) z none)) (t_ddiref05_Valid_J60 (gB (bxC (m.s 0)) 0) (gI (bxC (m.s 0)) 1) (gI (bxC (m.s 0)) 2) (gS (bxC (m.s 0)) 3) (gS (bxC (m.s 0)) 4) (gS (bxC (m.s 0)) 5) (gI (bxC (m.s 0)) 6) (gI (bxC (m.s 0)) 7) (gI (bxC (m.s 0)) 8) (gI (bxC (m.s 0)) 9) (gI (bxC (m.s 0)) 10) (gI (bxC (m.s 0)) 11) (gI (bxC (m.s 0)) 12) K).symm)
def shp_ddiref05_Valid_J72 : Shp := ⟨[(3, .one (.ptr 0 0))], [.box true [(.l .b), (.l (.i .u64)), (.l (.i .u64)), (.l .s), (.l .s), (.l .s), (.l (.i .i64)), (.l (.i .i64)), (.l (.i .i64)), (.l (.i .i64)), (.l (.i .i64)), (.l (.i .i64)), (.l (.i .u64))]]⟩
noncomputable def ddiref05_Valid_J72_i  (b0_0 : Bool) (b0_1 : Int) (b0_2 : Int) (b0_3 : List UInt8) (b0_4 : List UInt8) (b0_5 : List UInt8) (b0_6 : Int) (b0_7 : Int) (b0_8 : Int) (b0_9 : Int) (b0_10 : Int) (b0_11 : Int) (b0_12 : Int) (kn : Bool → Option Bool) : Option Bool :=
  (bif (((b0_6 == (256 : Int)) || (b0_6 == (257 : Int))) && (b0_7 == (3 : Int))) then (oB (ddiref05_in b0_8 (255 : Int)) fun r1 => (bif r1 then (oB (ddiref05_text b0_5) fun r2 => (kn r2)) else (kn false))) else (kn false))
noncomputable def ddiref05_Valid_J72 := hull (ddiref05_Valid_J72_i)
theorem ddiref05_Valid_J72_eq : ddiref05_Valid_J72 = ddiref05_Valid_J72_i := hull_eq _
noncomputable def a_ddiref05_Valid_J72 : AC Bool :=
  .seq (.reg [.op ⟨some 185, (.fa 6 (.t 3)), none⟩,
 .op ⟨some 186, (.load false 1 (.t 185)), none⟩,
 .op ⟨some 187, (.bin .eql (.t 186) (.c (.int .i64 256))), none⟩,
 .op ⟨some 188, (.mv (.t 187)), none⟩,
 .grp 188 false [⟨some 189, (.fa 6 (.t 3)), (some (188, false))⟩, ⟨some 190, (.load false 1 (.t 189)), (some (188, false))⟩, ⟨some 191, (.bin .eql (.t 190) (.c (.int .i64 257))), (some (188, false))⟩] 192 (.t 191),
 .op ⟨some 193, (.mv (.t 192)), none⟩,
 .grp 193 true [⟨some 194, (.fa 7 (.t 3)), (some (193, true))⟩, ⟨some 195, (.load false 1 (.t 194)), (some (193, true))⟩, ⟨some 196, (.bin .eql (.t 195) (.c (.int .i64 3))), (some (193, true))⟩] 197 (.t 196),
 .op ⟨some 198, (.mv (.t 197)), none⟩,
 .op ⟨some 199, (.fa 8 (.t 3)), (some (198, true))⟩,
 .op ⟨some 200, (.load false 1 (.t 199)), (some (198, true))⟩,
 .call ⟨some 201, (.call 88 [.t 200, (.c (.int .i64 255))]), (some (198, true))⟩ 88 ent_ddiref05_in,
 .op ⟨some 202, (.pick (.t 198) (.t 201) (.c (.bool false))), none⟩,
 .op ⟨some 203, (.mv (.t 202)), none⟩,
 .op ⟨some 204, (.fa 5 (.t 3)), (some (203, true))⟩,
 .op ⟨some 205, (.load false 1 (.t 204)), (some (203, true))⟩,
 .call ⟨some 206, (.call 89 [.t 205]), (some (203, true))⟩ 89 ent_ddiref05_text,
 .op ⟨some 207, (.pick (.t 203) (.t 206) (.c (.bool false))), none⟩,
 .op ⟨some 4, (.mv (.t 207)), none⟩]) (.view [.sel [4] []])
theorem ok_ddiref05_Valid_J72 : AC.ok Tryd.prog (TIof Tryd.prog) 211 0 (kret [.t 4] dec_ddiref05_Valid) a_ddiref05_Valid_J72 := (zA (zA (EntOkB.ok k_ddiref05_in) (zA (EntOkB.ok k_ddiref05_text) zT)) zT)
theorem t_ddiref05_Valid_J72 (b0_0 : Bool) (b0_1 : Int) (b0_2 : Int) (b0_3 : List UInt8) (b0_4 : List UInt8) (b0_5 : List UInt8) (b0_6 : Int) (b0_7 : Int) (b0_8 : Int) (b0_9 : Int) (b0_10 : Int) (b0_11 : Int) (b0_12 : Int) (K : Ex → Env → Mem → Option Bool) : den 0 (kret [.t 4] dec_ddiref05_Valid) a_ddiref05_Valid_J72 (envOf [(3, (.ptr 0 0))]) (memOf [(some (.box true [(.bool b0_0), (.int .u64 b0_1), (.int .u64 b0_2), (.str b0_3), (.str b0_4), (.str b0_5), (.int .i64 b0_6), (.int .i64 b0_7), (.int .i64 b0_8), (.int .i64 b0_9), (.int .i64 b0_10), (.int .i64 b0_11), (.int .u64 b0_12)]))]) K = ddiref05_Valid_J72 b0_0 b0_1 b0_2 b0_3 b0_4 b0_5 b0_6 b0_7 b0_8 b0_9 b0_10 b0_11 b0_12 (fun z_v4 => K .norm (envOf [(4, (.bool z_v4))]) (memOf [])) := by
  rw [ddiref05_Valid_J72_eq]; kernel_rfl
noncomputable def s_ddiref05_Valid_J72 : Env → Mem → (Ex → Env → Mem → Option Bool) → Option Bool := fun t m K => chk (fitS0 shp_ddiref05_Valid_J72 t m) (cond (hdS shp_ddiref05_Valid_J72 t m) (ddiref05_Valid_J72 (gB (bxC (m.s 0)) 0) (gI (bxC (m.s 0)) 1) (gI (bxC (m.s 0)) 2) (gS (bxC (m.s 0)) 3) (gS (bxC (m.s 0)) 4) (gS (bxC (m.s 0)) 5) (gI (bxC (m.s 0)) 6) (gI (bxC (m.s 0)) 7) (gI (bxC (m.s 0)) 8) (gI (bxC (m.s 0)) 9) (gI (bxC (m.s 0)) 10) (gI (bxC (m.s 0)) 11) (gI (bxC (m.s 0)) 12) (fun z_v4 => K .norm (envOf [(4, (.bool z_v4))]) (memOf []))) none)
theorem o_ddiref05_Valid_J72 : SubOk Tryd.prog (TIof Tryd.prog) 211 0 (kret [.t 4] dec_ddiref05_Valid) (scOf a_ddiref05_Valid_J72) s_ddiref05_Valid_J72 :=
  sub_of tabOk follows ok_ddiref05_Valid_J72 (er_of (by kernel_rfl)) shp_ddiref05_Valid_J72 (fun t m K => congrArg (fun z => chk (fitS0 shp_ddiref05_Valid_J72 t m) (cond (hdS shp_ddiref05_Valid_J72 t m) z none)) (t_ddiref05_Valid_J72 (gB (bxC (m.s 0)) 0) (gI (bxC (m.s 0)) 1) (gI (bxC (m.s 0)) 2) (gS (bxC (m.s 0)) 3) (gS (bxC (m.s 0)) 4) (gS (bxC (m.s 0)) 5) (gI (bxC (m.s 0)) 6) (gI (bxC (m.s 0)) 7) (gI (bxC (m.s 0)) 8) (gI (bxC (m.s 0)) 9) (gI (bxC (m.s 0)) 10) (gI (bxC (m.s 0)) 11) (gI (bxC (m.s 0)) 12) K).symm)
def shp_ddiref05_Valid : Shp := ⟨[(0, .one (.l (.i .i64))), (1, .st [(.l .b), (.l (.i .u64)), (.l (.i .u64)), (.l .s), (.l .s), (.l .s), (.l (.i .i64)), (.l (.i .i64)), (.l (.i .i64)), (.l (.i .i64)), (.l (.i .i64)), (.l (.i .i64)), (.l (.i .u64))])], []⟩
noncomputable def ddiref05_Valid_i (v0 : Int) (v1_0 : Bool) (v1_1 : Int) (v1_2 : Int) (v1_3 : List UInt8) (v1_4 : List UInt8) (v1_5 : List UInt8) (v1_6 : Int) (v1_7 : Int) (v1_8 : Int) (v1_9 : Int) (v1_10 : Int) (v1_11 : Int) (v1_12 : Int) : Option Bool :=
  (ddiref05_Valid_J4 v0 v1_0 v1_1 v1_2 v1_3 v1_4 v1_5 v1_6 v1_7 v1_8 v1_9 v1_10 v1_11 v1_12 (fun v14q1 => (bif v14q1 then (some false) else (bif (v0 == (1 : Int)) then (oB (ddiref02_Valid v1_0 v1_1 v1_2) fun r2 => (some (r2 && (!v1_0)))) else (bif (v0 == (28 : Int)) then (some v1_0) else (bif (v0 == (6 : Int)) then (ddiref05_Valid_J30 v1_0 v1_1 v1_2 v1_3 v1_4 v1_5 v1_6 v1_7 v1_8 v1_9 v1_10 v1_11 v1_12 (fun v4q3 => (some v4q3))) else (bif (v0 == (15 : Int)) then (oB (ddiref05_host v1_3) fun r4 => (bif r4 then (oB (ddiref05_in v1_6 (65535 : Int)) fun r5 => (some r5)) else (some false))) else (bif (v0 == (16 : Int)) then (some (decide ((v1_5.length : Int) ≤ (255 : Int)))) else (bif (v0 == (33 : Int)) then (ddiref05_Valid_J48 v1_0 v1_1 v1_2 v1_3 v1_4 v1_5 v1_6 v1_7 v1_8 v1_9 v1_10 v1_11 v1_12 (fun v4q6 => (some v4q6))) else (bif (v0 == (43 : Int)) then (ddiref05_Valid_J54 v1_0 v1_1 v1_2 v1_3 v1_4 v1_5 v1_6 v1_7 v1_8 v1_9 v1_10 v1_11 v1_12 (fun v4q7 => (some v4q7))) else (bif (v0 == (46 : Int)) then (ddiref05_Valid_J60 v1_0 v1_1 v1_2 v1_3 v1_4 v1_5 v1_6 v1_7 v1_8 v1_9 v1_10 v1_11 v1_12 (fun v4q8 => (some v4q8))) else (bif (v0 == (47 : Int)) then (oB (ddiref01_Valid v1_3) fun r9 => (bif (r9 && (v1_12 != (0 : Int))) then (oB (ddiref05_all v1_12) fun r10 => (some r10)) else (some false))) else (bif (v0 == (48 : Int)) then (ddiref05_Valid_J72 v1_0 v1_1 v1_2 v1_3 v1_4 v1_5 v1_6 v1_7 v1_8 v1_9 v1_10 v1_11 v1_12 (fun v4q11 => (some v4q11))) else (oB (ddiref05_host v1_3) fun r12 => (some r12)))))))))))))))
noncomputable def ddiref05_Valid := hull ddiref05_Valid_i
theorem ddiref05_Valid_eq : ddiref05_Valid = ddiref05_Valid_i := hull_eq _
noncomputable def a_ddiref05_Valid : AC Bool :=
  .seq (.reg [.op ⟨some 3, (.box (.t 1)), none⟩,
 .op ⟨some 4, (.mv (.c (.bool false))), none⟩]) (.seq (.seq (.seq (.view [.sel [0, 3] [0]]) (.sub (scOf a_ddiref05_Valid_J4) s_ddiref05_Valid_J4)) (.cond (.t 14) (.seq (.reg [.op ⟨some 4, (.mv (.c (.bool false))), none⟩]) (.ret)) (.skip))) (.seq (.seq (.reg [.op ⟨some 15, (.mv (.t 0)), none⟩]) (.block 0 (.seq (.reg [.op ⟨some 17, (.bin .eql (.t 15) (.c (.int .i64 1))), none⟩,
 .op ⟨some 16, (.mv (.t 17)), none⟩]) (.cond (.t 16) (.seq (.reg [.op ⟨some 18, (.fa 0 (.t 3)), none⟩,
 .op ⟨some 19, (.load true 3 (.t 18)), none⟩,
 .call ⟨some 20, (.call 40 [.t 19]), none⟩ 40 ent_ddiref02_Valid,
 .op ⟨some 21, (.mv (.t 20)), none⟩,
 .grp 21 true [⟨some 22, (.fa 0 (.t 3)), (some (21, true))⟩, ⟨some 23, (.fa 0 (.t 22)), (some (21, true))⟩, ⟨some 24, (.load false 1 (.t 23)), (some (21, true))⟩, ⟨some 25, (.un .not (.t 24)), (some (21, true))⟩] 26 (.t 25),
 .op ⟨some 4, (.mv (.t 26)), none⟩]) (.ret)) (.seq (.reg [.op ⟨some 28, (.bin .eql (.t 15) (.c (.int .i64 28))), none⟩,
 .op ⟨some 27, (.mv (.t 28)), none⟩]) (.cond (.t 27) (.seq (.reg [.op ⟨some 29, (.fa 0 (.t 3)), none⟩,
 .op ⟨some 30, (.fa 0 (.t 29)), none⟩,
 .op ⟨some 31, (.load false 1 (.t 30)), none⟩,
 .op ⟨some 4, (.mv (.t 31)), none⟩]) (.ret)) (.seq (.reg [.op ⟨some 33, (.bin .eql (.t 15) (.c (.int .i64 6))), none⟩,
 .op ⟨some 32, (.mv (.t 33)), none⟩]) (.cond (.t 32) (.seq (.seq (.view [.sel [3] [0]]) (.sub (scOf a_ddiref05_Valid_J30) s_ddiref05_Valid_J30)) (.ret)) (.seq (.reg [.op ⟨some 68, (.bin .eql (.t 15) (.c (.int .i64 15))), none⟩,
 .op ⟨some 67, (.mv (.t 68)), none⟩]) (.cond (.t 67) (.seq (.reg [.op ⟨some 69, (.fa 3 (.t 3)), none⟩,
 .op ⟨some 70, (.load false 1 (.t 69)), none⟩,
 .call ⟨some 71, (.call 86 [.t 70]), none⟩ 86 ent_ddiref05_host,
 .op ⟨some 72, (.mv (.t 71)), none⟩,
 .op ⟨some 73, (.fa 6 (.t 3)), (some (72, true))⟩,
 .op ⟨some 74, (.load false 1 (.t 73)), (some (72, true))⟩,
 .call ⟨some 75, (.call 88 [.t 74, (.c (.int .i64 65535))]), (some (72, true))⟩ 88 ent_ddiref05_in,
 .op ⟨some 76, (.pick (.t 72) (.t 75) (.c (.bool false))), none⟩,
 .op ⟨some 4, (.mv (.t 76)), none⟩]) (.ret)) (.seq (.reg [.op ⟨some 78, (.bin .eql (.t 15) (.c (.int .i64 16))), none⟩,
 .op ⟨some 77, (.mv (.t 78)), none⟩]) (.cond (.t 77) (.seq (.reg [.op ⟨some 79, (.fa 5 (.t 3)), none⟩,
 .op ⟨some 80, (.load false 1 (.t 79)), none⟩,
 .op ⟨some 81, (.len true (.t 80)), none⟩,
 .op ⟨some 82, (.bin .leq (.t 81) (.c (.int .i64 255))), none⟩,
 .op ⟨some 4, (.mv (.t 82)), none⟩]) (.ret)) (.seq (.reg [.op ⟨some 84, (.bin .eql (.t 15) (.c (.int .i64 33))), none⟩,
 .op ⟨some 83, (.mv (.t 84)), none⟩]) (.cond (.t 83) (.seq (.seq (.view [.sel [3] [0]]) (.sub (scOf a_ddiref05_Valid_J48) s_ddiref05_Valid_J48)) (.ret)) (.seq (.reg [.op ⟨some 104, (.bin .eql (.t 15) (.c (.int .i64 43))), none⟩,
 .op ⟨some 103, (.mv (.t 104)), none⟩]) (.cond (.t 103) (.seq (.seq (.view [.sel [3] [0]]) (.sub (scOf a_ddiref05_Valid_J54) s_ddiref05_Valid_J54)) (.ret)) (.seq (.reg [.op ⟨some 124, (.bin .eql (.t 15) (.c (.int .i64 46))), none⟩,
 .op ⟨some 123, (.mv (.t 124)), none⟩]) (.cond (.t 123) (.seq (.seq (.view [.sel [3] [0]]) (.sub (scOf a_ddiref05_Valid_J60) s_ddiref05_Valid_J60)) (.ret)) (.seq (.reg [.op ⟨some 169, (.bin .eql (.t 15) (.c (.int .i64 47))), none⟩,
 .op ⟨some 168, (.mv (.t 169)), none⟩]) (.cond (.t 168) (.seq (.reg [.op ⟨some 170, (.fa 3 (.t 3)), none⟩,
 .op ⟨some 171, (.load false 1 (.t 170)), none⟩,
 .call ⟨some 172, (.call 45 [.t 171]), none⟩ 45 ent_ddiref01_Valid,
 .op ⟨some 173, (.mv (.t 172)), none⟩,
 .grp 173 true [⟨some 174, (.fa 12 (.t 3)), (some (173, true))⟩, ⟨some 175, (.load false 1 (.t 174)), (some (173, true))⟩, ⟨some 176, (.bin .neq (.t 175) (.c (.int .u64 0))), (some (173, true))⟩] 177 (.t 176),
 .op ⟨some 178, (.mv (.t 177)), none⟩,
 .op ⟨some 179, (.fa 12 (.t 3)), (some (178, true))⟩,
 .op ⟨some 180, (.load false 1 (.t 179)), (some (178, true))⟩,
 .call ⟨some 181, (.call 90 [.t 180]), (some (178, true))⟩ 90 ent_ddiref05_all,
 .op ⟨some 182, (.pick (.t 178) (.t 181) (.c (.bool false))), none⟩,
 .op ⟨some 4, (.mv (.t 182)), none⟩]) (.ret)) (.seq (.reg [.op ⟨some 184, (.bin .eql (.t 15) (.c (.int .i64 48))), none⟩,
 .op ⟨some 183, (.mv (.t 184)), none⟩]) (.cond (.t 183) (.seq (.seq (.view [.sel [3] [0]]) (.sub (scOf a_ddiref05_Valid_J72) s_ddiref05_Valid_J72)) (.ret)) (.skip))))))))))))))))))))))) (.seq (.reg [.op ⟨some 208, (.fa 3 (.t 3)), none⟩,
 .op ⟨some 209, (.load false 1 (.t 208)), none⟩,
 .call ⟨some 210, (.call 86 [.t 209]), none⟩ 86 ent_ddiref05_host,
 .op ⟨some 4, (.mv (.t 210)), none⟩]) (.ret))))
theorem ok_ddiref05_Valid : AC.ok Tryd.prog (TIof Tryd.prog) 211 0 (kret [.t 4] dec_ddiref05_Valid) a_ddiref05_Valid := (zA zT (zA (zA (zA zT o_ddiref05_Valid_J4) (zA (zA zT zT) zT)) (zA (zA zT (zA zT (zA (zA (zA (EntOkB.ok k_ddiref02_Valid) zT) zT) (zA zT (zA (zA zT zT) (zA zT (zA (zA (zA zT o_ddiref05_Valid_J30) zT) (zA zT (zA (zA (zA (EntOkB.ok k_ddiref05_host) (zA (EntOkB.ok k_ddiref05_in) zT)) zT) (zA zT (zA (zA zT zT) (zA zT (zA (zA (zA zT o_ddiref05_Valid_J48) zT) (zA zT (zA (zA (zA zT o_ddiref05_Valid_J54) zT) (zA zT (zA (zA (zA zT o_ddiref05_Valid_J60) zT) (zA zT (zA (zA (zA (EntOkB.ok k_ddiref01_Valid) (zA (EntOkB.ok k_ddiref05_all) zT)) zT) (zA zT (zA (zA (zA zT o_ddiref05_Valid_J72) zT) zT))))))))))))))))))))) (zA (zA (EntOkB.ok k_ddiref05_host) zT) zT))))
theorem t_ddiref05_Valid (v0 : Int) (v1_0 : Bool) (v1_1 : Int) (v1_2 : Int) (v1_3 : List UInt8) (v1_4 : List UInt8) (v1_5 : List UInt8) (v1_6 : Int) (v1_7 : Int) (v1_8 : Int) (v1_9 : Int) (v1_10 : Int) (v1_11 : Int) (v1_12 : Int) : den 0 (kret [.t 4] dec_ddiref05_Valid) a_ddiref05_Valid (envOf [(0, (.int .i64 v0)), (1, (.agg [(.bool v1_0), (.int .u64 v1_1), (.int .u64 v1_2), (.str v1_3), (.str v1_4), (.str v1_5), (.int .i64 v1_6), (.int .i64 v1_7), (.int .i64 v1_8), (.int .i64 v1_9), (.int .i64 v1_10), (.int .i64 v1_11), (.int .u64 v1_12)]))]) (memOf []) (kend (kret [.t 4] dec_ddiref05_Valid)) = ddiref05_Valid v0 v1_0 v1_1 v1_2 v1_3 v1_4 v1_5 v1_6 v1_7 v1_8 v1_9 v1_10 v1_11 v1_12 := by
  rw [ddiref05_Valid_eq]; kernel_rfl
theorem c_ddiref05_Valid : cFn (TIof Tryd.prog) Tryd.f77 = some ⟨211, [.t 4], scOf a_ddiref05_Valid⟩ := by kernel_rfl
noncomputable def ent_ddiref05_Valid {R : Type} (xs : List AV) (K : AV → Option R) : Option R := chk (fitS shp_ddiref05_Valid (entry xs) Mem.none) (oB (ddiref05_Valid (gI [(entry xs) 0] 0) (gB ((entry xs) 1).cells 0) (gI ((entry xs) 1).cells 1) (gI ((entry xs) 1).cells 2) (gS ((entry xs) 1).cells 3) (gS ((entry xs) 1).cells 4) (gS ((entry xs) 1).cells 5) (gI ((entry xs) 1).cells 6) (gI ((entry xs) 1).cells 7) (gI ((entry xs) 1).cells 8) (gI ((entry xs) 1).cells 9) (gI ((entry xs) 1).cells 10) (gI ((entry xs) 1).cells 11) (gI ((entry xs) 1).cells 12)) fun r => K (enc_ddiref05_Valid r))
theorem k_ddiref05_Valid {R : Type} : EntOkB Tryd.prog 77 (ent_ddiref05_Valid (R := R)) :=
  ent_of (F := fun xs => ddiref05_Valid (gI [(entry xs) 0] 0) (gB ((entry xs) 1).cells 0) (gI ((entry xs) 1).cells 1) (gI ((entry xs) 1).cells 2) (gS ((entry xs) 1).cells 3) (gS ((entry xs) 1).cells 4) (gS ((entry xs) 1).cells 5) (gI ((entry xs) 1).cells 6) (gI ((entry xs) 1).cells 7) (gI ((entry xs) 1).cells 8) (gI ((entry xs) 1).cells 9) (gI ((entry xs) 1).cells 10) (gI ((entry xs) 1).cells 11) (gI ((entry xs) 1).cells 12)) (enc := enc_ddiref05_Valid) tabOk follows Tryd.func77 (by kernel_rfl) c_ddiref05_Valid (fun z r h => by
 obtain ⟨h1, h2⟩ := cond_some h
 cases h2
 exact (etaRV_eq h1).symm) ok_ddiref05_Valid (er_of (by kernel_rfl)) shp_ddiref05_Valid (fun xs => t_ddiref05_Valid (gI [(entry xs) 0] 0) (gB ((entry xs) 1).cells 0) (gI ((entry xs) 1).cells 1) (gI ((entry xs) 1).cells 2) (gS ((entry xs) 1).cells 3) (gS ((entry xs) 1).cells 4) (gS ((entry xs) 1).cells 5) (gI ((entry xs) 1).cells 6) (gI ((entry xs) 1).cells 7) (gI ((entry xs) 1).cells 8) (gI ((entry xs) 1).cells 9) (gI ((entry xs) 1).cells 10) (gI ((entry xs) 1).cells 11) (gI ((entry xs) 1).cells 12)) (fun xs K r h => by
 unfold ent_ddiref05_Valid at h
 exact ⟨(chk_some h).1, oB_some (chk_some h).2⟩)
def dec_ddiref07_Valid (z : AV) : Option Bool := cond (fitRV (.one .b) z) (some (aB z)) none
def enc_ddiref07_Valid (r : Bool) : AV := .bool r
def shp_ddiref07_Valid : Shp := ⟨[(0, .st [(.l .s), (.l (.i .i64)), (.l (.i .i64)), (.l .b), (.l (.i .u64)), (.l (.i .u64)), (.l .s), (.l .s), (.l .s), (.l (.i .i64)), (.l (.i .i64)), (.l (.i .i64)), (.l (.i .i64)), (.l (.i .i64)), (.l (.i .i64)), (.l (.i .u64))])], []⟩
noncomputable def ddiref07_Valid_i (v0_0 : List UInt8) (v0_1 : Int) (v0_2 : Int) (v0_3 : Bool) (v0_4 : Int) (v0_5 : Int) (v0_6 : List UInt8) (v0_7 : List UInt8) (v0_8 : List UInt8) (v0_9 : Int) (v0_10 : Int) (v0_11 : Int) (v0_12 : Int) (v0_13 : Int) (v0_14 : Int) (v0_15 : Int) : Option Bool :=
  (oB (ddiref01_Valid v0_0) fun r1 => (bif r1 then (oB (ddiref05_Known v0_1) fun r2 => (bif ((r2 && (decide (v0_2 ≥ (0 : Int)))) && (decide (v0_2 ≤ (2147483647 : Int)))) then (oB (ddiref05_Valid v0_1 v0_3 v0_4 v0_5 v0_6 v0_7 v0_8 v0_9 v0_10 v0_11 v0_12 v0_13 v0_14 v0_15) fun r3 => (some r3)) else (some false))) else (some false)))
noncomputable def ddiref07_Valid := hull ddiref07_Valid_i
theorem ddiref07_Valid_eq : ddiref07_Valid = ddiref07_Valid_i := hull_eq _
noncomputable def a_ddiref07_Valid : AC Bool :=
  .seq (.reg [.op ⟨some 1, (.box (.t 0)), none⟩,
 .op ⟨some 2, (.mv (.c (.bool false))), none⟩]) (.seq (.reg [.op ⟨some 3, (.fa 0 (.t 1)), none⟩,
 .op ⟨some 4, (.load false 1 (.t 3)), none⟩,
 .call ⟨some 5, (.call 45 [.t 4]), none⟩ 45 ent_ddiref01_Valid,
 .op ⟨some 6, (.mv (.t 5)), none⟩,
 .op ⟨some 7, (.fa 1 (.t 1)), (some (6, true))⟩,
 .op ⟨some 8, (.load false 1 (.t 7)), (some (6, true))⟩,
 .call ⟨some 9, (.call 76 [.t 8]), (some (6, true))⟩ 76 ent_ddiref05_Known,
 .op ⟨some 10, (.pick (.t 6) (.t 9) (.c (.bool false))), none⟩,
 .op ⟨some 11, (.mv (.t 10)), none⟩,
 .grp 11 true [⟨some 12, (.fa 2 (.t 1)), (some (11, true))⟩, ⟨some 13, (.load false 1 (.t 12)), (some (11, true))⟩, ⟨some 14, (.bin .geq (.t 13) (.c (.int .i64 0))), (some (11, true))⟩] 15 (.t 14),
 .op ⟨some 16, (.mv (.t 15)), none⟩,
 .grp 16 true [⟨some 17, (.fa 2 (.t 1)), (some (16, true))⟩, ⟨some 18, (.load false 1 (.t 17)), (some (16, true))⟩, ⟨some 19, (.bin .leq (.t 18) (.c (.int .i64 2147483647))), (some (16, true))⟩] 20 (.t 19),
 .op ⟨some 21, (.mv (.t 20)), none⟩,
 .op ⟨some 22, (.fa 1 (.t 1)), (some (21, true))⟩,
 .op ⟨some 23, (.load false 1 (.t 22)), (some (21, true))⟩,
 .op ⟨some 24, (.fa 3 (.t 1)), (some (21, true))⟩,
 .op ⟨some 25, (.load true 13 (.t 24)), (some (21, true))⟩,
 .call ⟨some 26, (.call 77 [.t 23, .t 25]), (some (21, true))⟩ 77 ent_ddiref05_Valid,
 .op ⟨some 27, (.pick (.t 21) (.t 26) (.c (.bool false))), none⟩,
 .op ⟨some 2, (.mv (.t 27)), none⟩]) (.ret))
theorem ok_ddiref07_Valid : AC.ok Tryd.prog (TIof Tryd.prog) 28 0 (kret [.t 2] dec_ddiref07_Valid) a_ddiref07_Valid := (zA zT (zA (zA (EntOkB.ok k_ddiref01_Valid) (zA (EntOkB.ok k_ddiref05_Known) (zA (EntOkB.ok k_ddiref05_Valid) zT))) zT))
theorem t_ddiref07_Valid (v0_0 : List UInt8) (v0_1 : Int) (v0_2 : Int) (v0_3 : Bool) (v0_4 : Int) (v0_5 : Int) (v0_6 : List UInt8) (v0_7 : List UInt8) (v0_8 : List UInt8) (v0_9 : Int) (v0_10 : Int) (v0_11 : Int) (v0_12 : Int) (v0_13 : Int) (v0_14 : Int) (v0_15 : Int) : den 0 (kret [.t 2] dec_ddiref07_Valid) a_ddiref07_Valid (envOf [(0, (.agg [(.str v0_0), (.int .i64 v0_1), (.int .i64 v0_2), (.bool v0_3), (.int .u64 v0_4), (.int .u64 v0_5), (.str v0_6), (.str v0_7), (.str v0_8), (.int .i64 v0_9), (.int .i64 v0_10), (.int .i64 v0_11), (.int .i64 v0_12), (.int .i64 v0_13), (.int .i64 v0_14), (.int .u64 v0_15)]))]) (memOf []) (kend (kret [.t 2] dec_ddiref07_Valid)) = ddiref07_Valid v0_0 v0_1 v0_2 v0_3 v0_4 v0_5 v0_6 v0_7 v0_8 v0_9 v0_10 v0_11 v0_12 v0_13 v0_14 v0_15 := by
  rw [ddiref07_Valid_eq]; kernel_rfl
theorem c_ddiref07_Valid : cFn (TIof Tryd.prog) Tryd.f64 = some ⟨28, [.t 2], scOf a_ddiref07_Valid⟩ := by kernel_rfl
noncomputable def ent_ddiref07_Valid {R : Type} (xs : List AV) (K : AV → Option R) : Option R := chk (fitS shp_ddiref07_Valid (entry xs) Mem.none) (oB (ddiref07_Valid (gS ((entry xs) 0).cells 0) (gI ((entry xs) 0).cells 1) (gI ((entry xs) 0).cells 2) (gB ((entry xs) 0).cells 3) (gI ((entry xs) 0).cells 4) (gI ((entry xs) 0).cells 5) (gS ((entry xs) 0).cells 6) (gS ((entry xs) 0).cells 7) (gS ((entry xs) 0).cells 8) (gI ((entry xs) 0).cells 9) (gI ((entry xs) 0).cells 10) (gI ((entry xs) 0).cells 11) (gI ((entry xs) 0).cells 12) (gI ((entry xs) 0).cells 13) (gI ((entry xs) 0).cells 14) (gI ((entry xs) 0).cells 15)) fun r => K (enc_ddiref07_Valid r))
theorem k_ddiref07_Valid {R : Type} : EntOkB Tryd.prog 64 (ent_ddiref07_Valid (R := R)) :=
  ent_of (F := fun xs => ddiref07_Valid (gS ((entry xs) 0).cells 0) (gI ((entry xs) 0).cells 1) (gI ((entry xs) 0).cells 2) (gB ((entry xs) 0).cells 3) (gI ((entry xs) 0).cells 4) (gI ((entry xs) 0).cells 5) (gS ((entry xs) 0).cells 6) (gS ((entry xs) 0).cells 7) (gS ((entry xs) 0).cells 8) (gI ((entry xs) 0).cells 9) (gI ((entry xs) 0).cells 10) (gI ((entry xs) 0).cells 11) (gI ((entry xs) 0).cells 12) (gI ((entry xs) 0).cells 13) (gI ((entry xs) 0).cells 14) (gI ((entry xs) 0).cells 15)) (enc := enc_ddiref07_Valid) tabOk follows Tryd.func64 (by kernel_rfl) c_ddiref07_Valid (fun z r h => by
 obtain ⟨h1, h2⟩ := cond_some h
 cases h2
 exact (etaRV_eq h1).symm) ok_ddiref07_Valid (er_of (by kernel_rfl)) shp_ddiref07_Valid (fun xs => t_ddiref07_Valid (gS ((entry xs) 0).cells 0) (gI ((entry xs) 0).cells 1) (gI ((entry xs) 0).cells 2) (gB ((entry xs) 0).cells 3) (gI ((entry xs) 0).cells 4) (gI ((entry xs) 0).cells 5) (gS ((entry xs) 0).cells 6) (gS ((entry xs) 0).cells 7) (gS ((entry xs) 0).cells 8) (gI ((entry xs) 0).cells 9) (gI ((entry xs) 0).cells 10) (gI ((entry xs) 0).cells 11) (gI ((entry xs) 0).cells 12) (gI ((entry xs) 0).cells 13) (gI ((entry xs) 0).cells 14) (gI ((entry xs) 0).cells 15)) (fun xs K r h => by
 unfold ent_ddiref07_Valid at h
 exact ⟨(chk_some h).1, oB_some (chk_some h).2⟩)
def dec_ddiref26_local (z : AV) : Option Bool := cond (fitRV (.one .b) z) (some (aB z)) none
def enc_ddiref26_local (r : Bool) : AV := .bool r
def shp_ddiref26_local_L14 : Shp := ⟨[(0, .one (.l (.sl 16))), (3, .one (.l (.i .i64)))], []⟩
noncomputable def ddiref26_local_L14_b  (v0 : List AV) (v3 : Int) (next : Int → Option Bool) (kx0 : Unit → Option Bool) : Option Bool :=
  (bif (decide (v3 < (v0.length : Int))) then (oB (ixB v0 v3) fun y1 => (bif fitC T_api_Record y1.cells then (oB (ddiref07_Valid (gS y1.cells 0) (gI y1.cells 1) (gI y1.cells 2) (gB y1.cells 3) (gI y1.cells 4) (gI y1.cells 5) (gS y1.cells 6) (gS y1.cells 7) (gS y1.cells 8) (gI y1.cells 9) (gI y1.cells 10) (gI y1.cells 11) (gI y1.cells 12) (gI y1.cells 13) (gI y1.cells 14) (gI y1.cells 15)) fun r2 => (bif (!r2) then (some false) else (oB (ixB v0 v3) fun y3 => (bif fitC T_api_Record y3.cells then (bif (!((gS y3.cells 0) == ([46] : List UInt8))) then (some false) else (next (IntKind.i64.wrap (v3 + (1 : Int))))) else none)))) else none)) else (kx0 ()))
noncomputable def ddiref26_local_L14_i  (v0 : List AV) (kx0 : Unit → Option Bool) : Nat → Int → Option Bool
  | 0 => (fun _ => none)
  | n + 1 => (fun v3 => ddiref26_local_L14_b v0 v3 (ddiref26_local_L14_i v0 kx0 n) kx0)
noncomputable def ddiref26_local_L14 := hull (ddiref26_local_L14_i)
theorem ddiref26_local_L14_eq : ddiref26_local_L14 = ddiref26_local_L14_i := hull_eq _
noncomputable def a_ddiref26_local_L14 : AC Bool :=
  .seq (.seq (.reg [.op ⟨some 12, (.mv (.t 3)), none⟩,
 .op ⟨some 13, (.mv (.t 0)), none⟩,
 .op ⟨some 14, (.len false (.t 13)), none⟩,
 .op ⟨some 15, (.bin .lss (.t 12) (.t 14)), none⟩]) (.cond (.t 15) (.skip) (.seq (.view [.sel [] []]) (.exit 0)))) (.seq (.block 1 (.seq (.reg [.op ⟨some 18, (.mv (.t 0)), none⟩,
 .op ⟨some 19, (.mv (.t 3)), none⟩,
 .op ⟨some 20, (.ia 16 (.t 18) (.t 19)), none⟩,
 .st (.etac 20 T_api_Record),
 .op ⟨some 21, (.load true 16 (.t 20)), none⟩,
 .call ⟨some 22, (.call 64 [.t 21]), none⟩ 64 ent_ddiref07_Valid,
 .op ⟨some 23, (.un .not (.t 22)), none⟩,
 .op ⟨some 24, (.mv (.t 23)), none⟩,
 .op ⟨some 25, (.mv (.t 0)), (some (24, false))⟩,
 .op ⟨some 26, (.mv (.t 3)), (some (24, false))⟩,
 .op ⟨some 27, (.ia 16 (.t 25) (.t 26)), (some (24, false))⟩,
 .stg 24 false (.etac 27 T_api_Record),
 .op ⟨some 28, (.fa 0 (.t 27)), (some (24, false))⟩,
 .op ⟨some 29, (.load false 1 (.t 28)), (some (24, false))⟩,
 .op ⟨some 30, (.bin .neq (.t 29) (.c (.str [46]))), (some (24, false))⟩,
 .op ⟨some 31, (.pick (.t 24) (.c (.bool true)) (.t 30)), none⟩]) (.cond (.t 31) (.seq (.reg [.op ⟨some 2, (.mv (.c (.bool false))), none⟩]) (.ret)) (.skip)))) (.seq (.reg [.op ⟨some 16, (.mv (.t 3)), none⟩,
 .op ⟨some 17, (.bin .add (.t 16) (.c (.int .i64 1))), none⟩,
 .op ⟨some 3, (.mv (.t 17)), none⟩]) (.view [.sel [0, 3] []])))
theorem ok_ddiref26_local_L14 : AC.ok Tryd.prog (TIof Tryd.prog) 32 0 (kret [.t 2] dec_ddiref26_local) a_ddiref26_local_L14 := (zA (zA zT (zA zT (zA zT zT))) (zA (zA (zA (EntOkB.ok k_ddiref07_Valid) zT) (zA (zA zT zT) zT)) (zA zT zT)))
theorem t_ddiref26_local_L14_b (v0 : List AV) (v3 : Int) (K : Ex → Env → Mem → Option Bool) : den 0 (kret [.t 2] dec_ddiref26_local) a_ddiref26_local_L14 (envOf [(0, (.sl 16 v0)), (3, (.int .i64 v3))]) (memOf []) K = ddiref26_local_L14_b v0 v3 (fun z_v3 => K .norm (envOf [(0, (.sl 16 v0)), (3, (.int .i64 z_v3))]) (memOf [])) (fun _ => K (.exit 0) (envOf []) (memOf [])) := by kernel_rfl
theorem t_ddiref26_local_L14 (v0 : List AV) (K : Ex → Env → Mem → Option Bool) : ∀ (n : Nat) (v3 : Int), iterD (den 0 (kret [.t 2] dec_ddiref26_local) a_ddiref26_local_L14) n (envOf [(0, (.sl 16 v0)), (3, (.int .i64 v3))]) (memOf []) K = ddiref26_local_L14 v0 (fun _ => K (.exit 0) (envOf []) (memOf [])) n v3 := by
  rw [ddiref26_local_L14_eq]
  intro n
  induction n with
  | zero => intros; rfl
  | succ n ih =>
 intro v3
 exact (t_ddiref26_local_L14_b v0 v3 (itK (den 0 (kret [.t 2] dec_ddiref26_local) a_ddiref26_local_L14) n K)).trans (congrArg (fun q => ddiref26_local_L14_b v0 v3 q (fun _ => K (.exit 0) (envOf []) (memOf []))) (funext fun v3 => ih v3))
noncomputable def s_ddiref26_local_L14 : Env → Mem → (Ex → Env → Mem → Option Bool) → Option Bool := fun t m K => chk (fitS0 shp_ddiref26_local_L14 t m) (cond (hdS shp_ddiref26_local_L14 t m) (ddiref26_local_L14 (gL [t 0] 0) (fun _ => K (.exit 0) (envOf []) (memOf [])) FU (gI [t 3] 0)) none)
theorem o_ddiref26_local_L14 : SubOk Tryd.prog (TIof Tryd.prog) 32 0 (kret [.t 2] dec_ddiref26_local) (.loop (scOf a_ddiref26_local_L14)) s_ddiref26_local_L14 :=
  loop_of tabOk follows ok_ddiref26_local_L14 (er_of (by kernel_rfl)) shp_ddiref26_local_L14 (fun t m K => congrArg (fun z => chk (fitS0 shp_ddiref26_local_L14 t m) (cond (hdS shp_ddiref26_local_L14 t m) z none)) (t_ddiref26_local_L14 (gL [t 0] 0) K FU (gI [t 3] 0)).symm)
def shp_ddiref26_local : Shp := ⟨[(0, .one (.l (.sl 16)))], []⟩
noncomputable def ddiref26_local_i (v0 : List AV) : Option Bool :=
  (bif ((decide ((v0.length : Int) < (1 : Int))) || (decide ((v0.length : Int) > (64 : Int)))) then (some false) else (ddiref26_local_L14 v0 (fun (_ : Unit) => (some true)) FU (0 : Int)))
noncomputable def ddiref26_local := hull ddiref26_local_i
theorem ddiref26_local_eq : ddiref26_local = ddiref26_local_i := hull_eq _
noncomputable def a_ddiref26_local : AC Bool :=
  .seq (.reg [.op ⟨some 2, (.mv (.c (.bool false))), none⟩]) (.seq (.seq (.reg [.op ⟨some 4, (.mv (.t 0)), none⟩,
 .op ⟨some 5, (.len false (.t 4)), none⟩,
 .op ⟨some 6, (.bin .lss (.t 5) (.c (.int .i64 1))), none⟩,
 .op ⟨some 7, (.mv (.t 6)), none⟩,
 .grp 7 false [⟨some 8, (.mv (.t 0)), (some (7, false))⟩, ⟨some 9, (.len false (.t 8)), (some (7, false))⟩, ⟨some 10, (.bin .gtr (.t 9) (.c (.int .i64 64))), (some (7, false))⟩] 11 (.t 10)]) (.cond (.t 11) (.seq (.reg [.op ⟨some 2, (.mv (.c (.bool false))), none⟩]) (.ret)) (.skip))) (.seq (.seq (.reg [.op ⟨some 3, (.mv (.c (.int .i64 0))), none⟩]) (.block 0 (.seq (.view [.sel [0, 3] []]) (.sub (.loop (scOf a_ddiref26_local_L14)) s_ddiref26_local_L14)))) (.seq (.reg [.op ⟨some 2, (.mv (.c (.bool true))), none⟩]) (.ret))))
theorem ok_ddiref26_local : AC.ok Tryd.prog (TIof Tryd.prog) 32 0 (kret [.t 2] dec_ddiref26_local) a_ddiref26_local := (zA zT (zA (zA zT (zA (zA zT zT) zT)) (zA (zA zT (zA zT o_ddiref26_local_L14)) (zA zT zT))))
theorem t_ddiref26_local (v0 : List AV) : den 0 (kret [.t 2] dec_ddiref26_local) a_ddiref26_local (envOf [(0, (.sl 16 v0))]) (memOf []) (kend (kret [.t 2] dec_ddiref26_local)) = ddiref26_local v0 := by
  rw [ddiref26_local_eq]; kernel_rfl
theorem c_ddiref26_local : cFn (TIof Tryd.prog) Tryd.f46 = some ⟨32, [.t 2], scOf a_ddiref26_local⟩ := by kernel_rfl
noncomputable def ent_ddiref26_local {R : Type} (xs : List AV) (K : AV → Option R) : Option R := chk (fitS shp_ddiref26_local (entry xs) Mem.none) (oB (ddiref26_local (gL [(entry xs) 0] 0)) fun r => K (enc_ddiref26_local r))
theorem k_ddiref26_local {R : Type} : EntOkB Tryd.prog 46 (ent_ddiref26_local (R := R)) :=
  ent_of (F := fun xs => ddiref26_local (gL [(entry xs) 0] 0)) (enc := enc_ddiref26_local) tabOk follows Tryd.func46 (by kernel_rfl) c_ddiref26_local (fun z r h => by
 obtain ⟨h1, h2⟩ := cond_some h
 cases h2
 exact (etaRV_eq h1).symm) ok_ddiref26_local (er_of (by kernel_rfl)) shp_ddiref26_local (fun xs => t_ddiref26_local (gL [(entry xs) 0] 0)) (fun xs K r h => by
 unfold ent_ddiref26_local at h
 exact ⟨(chk_some h).1, oB_some (chk_some h).2⟩)
def dec_ddiref26_rule (z : AV) : Option Int := cond (fitRV (.one (.i .i64)) z) (some (aI z)) none
def enc_ddiref26_rule (r : Int) : AV := .int .i64 r
def shp_ddiref26_rule_J38 : Shp := ⟨[(1, .one (.ptr 0 0)), (3, .one (.l .b))], [.box true [(.l (.i .i64)), (.l .s), (.l .b), (.l (.i .u64)), (.l (.i .u64)), (.l (.i .i64)), (.l (.i .i64)), (.l (.sl 16))]]⟩
noncomputable def ddiref26_rule_J38_i  (v3 : Bool) (b0_0 : Int) (b0_1 : List UInt8) (b0_2 : Bool) (b0_3 : Int) (b0_4 : Int) (b0_5 : Int) (b0_6 : Int) (b0_7 : List AV) (kn : Bool → Option Int) : Option Int :=
  (bif v3 then (oB (ddiref01_Valid b0_1) fun r1 => (kn (!r1))) else (kn false))
noncomputable def ddiref26_rule_J38 := hull (ddiref26_rule_J38_i)
theorem ddiref26_rule_J38_eq : ddiref26_rule_J38 = ddiref26_rule_J38_i := hull_eq _
noncomputable def a_ddiref26_rule_J38 : AC Int :=
  .seq (.reg [.op ⟨some 48, (.mv (.t 3)), none⟩,
 .op ⟨some 49, (.mv (.t 48)), none⟩,
 .op ⟨some 50, (.fa 1 (.t 1)), (some (49, true))⟩,
 .op ⟨some 51, (.load false 1 (.t 50)), (some (49, true))⟩,
 .call ⟨some 52, (.call 45 [.t 51]), (some (49, true))⟩ 45 ent_ddiref01_Valid,
 .op ⟨some 53, (.un .not (.t 52)), (some (49, true))⟩,
 .op ⟨some 54, (.pick (.t 49) (.t 53) (.c (.bool false))), none⟩]) (.view [.sel [1, 3, 54] [0]])
theorem ok_ddiref26_rule_J38 : AC.ok Tryd.prog (TIof Tryd.prog) 72 0 (kret [.t 2] dec_ddiref26_rule) a_ddiref26_rule_J38 := (zA (zA (EntOkB.ok k_ddiref01_Valid) zT) zT)
theorem t_ddiref26_rule_J38 (v3 : Bool) (b0_0 : Int) (b0_1 : List UInt8) (b0_2 : Bool) (b0_3 : Int) (b0_4 : Int) (b0_5 : Int) (b0_6 : Int) (b0_7 : List AV) (K : Ex → Env → Mem → Option Int) : den 0 (kret [.t 2] dec_ddiref26_rule) a_ddiref26_rule_J38 (envOf [(1, (.ptr 0 0)), (3, (.bool v3))]) (memOf [(some (.box true [(.int .i64 b0_0), (.str b0_1), (.bool b0_2), (.int .u64 b0_3), (.int .u64 b0_4), (.int .i64 b0_5), (.int .i64 b0_6), (.sl 16 b0_7)]))]) K = ddiref26_rule_J38 v3 b0_0 b0_1 b0_2 b0_3 b0_4 b0_5 b0_6 b0_7 (fun z_v54 => K .norm (envOf [(1, (.ptr 0 0)), (3, (.bool v3)), (54, (.bool z_v54))]) (memOf [(some (.box true [(.int .i64 b0_0), (.str b0_1), (.bool b0_2), (.int .u64 b0_3), (.int .u64 b0_4), (.int .i64 b0_5), (.int .i64 b0_6), (.sl 16 b0_7)]))])) := by
  rw [ddiref26_rule_J38_eq]; kernel_rfl
noncomputable def s_ddiref26_rule_J38 : Env → Mem → (Ex → Env → Mem → Option Int) → Option Int := fun t m K => chk (fitS0 shp_ddiref26_rule_J38 t m) (cond (hdS shp_ddiref26_rule_J38 t m) (ddiref26_rule_J38 (gB [t 3] 0) (gI (bxC (m.s 0)) 0) (gS (bxC (m.s 0)) 1) (gB (bxC (m.s 0)) 2) (gI (bxC (m.s 0)) 3) (gI (bxC (m.s 0)) 4) (gI (bxC (m.s 0)) 5) (gI (bxC (m.s 0)) 6) (gL (bxC (m.s 0)) 7) (fun z_v54 => K .norm (envOf [(1, (.ptr 0 0)), (3, (.bool (gB [t 3] 0))), (54, (.bool z_v54))]) (memOf [(some (.box true [(.int .i64 (gI (bxC (m.s 0)) 0)), (.str (gS (bxC (m.s 0)) 1)), (.bool (gB (bxC (m.s 0)) 2)), (.int .u64 (gI (bxC (m.s 0)) 3)), (.int .u64 (gI (bxC (m.s 0)) 4)), (.int .i64 (gI (bxC (m.s 0)) 5)), (.int .i64 (gI (bxC (m.s 0)) 6)), (.sl 16 (gL (bxC (m.s 0)) 7))]))]))) none)
theorem o_ddiref26_rule_J38 : SubOk Tryd.prog (TIof Tryd.prog) 72 0 (kret [.t 2] dec_ddiref26_rule) (scOf a_ddiref26_rule_J38) s_ddiref26_rule_J38 :=
  sub_of tabOk follows ok_ddiref26_rule_J38 (er_of (by kernel_rfl)) shp_ddiref26_rule_J38 (fun t m K => congrArg (fun z => chk (fitS0 shp_ddiref26_rule_J38 t m) (cond (hdS shp_ddiref26_rule_J38 t m) z none)) (t_ddiref26_rule_J38 (gB [t 3] 0) (gI (bxC (m.s 0)) 0) (gS (bxC (m.s 0)) 1) (gB (bxC (m.s 0)) 2) (gI (bxC (m.s 0)) 3) (gI (bxC (m.s 0)) 4) (gI (bxC (m.s 0)) 5) (gI (bxC (m.s 0)) 6) (gL (bxC (m.s 0)) 7) K).symm)
def shp_ddiref26_rule_J46 : Shp := ⟨[(1, .one (.ptr 0 0)), (3, .one (.l .b))], [.box true [(.l (.i .i64)), (.l .s), (.l .b), (.l (.i .u64)), (.l (.i .u64)), (.l (.i .i64)), (.l (.i .i64)), (.l (.sl 16))]]⟩
noncomputable def ddiref26_rule_J46_i  (v3 : Bool) (b0_0 : Int) (b0_1 : List UInt8) (b0_2 : Bool) (b0_3 : Int) (b0_4 : Int) (b0_5 : Int) (b0_6 : Int) (b0_7 : List AV) (kn : Bool → Option Int) : Option Int :=
  (bif (!v3) then (oB (ddiref03_Valid b0_2 b0_3 b0_4 b0_5) fun r1 => (kn (!r1))) else (kn false))
noncomputable def ddiref26_rule_J46 := hull (ddiref26_rule_J46_i)
theorem ddiref26_rule_J46_eq : ddiref26_rule_J46 = ddiref26_rule_J46_i := hull_eq _
noncomputable def a_ddiref26_rule_J46 : AC Int :=
  .seq (.reg [.op ⟨some 55, (.mv (.t 3)), none⟩,
 .op ⟨some 56, (.un .not (.t 55)), none⟩,
 .op ⟨some 57, (.mv (.t 56)), none⟩,
 .op ⟨some 58, (.fa 2 (.t 1)), (some (57, true))⟩,
 .op ⟨some 59, (.load true 4 (.t 58)), (some (57, true))⟩,
 .call ⟨some 60, (.call 39 [.t 59]), (some (57, true))⟩ 39 ent_ddiref03_Valid,
 .op ⟨some 61, (.un .not (.t 60)), (some (57, true))⟩,
 .op ⟨some 62, (.pick (.t 57) (.t 61) (.c (.bool false))), none⟩]) (.view [.sel [1, 62] [0]])
theorem ok_ddiref26_rule_J46 : AC.ok Tryd.prog (TIof Tryd.prog) 72 0 (kret [.t 2] dec_ddiref26_rule) a_ddiref26_rule_J46 := (zA (zA (EntOkB.ok k_ddiref03_Valid) zT) zT)
theorem t_ddiref26_rule_J46 (v3 : Bool) (b0_0 : Int) (b0_1 : List UInt8) (b0_2 : Bool) (b0_3 : Int) (b0_4 : Int) (b0_5 : Int) (b0_6 : Int) (b0_7 : List AV) (K : Ex → Env → Mem → Option Int) : den 0 (kret [.t 2] dec_ddiref26_rule) a_ddiref26_rule_J46 (envOf [(1, (.ptr 0 0)), (3, (.bool v3))]) (memOf [(some (.box true [(.int .i64 b0_0), (.str b0_1), (.bool b0_2), (.int .u64 b0_3), (.int .u64 b0_4), (.int .i64 b0_5), (.int .i64 b0_6), (.sl 16 b0_7)]))]) K = ddiref26_rule_J46 v3 b0_0 b0_1 b0_2 b0_3 b0_4 b0_5 b0_6 b0_7 (fun z_v62 => K .norm (envOf [(1, (.ptr 0 0)), (62, (.bool z_v62))]) (memOf [(some (.box true [(.int .i64 b0_0), (.str b0_1), (.bool b0_2), (.int .u64 b0_3), (.int .u64 b0_4), (.int .i64 b0_5), (.int .i64 b0_6), (.sl 16 b0_7)]))])) := by
  rw [ddiref26_rule_J46_eq]; kernel_rfl
noncomputable def s_ddiref26_rule_J46 : Env → Mem → (Ex → Env → Mem → Option Int) → Option Int := fun t m K => chk (fitS0 shp_ddiref26_rule_J46 t m) (cond (hdS shp_ddiref26_rule_J46 t m) (ddiref26_rule_J46 (gB [t 3] 0) (gI (bxC (m.s 0)) 0) (gS (bxC (m.s 0)) 1) (gB (bxC (m.s 0)) 2) (gI (bxC (m.s 0)) 3) (gI (bxC (m.s 0)) 4) (gI (bxC (m.s 0)) 5) (gI (bxC (m.s 0)) 6) (gL (bxC (m.s 0)) 7) (fun z_v62 => K .norm (envOf [(1, (.ptr 0 0)), (62, (.bool z_v62))]) (memOf [(some (.box true [(.int .i64 (gI (bxC (m.s 0)) 0)), (.str (gS (bxC (m.s 0)) 1)), (.bool (gB (bxC (m.s 0)) 2)), (.int .u64 (gI (bxC (m.s 0)) 3)), (.int .u64 (gI (bxC (m.s 0)) 4)), (.int .i64 (gI (bxC (m.s 0)) 5)), (.int .i64 (gI (bxC (m.s 0)) 6)), (.sl 16 (gL (bxC (m.s 0)) 7))]))]))) none)
theorem o_ddiref26_rule_J46 : SubOk Tryd.prog (TIof Tryd.prog) 72 0 (kret [.t 2] dec_ddiref26_rule) (scOf a_ddiref26_rule_J46) s_ddiref26_rule_J46 :=
  sub_of tabOk follows ok_ddiref26_rule_J46 (er_of (by kernel_rfl)) shp_ddiref26_rule_J46 (fun t m K => congrArg (fun z => chk (fitS0 shp_ddiref26_rule_J46 t m) (cond (hdS shp_ddiref26_rule_J46 t m) z none)) (t_ddiref26_rule_J46 (gB [t 3] 0) (gI (bxC (m.s 0)) 0) (gS (bxC (m.s 0)) 1) (gB (bxC (m.s 0)) 2) (gI (bxC (m.s 0)) 3) (gI (bxC (m.s 0)) 4) (gI (bxC (m.s 0)) 5) (gI (bxC (m.s 0)) 6) (gL (bxC (m.s 0)) 7) K).symm)
def shp_ddiref26_rule : Shp := ⟨[(0, .st [(.l (.i .i64)), (.l .s), (.l .b), (.l (.i .u64)), (.l (.i .u64)), (.l (.i .i64)), (.l (.i .i64)), (.l (.sl 16))])], []⟩
noncomputable def ddiref26_rule_i (v0_0 : Int) (v0_1 : List UInt8) (v0_2 : Bool) (v0_3 : Int) (v0_4 : Int) (v0_5 : Int) (v0_6 : Int) (v0_7 : List AV) : Option Int :=
  (bif ((((decide (v0_0 < (1 : Int))) || (decide (v0_0 > (3 : Int)))) || (decide (v0_6 < (1 : Int)))) || (decide (v0_6 > (5 : Int)))) then (some (1 : Int)) else (bif ((!(v0_0 != (3 : Int))) && (!(v0_1 == ([] : List UInt8)))) then (some (1 : Int)) else (bif ((v0_0 != (3 : Int)) && (!((v0_2 == false) && ((v0_3 == (0 : Int)) && ((v0_4 == (0 : Int)) && ((v0_5 == (0 : Int)) && true)))))) then (some (1 : Int)) else (bif ((v0_6 != (4 : Int)) && (decide ((v0_7.length : Int) > (0 : Int)))) then (some (1 : Int)) else (ddiref26_rule_J38 (v0_0 != (3 : Int)) v0_0 v0_1 v0_2 v0_3 v0_4 v0_5 v0_6 v0_7 (fun v54q1 => (bif v54q1 then (some (2 : Int)) else (ddiref26_rule_J46 (v0_0 != (3 : Int)) v0_0 v0_1 v0_2 v0_3 v0_4 v0_5 v0_6 v0_7 (fun v62q2 => (bif v62q2 then (some (3 : Int)) else (bif (v0_6 == (4 : Int)) then (oB (ddiref26_local v0_7) fun r3 => (bif (!r3) then (some (5 : Int)) else (some (0 : Int)))) else (some (0 : Int)))))))))))))
noncomputable def ddiref26_rule := hull ddiref26_rule_i
theorem ddiref26_rule_eq : ddiref26_rule = ddiref26_rule_i := hull_eq _
noncomputable def a_ddiref26_rule : AC Int :=
  .seq (.reg [.op ⟨some 1, (.box (.t 0)), none⟩,
 .op ⟨some 2, (.mv (.c (.int .i64 0))), none⟩]) (.seq (.seq (.reg [.op ⟨some 4, (.fa 0 (.t 1)), none⟩,
 .op ⟨some 5, (.load false 1 (.t 4)), none⟩,
 .op ⟨some 6, (.bin .lss (.t 5) (.c (.int .i64 1))), none⟩,
 .op ⟨some 7, (.mv (.t 6)), none⟩,
 .grp 7 false [⟨some 8, (.fa 0 (.t 1)), (some (7, false))⟩, ⟨some 9, (.load false 1 (.t 8)), (some (7, false))⟩, ⟨some 10, (.bin .gtr (.t 9) (.c (.int .i64 3))), (some (7, false))⟩] 11 (.t 10),
 .op ⟨some 12, (.mv (.t 11)), none⟩,
 .grp 12 false [⟨some 13, (.fa 6 (.t 1)), (some (12, false))⟩, ⟨some 14, (.load false 1 (.t 13)), (some (12, false))⟩, ⟨some 15, (.bin .lss (.t 14) (.c (.int .i64 1))), (some (12, false))⟩] 16 (.t 15),
 .op ⟨some 17, (.mv (.t 16)), none⟩,
 .grp 17 false [⟨some 18, (.fa 6 (.t 1)), (some (17, false))⟩, ⟨some 19, (.load false 1 (.t 18)), (some (17, false))⟩, ⟨some 20, (.bin .gtr (.t 19) (.c (.int .i64 5))), (some (17, false))⟩] 21 (.t 20)]) (.cond (.t 21) (.seq (.reg [.op ⟨some 2, (.mv (.c (.int .i64 1))), none⟩]) (.ret)) (.skip))) (.seq (.reg [.op ⟨some 22, (.fa 0 (.t 1)), none⟩,
 .op ⟨some 23, (.load false 1 (.t 22)), none⟩,
 .op ⟨some 24, (.bin .neq (.t 23) (.c (.int .i64 3))), none⟩,
 .op ⟨some 3, (.mv (.t 24)), none⟩]) (.seq (.seq (.reg [.op ⟨some 25, (.mv (.t 3)), none⟩,
 .op ⟨some 26, (.un .not (.t 25)), none⟩,
 .op ⟨some 27, (.mv (.t 26)), none⟩,
 .grp 27 true [⟨some 28, (.fa 1 (.t 1)), (some (27, true))⟩, ⟨some 29, (.load false 1 (.t 28)), (some (27, true))⟩, ⟨some 30, (.bin .neq (.t 29) (.c (.str []))), (some (27, true))⟩] 31 (.t 30)]) (.cond (.t 31) (.seq (.reg [.op ⟨some 2, (.mv (.c (.int .i64 1))), none⟩]) (.ret)) (.skip))) (.seq (.seq (.reg [.op ⟨some 32, (.mv (.t 3)), none⟩,
 .op ⟨some 33, (.mv (.t 32)), none⟩,
 .grp 33 true [⟨some 34, (.fa 2 (.t 1)), (some (33, true))⟩, ⟨some 35, (.load true 4 (.t 34)), (some (33, true))⟩, ⟨some 36, (.build [(.bool false), (.int .u64 0), (.int .u64 0), (.int .i64 0)] []), (some (33, true))⟩, ⟨some 37, (.eq true true [.b, (.i .u64), (.i .u64), (.i .i64)] (.t 35) (.t 36)), (some (33, true))⟩] 38 (.t 37)]) (.cond (.t 38) (.seq (.reg [.op ⟨some 2, (.mv (.c (.int .i64 1))), none⟩]) (.ret)) (.skip))) (.seq (.seq (.reg [.op ⟨some 39, (.fa 6 (.t 1)), none⟩,
 .op ⟨some 40, (.load false 1 (.t 39)), none⟩,
 .op ⟨some 41, (.bin .neq (.t 40) (.c (.int .i64 4))), none⟩,
 .op ⟨some 42, (.mv (.t 41)), none⟩,
 .grp 42 true [⟨some 43, (.fa 7 (.t 1)), (some (42, true))⟩, ⟨some 44, (.load false 1 (.t 43)), (some (42, true))⟩, ⟨some 45, (.len false (.t 44)), (some (42, true))⟩, ⟨some 46, (.bin .gtr (.t 45) (.c (.int .i64 0))), (some (42, true))⟩] 47 (.t 46)]) (.cond (.t 47) (.seq (.reg [.op ⟨some 2, (.mv (.c (.int .i64 1))), none⟩]) (.ret)) (.skip))) (.seq (.seq (.seq (.view [.sel [1, 3] [0]]) (.sub (scOf a_ddiref26_rule_J38) s_ddiref26_rule_J38)) (.cond (.t 54) (.seq (.reg [.op ⟨some 2, (.mv (.c (.int .i64 2))), none⟩]) (.ret)) (.skip))) (.seq (.seq (.seq (.view [.sel [1, 3] [0]]) (.sub (scOf a_ddiref26_rule_J46) s_ddiref26_rule_J46)) (.cond (.t 62) (.seq (.reg [.op ⟨some 2, (.mv (.c (.int .i64 3))), none⟩]) (.ret)) (.skip))) (.seq (.seq (.reg [.op ⟨some 63, (.fa 6 (.t 1)), none⟩,
 .op ⟨some 64, (.load false 1 (.t 63)), none⟩,
 .op ⟨some 65, (.bin .eql (.t 64) (.c (.int .i64 4))), none⟩,
 .op ⟨some 66, (.mv (.t 65)), none⟩,
 .op ⟨some 67, (.fa 7 (.t 1)), (some (66, true))⟩,
 .op ⟨some 68, (.load false 1 (.t 67)), (some (66, true))⟩,
 .call ⟨some 69, (.call 46 [.t 68]), (some (66, true))⟩ 46 ent_ddiref26_local,
 .op ⟨some 70, (.un .not (.t 69)), (some (66, true))⟩,
 .op ⟨some 71, (.pick (.t 66) (.t 70) (.c (.bool false))), none⟩]) (.cond (.t 71) (.seq (.reg [.op ⟨some 2, (.mv (.c (.int .i64 5))), none⟩]) (.ret)) (.skip))) (.seq (.reg [.op ⟨some 2, (.mv (.c (.int .i64 0))), none⟩]) (.ret))))))))))
theorem ok_ddiref26_rule : AC.ok Tryd.prog (TIof Tryd.prog) 72 0 (kret [.t 2] dec_ddiref26_rule) a_ddiref26_rule := (zA zT (zA (zA zT (zA (zA zT zT) zT)) (zA zT (zA (zA zT (zA (zA zT zT) zT)) (zA (zA zT (zA (zA zT zT) zT)) (zA (zA zT (zA (zA zT zT) zT)) (zA (zA (zA zT o_ddiref26_rule_J38) (zA (zA zT zT) zT)) (zA (zA (zA zT o_ddiref26_rule_J46) (zA (zA zT zT) zT)) (zA (zA (zA (EntOkB.ok k_ddiref26_local) zT) (zA (zA zT zT) zT)) (zA zT zT))))))))))
theorem t_ddiref26_rule (v0_0 : Int) (v0_1 : List UInt8) (v0_2 : Bool) (v0_3 : Int) (v0_4 : Int) (v0_5 : Int) (v0_6 : Int) (v0_7 : List AV) : den 0 (kret [.t 2] dec_ddiref26_rule) a_ddiref26_rule (envOf [(0, (.agg [(.int .i64 v0_0), (.str v0_1), (.bool v0_2), (.int .u64 v0_3), (.int .u64 v0_4), (.int .i64 v0_5), (.int .i64 v0_6), (.sl 16 v0_7)]))]) (memOf []) (kend (kret [.t 2] dec_ddiref26_rule)) = ddiref26_rule v0_0 v0_1 v0_2 v0_3 v0_4 v0_5 v0_6 v0_7 := by
  rw [ddiref26_rule_eq]; kernel_rfl
theorem c_ddiref26_rule : cFn (TIof Tryd.prog) Tryd.f27 = some ⟨72, [.t 2], scOf a_ddiref26_rule⟩ := by kernel_rfl
noncomputable def ent_ddiref26_rule {R : Type} (xs : List AV) (K : AV → Option R) : Option R := chk (fitS shp_ddiref26_rule (entry xs) Mem.none) (oB (ddiref26_rule (gI ((entry xs) 0).cells 0) (gS ((entry xs) 0).cells 1) (gB ((entry xs) 0).cells 2) (gI ((entry xs) 0).cells 3) (gI ((entry xs) 0).cells 4) (gI ((entry xs) 0).cells 5) (gI ((entry xs) 0).cells 6) (gL ((entry xs) 0).cells 7)) fun r => K (enc_ddiref26_rule r))
theorem k_ddiref26_rule {R : Type} : EntOkB Tryd.prog 27 (ent_ddiref26_rule (R := R)) :=
  ent_of (F := fun xs => ddiref26_rule (gI ((entry xs) 0).cells 0) (gS ((entry xs) 0).cells 1) (gB ((entry xs) 0).cells 2) (gI ((entry xs) 0).cells 3) (gI ((entry xs) 0).cells 4) (gI ((entry xs) 0).cells 5) (gI ((entry xs) 0).cells 6) (gL ((entry xs) 0).cells 7)) (enc := enc_ddiref26_rule) tabOk follows Tryd.func27 (by kernel_rfl) c_ddiref26_rule (fun z r h => by
 obtain ⟨h1, h2⟩ := cond_some h
 cases h2
 exact (etaRV_eq h1).symm) ok_ddiref26_rule (er_of (by kernel_rfl)) shp_ddiref26_rule (fun xs => t_ddiref26_rule (gI ((entry xs) 0).cells 0) (gS ((entry xs) 0).cells 1) (gB ((entry xs) 0).cells 2) (gI ((entry xs) 0).cells 3) (gI ((entry xs) 0).cells 4) (gI ((entry xs) 0).cells 5) (gI ((entry xs) 0).cells 6) (gL ((entry xs) 0).cells 7)) (fun xs K r h => by
 unfold ent_ddiref26_rule at h
 exact ⟨(chk_some h).1, oB_some (chk_some h).2⟩)
def dec_ddiref26_Check (z : AV) : Option Int := cond (fitRV (.one (.i .i64)) z) (some (aI z)) none
def enc_ddiref26_Check (r : Int) : AV := .int .i64 r
def shp_ddiref26_Check_L14 : Shp := ⟨[(0, .one (.l (.sl 8))), (3, .one (.l (.i .i64)))], []⟩
noncomputable def ddiref26_Check_L14_b  (v0 : List AV) (v3 : Int) (next : Int → Option Int) (kx0 : Unit → Option Int) : Option Int :=
  (bif (decide (v3 < (v0.length : Int))) then (oB (ixB v0 v3) fun y1 => (bif fitC T_api_Rule y1.cells then (oB (ddiref26_rule (gI y1.cells 0) (gS y1.cells 1) (gB y1.cells 2) (gI y1.cells 3) (gI y1.cells 4) (gI y1.cells 5) (gI y1.cells 6) (gL y1.cells 7)) fun r2 => (bif (r2 != (0 : Int)) then (some r2) else (next (IntKind.i64.wrap (v3 + (1 : Int)))))) else none)) else (kx0 ()))
noncomputable def ddiref26_Check_L14_i  (v0 : List AV) (kx0 : Unit → Option Int) : Nat → Int → Option Int
  | 0 => (fun _ => none)
  | n + 1 => (fun v3 => ddiref26_Check_L14_b v0 v3 (ddiref26_Check_L14_i v0 kx0 n) kx0)
noncomputable def ddiref26_Check_L14 := hull (ddiref26_Check_L14_i)
theorem ddiref26_Check_L14_eq : ddiref26_Check_L14 = ddiref26_Check_L14_i := hull_eq _
noncomputable def a_ddiref26_Check_L14 : AC Int :=
  .seq (.seq (.reg [.op ⟨some 8, (.mv (.t 3)), none⟩,
 .op ⟨some 9, (.mv (.t 0)), none⟩,
 .op ⟨some 10, (.len false (.t 9)), none⟩,
 .op ⟨some 11, (.bin .lss (.t 8) (.t 10)), none⟩]) (.cond (.t 11) (.skip) (.seq (.view [.sel [] []]) (.exit 0)))) (.seq (.block 1 (.seq (.reg [.op ⟨some 14, (.mv (.t 0)), none⟩,
 .op ⟨some 15, (.mv (.t 3)), none⟩,
 .op ⟨some 16, (.ia 8 (.t 14) (.t 15)), none⟩,
 .st (.etac 16 T_api_Rule),
 .op ⟨some 17, (.load true 8 (.t 16)), none⟩,
 .call ⟨some 18, (.call 27 [.t 17]), none⟩ 27 ent_ddiref26_rule,
 .op ⟨some 4, (.mv (.t 18)), none⟩]) (.seq (.reg [.op ⟨some 19, (.mv (.t 4)), none⟩,
 .op ⟨some 20, (.bin .neq (.t 19) (.c (.int .i64 0))), none⟩]) (.cond (.t 20) (.seq (.reg [.op ⟨some 21, (.mv (.t 4)), none⟩,
 .op ⟨some 2, (.mv (.t 21)), none⟩]) (.ret)) (.skip))))) (.seq (.reg [.op ⟨some 12, (.mv (.t 3)), none⟩,
 .op ⟨some 13, (.bin .add (.t 12) (.c (.int .i64 1))), none⟩,
 .op ⟨some 3, (.mv (.t 13)), none⟩]) (.view [.sel [0, 3] []])))
theorem ok_ddiref26_Check_L14 : AC.ok Tryd.prog (TIof Tryd.prog) 22 0 (kret [.t 2] dec_ddiref26_Check) a_ddiref26_Check_L14 := (zA (zA zT (zA zT (zA zT zT))) (zA (zA (zA (EntOkB.ok k_ddiref26_rule) zT) (zA zT (zA (zA zT zT) zT))) (zA zT zT)))
theorem t_ddiref26_Check_L14_b (v0 : List AV) (v3 : Int) (K : Ex → Env → Mem → Option Int) : den 0 (kret [.t 2] dec_ddiref26_Check) a_ddiref26_Check_L14 (envOf [(0, (.sl 8 v0)), (3, (.int .i64 v3))]) (memOf []) K = ddiref26_Check_L14_b v0 v3 (fun z_v3 => K .norm (envOf [(0, (.sl 8 v0)), (3, (.int .i64 z_v3))]) (memOf [])) (fun _ => K (.exit 0) (envOf []) (memOf [])) := by kernel_rfl
theorem t_ddiref26_Check_L14 (v0 : List AV) (K : Ex → Env → Mem → Option Int) : ∀ (n : Nat) (v3 : Int), iterD (den 0 (kret [.t 2] dec_ddiref26_Check) a_ddiref26_Check_L14) n (envOf [(0, (.sl 8 v0)), (3, (.int .i64 v3))]) (memOf []) K = ddiref26_Check_L14 v0 (fun _ => K (.exit 0) (envOf []) (memOf [])) n v3 := by
  rw [ddiref26_Check_L14_eq]
  intro n
  induction n with
  | zero => intros; rfl
  | succ n ih =>
 intro v3
 exact (t_ddiref26_Check_L14_b v0 v3 (itK (den 0 (kret [.t 2] dec_ddiref26_Check) a_ddiref26_Check_L14) n K)).trans (congrArg (fun q => ddiref26_Check_L14_b v0 v3 q (fun _ => K (.exit 0) (envOf []) (memOf []))) (funext fun v3 => ih v3))
noncomputable def s_ddiref26_Check_L14 : Env → Mem → (Ex → Env → Mem → Option Int) → Option Int := fun t m K => chk (fitS0 shp_ddiref26_Check_L14 t m) (cond (hdS shp_ddiref26_Check_L14 t m) (ddiref26_Check_L14 (gL [t 0] 0) (fun _ => K (.exit 0) (envOf []) (memOf [])) FU (gI [t 3] 0)) none)
theorem o_ddiref26_Check_L14 : SubOk Tryd.prog (TIof Tryd.prog) 22 0 (kret [.t 2] dec_ddiref26_Check) (.loop (scOf a_ddiref26_Check_L14)) s_ddiref26_Check_L14 :=
  loop_of tabOk follows ok_ddiref26_Check_L14 (er_of (by kernel_rfl)) shp_ddiref26_Check_L14 (fun t m K => congrArg (fun z => chk (fitS0 shp_ddiref26_Check_L14 t m) (cond (hdS shp_ddiref26_Check_L14 t m) z none)) (t_ddiref26_Check_L14 (gL [t 0] 0) K FU (gI [t 3] 0)).symm)
def shp_ddiref26_Check : Shp := ⟨[(0, .one (.l (.sl 8)))], []⟩
noncomputable def ddiref26_Check_i (v0 : List AV) : Option Int :=
  (bif (decide ((v0.length : Int) > (64 : Int))) then (some (9 : Int)) else (ddiref26_Check_L14 v0 (fun (_ : Unit) => (some (0 : Int))) FU (0 : Int)))
noncomputable def ddiref26_Check := hull ddiref26_Check_i
theorem ddiref26_Check_eq : ddiref26_Check = ddiref26_Check_i := hull_eq _
noncomputable def a_ddiref26_Check : AC Int :=
  .seq (.reg [.op ⟨some 2, (.mv (.c (.int .i64 0))), none⟩]) (.seq (.seq (.reg [.op ⟨some 5, (.mv (.t 0)), none⟩,
 .op ⟨some 6, (.len false (.t 5)), none⟩,
 .op ⟨some 7, (.bin .gtr (.t 6) (.c (.int .i64 64))), none⟩]) (.cond (.t 7) (.seq (.reg [.op ⟨some 2, (.mv (.c (.int .i64 9))), none⟩]) (.ret)) (.skip))) (.seq (.seq (.reg [.op ⟨some 3, (.mv (.c (.int .i64 0))), none⟩]) (.block 0 (.seq (.view [.sel [0, 3] []]) (.sub (.loop (scOf a_ddiref26_Check_L14)) s_ddiref26_Check_L14)))) (.seq (.reg [.op ⟨some 2, (.mv (.c (.int .i64 0))), none⟩]) (.ret))))
theorem ok_ddiref26_Check : AC.ok Tryd.prog (TIof Tryd.prog) 22 0 (kret [.t 2] dec_ddiref26_Check) a_ddiref26_Check := (zA zT (zA (zA zT (zA (zA zT zT) zT)) (zA (zA zT (zA zT o_ddiref26_Check_L14)) (zA zT zT))))
theorem t_ddiref26_Check (v0 : List AV) : den 0 (kret [.t 2] dec_ddiref26_Check) a_ddiref26_Check (envOf [(0, (.sl 8 v0))]) (memOf []) (kend (kret [.t 2] dec_ddiref26_Check)) = ddiref26_Check v0 := by
  rw [ddiref26_Check_eq]; kernel_rfl
theorem c_ddiref26_Check : cFn (TIof Tryd.prog) Tryd.f15 = some ⟨22, [.t 2], scOf a_ddiref26_Check⟩ := by kernel_rfl
noncomputable def ent_ddiref26_Check {R : Type} (xs : List AV) (K : AV → Option R) : Option R := chk (fitS shp_ddiref26_Check (entry xs) Mem.none) (oB (ddiref26_Check (gL [(entry xs) 0] 0)) fun r => K (enc_ddiref26_Check r))
theorem k_ddiref26_Check {R : Type} : EntOkB Tryd.prog 15 (ent_ddiref26_Check (R := R)) :=
  ent_of (F := fun xs => ddiref26_Check (gL [(entry xs) 0] 0)) (enc := enc_ddiref26_Check) tabOk follows Tryd.func15 (by kernel_rfl) c_ddiref26_Check (fun z r h => by
 obtain ⟨h1, h2⟩ := cond_some h
 cases h2
 exact (etaRV_eq h1).symm) ok_ddiref26_Check (er_of (by kernel_rfl)) shp_ddiref26_Check (fun xs => t_ddiref26_Check (gL [(entry xs) 0] 0)) (fun xs K r h => by
 unfold ent_ddiref26_Check at h
 exact ⟨(chk_some h).1, oB_some (chk_some h).2⟩)
def dec_ddiref01_same (z : AV) : Option Int := cond (fitRV (.one (.i .i64)) z) (some (aI z)) none
def enc_ddiref01_same (r : Int) : AV := .int .i64 r
def shp_ddiref01_same_J9 : Shp := ⟨[(0, .one (.l (.sl 1))), (1, .one (.l (.sl 1))), (5, .one (.l (.i .i64)))], []⟩
noncomputable def ddiref01_same_J9_i  (v0 : List AV) (v1 : List AV) (v5 : Int) (kn : Bool → Option Int) : Option Int :=
  (bif (decide (v5 < (v0.length : Int))) then (bif (decide (v5 < (v1.length : Int))) then (oB (ixB v0 (IntKind.i64.wrap ((IntKind.i64.wrap ((v0.length : Int) - (1 : Int))) - v5))) fun y1 => (bif fitC [.s] y1.cells then (oB (ixB v1 (IntKind.i64.wrap ((IntKind.i64.wrap ((v1.length : Int) - (1 : Int))) - v5))) fun y2 => (bif fitC [.s] y2.cells then (kn ((gS y1.cells 0) == (gS y2.cells 0))) else none)) else none)) else (kn false)) else (kn false))
noncomputable def ddiref01_same_J9 := hull (ddiref01_same_J9_i)
theorem ddiref01_same_J9_eq : ddiref01_same_J9 = ddiref01_same_J9_i := hull_eq _
noncomputable def a_ddiref01_same_J9 : AC Int :=
  .seq (.draw [] [.op ⟨some 6, (.mv (.t 5)), none⟩,
 .op ⟨some 7, (.mv (.t 0)), none⟩,
 .op ⟨some 8, (.len false (.t 7)), none⟩,
 .op ⟨some 9, (.bin .lss (.t 6) (.t 8)), none⟩,
 .op ⟨some 10, (.mv (.t 9)), none⟩,
 .op ⟨some 11, (.mv (.t 5)), (some (10, true))⟩,
 .op ⟨some 12, (.mv (.t 1)), (some (10, true))⟩,
 .op ⟨some 13, (.len false (.t 12)), (some (10, true))⟩,
 .op ⟨some 14, (.bin .lss (.t 11) (.t 13)), (some (10, true))⟩,
 .op ⟨some 15, (.pick (.t 10) (.t 14) (.c (.bool false))), none⟩,
 .op ⟨some 16, (.mv (.t 15)), none⟩,
 .op ⟨some 17, (.mv (.t 0)), (some (16, true))⟩,
 .op ⟨some 18, (.mv (.t 0)), (some (16, true))⟩,
 .op ⟨some 19, (.len false (.t 18)), (some (16, true))⟩,
 .op ⟨some 20, (.bin .sub (.t 19) (.c (.int .i64 1))), (some (16, true))⟩,
 .op ⟨some 21, (.mv (.t 5)), (some (16, true))⟩,
 .op ⟨some 22, (.bin .sub (.t 20) (.t 21)), (some (16, true))⟩,
 .op ⟨some 23, (.ia 1 (.t 17) (.t 22)), (some (16, true))⟩,
 .et 23 [.s],
 .op ⟨some 24, (.load false 1 (.t 23)), (some (16, true))⟩,
 .op ⟨some 25, (.mv (.t 1)), (some (16, true))⟩,
 .op ⟨some 26, (.mv (.t 1)), (some (16, true))⟩,
 .op ⟨some 27, (.len false (.t 26)), (some (16, true))⟩,
 .op ⟨some 28, (.bin .sub (.t 27) (.c (.int .i64 1))), (some (16, true))⟩,
 .op ⟨some 29, (.mv (.t 5)), (some (16, true))⟩,
 .op ⟨some 30, (.bin .sub (.t 28) (.t 29)), (some (16, true))⟩,
 .op ⟨some 31, (.ia 1 (.t 25) (.t 30)), (some (16, true))⟩,
 .et 31 [.s],
 .op ⟨some 32, (.load false 1 (.t 31)), (some (16, true))⟩] [.op ⟨some 33, (.bin .eql (.t 24) (.t 32)), (some (16, true))⟩,
 .op ⟨some 34, (.pick (.t 16) (.t 33) (.c (.bool false))), none⟩]) (.view [.sel [0, 1, 5, 34] []])
theorem ok_ddiref01_same_J9 : AC.ok Tryd.prog (TIof Tryd.prog) 38 0 (kret [.t 4] dec_ddiref01_same) a_ddiref01_same_J9 := (zA (zA zT (zA zT rfl)) zT)
theorem t_ddiref01_same_J9 (v0 : List AV) (v1 : List AV) (v5 : Int) (K : Ex → Env → Mem → Option Int) : den 0 (kret [.t 4] dec_ddiref01_same) a_ddiref01_same_J9 (envOf [(0, (.sl 1 v0)), (1, (.sl 1 v1)), (5, (.int .i64 v5))]) (memOf []) K = ddiref01_same_J9 v0 v1 v5 (fun z_v34 => K .norm (envOf [(0, (.sl 1 v0)), (1, (.sl 1 v1)), (5, (.int .i64 v5)), (34, (.bool z_v34))]) (memOf [])) := by
  rw [ddiref01_same_J9_eq]; kernel_rfl
noncomputable def s_ddiref01_same_J9 : Env → Mem → (Ex → Env → Mem → Option Int) → Option Int := fun t m K => chk (fitS0 shp_ddiref01_same_J9 t m) (cond (hdS shp_ddiref01_same_J9 t m) (ddiref01_same_J9 (gL [t 0] 0) (gL [t 1] 0) (gI [t 5] 0) (fun z_v34 => K .norm (envOf [(0, (.sl 1 (gL [t 0] 0))), (1, (.sl 1 (gL [t 1] 0))), (5, (.int .i64 (gI [t 5] 0))), (34, (.bool z_v34))]) (memOf []))) none)
theorem o_ddiref01_same_J9 : SubOk Tryd.prog (TIof Tryd.prog) 38 0 (kret [.t 4] dec_ddiref01_same) (scOf a_ddiref01_same_J9) s_ddiref01_same_J9 :=
  sub_of tabOk follows ok_ddiref01_same_J9 (er_of (by kernel_rfl)) shp_ddiref01_same_J9 (fun t m K => congrArg (fun z => chk (fitS0 shp_ddiref01_same_J9 t m) (cond (hdS shp_ddiref01_same_J9 t m) z none)) (t_ddiref01_same_J9 (gL [t 0] 0) (gL [t 1] 0) (gI [t 5] 0) K).symm)
def shp_ddiref01_same_L6 : Shp := ⟨[(0, .one (.l (.sl 1))), (1, .one (.l (.sl 1))), (5, .one (.l (.i .i64)))], []⟩
noncomputable def ddiref01_same_L6_b  (v0 : List AV) (v1 : List AV) (v5 : Int) (next : Int → Option Int) (kx0 : Int → Option Int) : Option Int :=
  (ddiref01_same_J9 v0 v1 v5 (fun v34q1 => (bif v34q1 then (next (IntKind.i64.wrap (v5 + (1 : Int)))) else (kx0 v5))))
noncomputable def ddiref01_same_L6_i  (v0 : List AV) (v1 : List AV) (kx0 : Int → Option Int) : Nat → Int → Option Int
  | 0 => (fun _ => none)
  | n + 1 => (fun v5 => ddiref01_same_L6_b v0 v1 v5 (ddiref01_same_L6_i v0 v1 kx0 n) kx0)
noncomputable def ddiref01_same_L6 := hull (ddiref01_same_L6_i)
theorem ddiref01_same_L6_eq : ddiref01_same_L6 = ddiref01_same_L6_i := hull_eq _
noncomputable def a_ddiref01_same_L6 : AC Int :=
  .seq (.seq (.seq (.view [.sel [0, 1, 5] []]) (.sub (scOf a_ddiref01_same_J9) s_ddiref01_same_J9)) (.cond (.t 34) (.skip) (.seq (.view [.sel [5] []]) (.exit 0)))) (.block 1 (.seq (.reg [.op ⟨some 35, (.mv (.t 5)), none⟩,
 .op ⟨some 36, (.bin .add (.t 35) (.c (.int .i64 1))), none⟩,
 .op ⟨some 5, (.mv (.t 36)), none⟩]) (.view [.sel [0, 1, 5] []])))
theorem ok_ddiref01_same_L6 : AC.ok Tryd.prog (TIof Tryd.prog) 38 0 (kret [.t 4] dec_ddiref01_same) a_ddiref01_same_L6 := (zA (zA (zA zT o_ddiref01_same_J9) (zA zT (zA zT zT))) (zA zT zT))
theorem t_ddiref01_same_L6_b (v0 : List AV) (v1 : List AV) (v5 : Int) (K : Ex → Env → Mem → Option Int) : den 0 (kret [.t 4] dec_ddiref01_same) a_ddiref01_same_L6 (envOf [(0, (.sl 1 v0)), (1, (.sl 1 v1)), (5, (.int .i64 v5))]) (memOf []) K = ddiref01_same_L6_b v0 v1 v5 (fun z_v5 => K .norm (envOf [(0, (.sl 1 v0)), (1, (.sl 1 v1)), (5, (.int .i64 z_v5))]) (memOf [])) (fun z_v5 => K (.exit 0) (envOf [(5, (.int .i64 z_v5))]) (memOf [])) := by kernel_rfl
theorem t_ddiref01_same_L6 (v0 : List AV) (v1 : List AV) (K : Ex → Env → Mem → Option Int) : ∀ (n : Nat) (v5 : Int), iterD (den 0 (kret [.t 4] dec_ddiref01_same) a_ddiref01_same_L6) n (envOf [(0, (.sl 1 v0)), (1, (.sl 1 v1)), (5, (.int .i64 v5))]) (memOf []) K = ddiref01_same_L6 v0 v1 (fun z_v5 => K (.exit 0) (envOf [(5, (.int .i64 z_v5))]) (memOf [])) n v5 := by
  rw [ddiref01_same_L6_eq]
  intro n
  induction n with
  | zero => intros; rfl
  | succ n ih =>
 intro v5
 exact (t_ddiref01_same_L6_b v0 v1 v5 (itK (den 0 (kret [.t 4] dec_ddiref01_same) a_ddiref01_same_L6) n K)).trans (congrArg (fun q => ddiref01_same_L6_b v0 v1 v5 q (fun z_v5 => K (.exit 0) (envOf [(5, (.int .i64 z_v5))]) (memOf []))) (funext fun v5 => ih v5))
noncomputable def s_ddiref01_same_L6 : Env → Mem → (Ex → Env → Mem → Option Int) → Option Int := fun t m K => chk (fitS0 shp_ddiref01_same_L6 t m) (cond (hdS shp_ddiref01_same_L6 t m) (ddiref01_same_L6 (gL [t 0] 0) (gL [t 1] 0) (fun z_v5 => K (.exit 0) (envOf [(5, (.int .i64 z_v5))]) (memOf [])) FU (gI [t 5] 0)) none)
theorem o_ddiref01_same_L6 : SubOk Tryd.prog (TIof Tryd.prog) 38 0 (kret [.t 4] dec_ddiref01_same) (.loop (scOf a_ddiref01_same_L6)) s_ddiref01_same_L6 :=
  loop_of tabOk follows ok_ddiref01_same_L6 (er_of (by kernel_rfl)) shp_ddiref01_same_L6 (fun t m K => congrArg (fun z => chk (fitS0 shp_ddiref01_same_L6 t m) (cond (hdS shp_ddiref01_same_L6 t m) z none)) (t_ddiref01_same_L6 (gL [t 0] 0) (gL [t 1] 0) K FU (gI [t 5] 0)).symm)
def shp_ddiref01_same : Shp := ⟨[(0, .one (.l (.sl 1))), (1, .one (.l (.sl 1)))], []⟩
noncomputable def ddiref01_same_i (v0 : List AV) (v1 : List AV) : Option Int :=
  (ddiref01_same_L6 v0 v1 (fun v5q1 => (some v5q1)) FU (0 : Int))
noncomputable def ddiref01_same := hull ddiref01_same_i
theorem ddiref01_same_eq : ddiref01_same = ddiref01_same_i := hull_eq _
noncomputable def a_ddiref01_same : AC Int :=
  .seq (.reg [.op ⟨some 4, (.mv (.c (.int .i64 0))), none⟩]) (.seq (.reg [.op ⟨some 5, (.mv (.c (.int .i64 0))), none⟩]) (.seq (.block 0 (.seq (.view [.sel [0, 1, 5] []]) (.sub (.loop (scOf a_ddiref01_same_L6)) s_ddiref01_same_L6))) (.seq (.reg [.op ⟨some 37, (.mv (.t 5)), none⟩,
 .op ⟨some 4, (.mv (.t 37)), none⟩]) (.ret))))
theorem ok_ddiref01_same : AC.ok Tryd.prog (TIof Tryd.prog) 38 0 (kret [.t 4] dec_ddiref01_same) a_ddiref01_same := (zA zT (zA zT (zA (zA zT o_ddiref01_same_L6) (zA zT zT))))
theorem t_ddiref01_same (v0 : List AV) (v1 : List AV) : den 0 (kret [.t 4] dec_ddiref01_same) a_ddiref01_same (envOf [(0, (.sl 1 v0)), (1, (.sl 1 v1))]) (memOf []) (kend (kret [.t 4] dec_ddiref01_same)) = ddiref01_same v0 v1 := by
  rw [ddiref01_same_eq]; kernel_rfl
theorem c_ddiref01_same : cFn (TIof Tryd.prog) Tryd.f35 = some ⟨38, [.t 4], scOf a_ddiref01_same⟩ := by kernel_rfl
noncomputable def ent_ddiref01_same {R : Type} (xs : List AV) (K : AV → Option R) : Option R := chk (fitS shp_ddiref01_same (entry xs) Mem.none) (oB (ddiref01_same (gL [(entry xs) 0] 0) (gL [(entry xs) 1] 0)) fun r => K (enc_ddiref01_same r))
theorem k_ddiref01_same {R : Type} : EntOkB Tryd.prog 35 (ent_ddiref01_same (R := R)) :=
  ent_of (F := fun xs => ddiref01_same (gL [(entry xs) 0] 0) (gL [(entry xs) 1] 0)) (enc := enc_ddiref01_same) tabOk follows Tryd.func35 (by kernel_rfl) c_ddiref01_same (fun z r h => by
 obtain ⟨h1, h2⟩ := cond_some h
 cases h2
 exact (etaRV_eq h1).symm) ok_ddiref01_same (er_of (by kernel_rfl)) shp_ddiref01_same (fun xs => t_ddiref01_same (gL [(entry xs) 0] 0) (gL [(entry xs) 1] 0)) (fun xs K r h => by
 unfold ent_ddiref01_same at h
 exact ⟨(chk_some h).1, oB_some (chk_some h).2⟩)
def dec_ddiref01_Under (z : AV) : Option Bool := cond (fitRV (.one .b) z) (some (aB z)) none
def enc_ddiref01_Under (r : Bool) : AV := .bool r
def shp_ddiref01_Under : Shp := ⟨[(0, .one (.l .s)), (1, .one (.l .s))], []⟩
noncomputable def ddiref01_Under_i (v0 : List UInt8) (v1 : List UInt8) : Option Bool :=
  (oB (ddiref01_split v0) fun r1 => (oB (ddiref01_split v1) fun r2 => (bif (r1.2 && r2.2) then (oB (ddiref01_same r1.1 r2.1) fun r3 => (some (r3 == (r2.1.length : Int)))) else (some false))))
noncomputable def ddiref01_Under := hull ddiref01_Under_i
theorem ddiref01_Under_eq : ddiref01_Under = ddiref01_Under_i := hull_eq _
noncomputable def a_ddiref01_Under : AC Bool :=
  .seq (.reg [.op ⟨some 4, (.mv (.c (.bool false))), none⟩]) (.seq (.reg [.op ⟨some 10, (.mv (.t 0)), none⟩,
 .callc ⟨some 11, (.call 34 [.t 10]), none⟩ 34 ent_ddiref01_split,
 .op ⟨some 9, (.mv (.t 11)), none⟩,
 .op ⟨some 12, (.ext (.t 9) 0), none⟩,
 .op ⟨some 13, (.ext (.t 9) 1), none⟩,
 .op ⟨some 5, (.mv (.t 12)), none⟩,
 .op ⟨some 6, (.mv (.t 13)), none⟩]) (.seq (.reg [.op ⟨some 15, (.mv (.t 1)), none⟩,
 .callc ⟨some 16, (.call 34 [.t 15]), none⟩ 34 ent_ddiref01_split,
 .op ⟨some 14, (.mv (.t 16)), none⟩,
 .op ⟨some 17, (.ext (.t 14) 0), none⟩,
 .op ⟨some 18, (.ext (.t 14) 1), none⟩,
 .op ⟨some 7, (.mv (.t 17)), none⟩,
 .op ⟨some 8, (.mv (.t 18)), none⟩]) (.seq (.reg [.op ⟨some 19, (.mv (.t 6)), none⟩,
 .op ⟨some 20, (.mv (.t 19)), none⟩,
 .grp 20 true [⟨some 21, (.mv (.t 8)), (some (20, true))⟩] 22 (.t 21),
 .op ⟨some 23, (.mv (.t 22)), none⟩,
 .op ⟨some 24, (.mv (.t 5)), (some (23, true))⟩,
 .op ⟨some 25, (.mv (.t 7)), (some (23, true))⟩,
 .call ⟨some 26, (.call 35 [.t 24, .t 25]), (some (23, true))⟩ 35 ent_ddiref01_same,
 .op ⟨some 27, (.mv (.t 7)), (some (23, true))⟩,
 .op ⟨some 28, (.len false (.t 27)), (some (23, true))⟩,
 .op ⟨some 29, (.bin .eql (.t 26) (.t 28)), (some (23, true))⟩,
 .op ⟨some 30, (.pick (.t 23) (.t 29) (.c (.bool false))), none⟩,
 .op ⟨some 4, (.mv (.t 30)), none⟩]) (.ret))))
theorem ok_ddiref01_Under : AC.ok Tryd.prog (TIof Tryd.prog) 31 0 (kret [.t 4] dec_ddiref01_Under) a_ddiref01_Under := (zA zT (zA (zA (EntOkB.ok k_ddiref01_split) zT) (zA (zA (EntOkB.ok k_ddiref01_split) zT) (zA (zA (EntOkB.ok k_ddiref01_same) zT) zT))))
theorem t_ddiref01_Under (v0 : List UInt8) (v1 : List UInt8) : den 0 (kret [.t 4] dec_ddiref01_Under) a_ddiref01_Under (envOf [(0, (.str v0)), (1, (.str v1))]) (memOf []) (kend (kret [.t 4] dec_ddiref01_Under)) = ddiref01_Under v0 v1 := by
  rw [ddiref01_Under_eq]; kernel_rfl
theorem c_ddiref01_Under : cFn (TIof Tryd.prog) Tryd.f22 = some ⟨31, [.t 4], scOf a_ddiref01_Under⟩ := by kernel_rfl
noncomputable def ent_ddiref01_Under {R : Type} (xs : List AV) (K : AV → Option R) : Option R := chk (fitS shp_ddiref01_Under (entry xs) Mem.none) (oB (ddiref01_Under (gS [(entry xs) 0] 0) (gS [(entry xs) 1] 0)) fun r => K (enc_ddiref01_Under r))
theorem k_ddiref01_Under {R : Type} : EntOkB Tryd.prog 22 (ent_ddiref01_Under (R := R)) :=
  ent_of (F := fun xs => ddiref01_Under (gS [(entry xs) 0] 0) (gS [(entry xs) 1] 0)) (enc := enc_ddiref01_Under) tabOk follows Tryd.func22 (by kernel_rfl) c_ddiref01_Under (fun z r h => by
 obtain ⟨h1, h2⟩ := cond_some h
 cases h2
 exact (etaRV_eq h1).symm) ok_ddiref01_Under (er_of (by kernel_rfl)) shp_ddiref01_Under (fun xs => t_ddiref01_Under (gS [(entry xs) 0] 0) (gS [(entry xs) 1] 0)) (fun xs K r h => by
 unfold ent_ddiref01_Under at h
 exact ⟨(chk_some h).1, oB_some (chk_some h).2⟩)
def dec_ddiref01_Labels (z : AV) : Option (List AV) := cond (fitRV (.one (.sl 1)) z) (some (aL z)) none
def enc_ddiref01_Labels (r : (List AV)) : AV := .sl 1 r
def shp_ddiref01_Labels : Shp := ⟨[(0, .one (.l .s))], []⟩
noncomputable def ddiref01_Labels_i (v0 : List UInt8) : Option (List AV) :=
  (oB (ddiref01_split v0) fun r1 => (some r1.1))
noncomputable def ddiref01_Labels := hull ddiref01_Labels_i
theorem ddiref01_Labels_eq : ddiref01_Labels = ddiref01_Labels_i := hull_eq _
noncomputable def a_ddiref01_Labels : AC (List AV) :=
  .seq (.reg [.op ⟨some 2, (.mv (.c .nils)), none⟩]) (.seq (.reg [.op ⟨some 6, (.mv (.t 0)), none⟩,
 .callc ⟨some 7, (.call 34 [.t 6]), none⟩ 34 ent_ddiref01_split,
 .op ⟨some 5, (.mv (.t 7)), none⟩,
 .op ⟨some 8, (.ext (.t 5) 0), none⟩,
 .op ⟨some 9, (.ext (.t 5) 1), none⟩,
 .op ⟨some 3, (.mv (.t 8)), none⟩,
 .op ⟨some 4, (.mv (.t 9)), none⟩]) (.seq (.reg [.op ⟨some 10, (.mv (.t 3)), none⟩,
 .op ⟨some 2, (.mv (.t 10)), none⟩]) (.ret)))
theorem ok_ddiref01_Labels : AC.ok Tryd.prog (TIof Tryd.prog) 11 0 (kret [.t 2] dec_ddiref01_Labels) a_ddiref01_Labels := (zA zT (zA (zA (EntOkB.ok k_ddiref01_split) zT) (zA zT zT)))
theorem t_ddiref01_Labels (v0 : List UInt8) : den 0 (kret [.t 2] dec_ddiref01_Labels) a_ddiref01_Labels (envOf [(0, (.str v0))]) (memOf []) (kend (kret [.t 2] dec_ddiref01_Labels)) = ddiref01_Labels v0 := by
  rw [ddiref01_Labels_eq]; kernel_rfl
theorem c_ddiref01_Labels : cFn (TIof Tryd.prog) Tryd.f23 = some ⟨11, [.t 2], scOf a_ddiref01_Labels⟩ := by kernel_rfl
noncomputable def ent_ddiref01_Labels {R : Type} (xs : List AV) (K : AV → Option R) : Option R := chk (fitS shp_ddiref01_Labels (entry xs) Mem.none) (oB (ddiref01_Labels (gS [(entry xs) 0] 0)) fun r => K (enc_ddiref01_Labels r))
theorem k_ddiref01_Labels {R : Type} : EntOkB Tryd.prog 23 (ent_ddiref01_Labels (R := R)) :=
  ent_of (F := fun xs => ddiref01_Labels (gS [(entry xs) 0] 0)) (enc := enc_ddiref01_Labels) tabOk follows Tryd.func23 (by kernel_rfl) c_ddiref01_Labels (fun z r h => by
 obtain ⟨h1, h2⟩ := cond_some h
 cases h2
 exact (etaRV_eq h1).symm) ok_ddiref01_Labels (er_of (by kernel_rfl)) shp_ddiref01_Labels (fun xs => t_ddiref01_Labels (gS [(entry xs) 0] 0)) (fun xs K r h => by
 unfold ent_ddiref01_Labels at h
 exact ⟨(chk_some h).1, oB_some (chk_some h).2⟩)
end Go.Proofs.YthhnnlipnpfkcaaDoor.Dn
