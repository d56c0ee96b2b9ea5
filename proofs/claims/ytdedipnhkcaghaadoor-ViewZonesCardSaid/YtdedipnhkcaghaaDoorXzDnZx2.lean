import Derived.Test.YtdedipnhkcaghaaDoorProg
import Derived.Test.YtdedipnhkcaghaaDoorXzLibC
import Derived.Test.YtdedipnhkcaghaaDoorXzDnZx1
set_option linter.all false
namespace Go.Proofs.YtdedipnhkcaghaaDoor.Dn
open Go Go.Pev
set_option linter.unusedVariables false
set_option linter.unusedSimpArgs false
set_option maxRecDepth 100000
set_option maxHeartbeats 4000000
def dec_view_check (z : AV) : Option Int := cond (fitRV (.one (.i .i64)) z) (some (aI z)) none
def enc_view_check (r : Int) : AV := .int .i64 r
def shp_view_check_L22 : Shp := ⟨[(1, .one (.l (.sl 6))), (2, .one (.ptr 0 0)), (31, .one (.l (.sl 1))), (32, .one (.l (.i .i64))), (33, .one (.l (.i .i64)))], [.box true [(.l .s), (.l (.sl 6)), (.l (.sl 6)), (.l (.sl 6)), (.l (.sl 1)), (.l (.sl 8))]]⟩
noncomputable def view_check_L22_b  (v1 : List AV) (v31 : List AV) (v32 : Int) (v33 : Int) (b0_0 : List UInt8) (b0_1 : List AV) (b0_2 : List AV) (b0_3 : List AV) (b0_4 : List AV) (b0_5 : List AV) (next : Int → Option Int) (kx0 : Unit → Option Int) : Option Int :=
  (bif (decide (v33 < v32)) then (oB (ixB v31 v33) fun y1 => (bif fitC [.s] y1.cells then (oB (dname_Valid (gS y1.cells 0)) fun r2 => (bif (!r2) then (some (2 : Int)) else (oB (ixB (gS y1.cells 0) (0 : Int)) fun c3 => (bif ((c3.toNat : Int) == (42 : Int)) then (some (2 : Int)) else (next (IntKind.i64.wrap (v33 + (1 : Int)))))))) else none)) else (kx0 ()))
noncomputable def view_check_L22_i  (v1 : List AV) (v31 : List AV) (v32 : Int) (b0_0 : List UInt8) (b0_1 : List AV) (b0_2 : List AV) (b0_3 : List AV) (b0_4 : List AV) (b0_5 : List AV) (kx0 : Unit → Option Int) : Nat → Int → Option Int
  | 0 => (fun _ => none)
  | n + 1 => (fun v33 => view_check_L22_b v1 v31 v32 v33 b0_0 b0_1 b0_2 b0_3 b0_4 b0_5 (view_check_L22_i v1 v31 v32 b0_0 b0_1 b0_2 b0_3 b0_4 b0_5 kx0 n) kx0)
noncomputable def view_check_L22 := hull (view_check_L22_i)
theorem view_check_L22_eq : view_check_L22 = view_check_L22_i := hull_eq _
noncomputable def a_view_check_L22 : AC Int :=
  .seq (.reg [.op ⟨(some 34), (.bin .lss (.t 33) (.t 32)), none⟩]) (.seq (.cond (.t 34) (.skip) (.seq (.view [.sel [1, 2] [0]]) (.exit 0))) (.seq (.block 1 (.seq (.reg [.op ⟨(some 35), (.ia 1 (.t 31) (.t 33)), none⟩,
    .st (.etac 35 [.s]),
    .op ⟨(some 36), (.load false 1 (.t 35)), none⟩,
    .op ⟨(some 6), (.mv (.t 36)), none⟩]) (.seq (.reg [.op ⟨(some 37), (.mv (.t 6)), none⟩,
    .call ⟨(some 38), (.call 29 [(.t 37)]), none⟩ 29 ent_dname_Valid,
    .op ⟨(some 39), (.un .not (.t 38)), none⟩,
    .op ⟨(some 40), (.mv (.t 39)), none⟩,
    .op ⟨(some 41), (.mv (.t 6)), (some (40, false))⟩,
    .op ⟨(some 42), (.ixs (.t 41) (.c (.int .i64 0))), (some (40, false))⟩,
    .op ⟨(some 43), (.bin .eql (.t 42) (.c (.int .u8 42))), (some (40, false))⟩,
    .op ⟨(some 44), (.pick (.t 40) (.c (.bool true)) (.t 43)), none⟩]) (.cond (.t 44) (.seq (.reg [.op ⟨(some 4), (.mv (.c (.int .i64 2))), none⟩]) (.ret)) (.skip))))) (.seq (.reg [.op ⟨(some 45), (.bin .add (.t 33) (.c (.int .i64 1))), none⟩,
    .op ⟨(some 33), (.mv (.t 45)), none⟩]) (.view [.sel [1, 2, 31, 32, 33] [0]]))))
theorem ok_view_check_L22 : AC.ok Tryd.prog (TIof Tryd.prog) 80 0 (kret [(.t 4)] dec_view_check) a_view_check_L22 := (And.intro True.intro (And.intro (And.intro True.intro (And.intro True.intro True.intro)) (And.intro (And.intro True.intro (And.intro (And.intro (EntOkB.ok k_dname_Valid) True.intro) (And.intro (And.intro True.intro True.intro) True.intro))) (And.intro True.intro True.intro))))
theorem t_view_check_L22_b (v1 : List AV) (v31 : List AV) (v32 : Int) (v33 : Int) (b0_0 : List UInt8) (b0_1 : List AV) (b0_2 : List AV) (b0_3 : List AV) (b0_4 : List AV) (b0_5 : List AV) (K : Ex → Env → Mem → Option Int) : den 0 (kret [(.t 4)] dec_view_check) a_view_check_L22 (envOf [(1, (.sl 6 v1)), (2, (.ptr 0 0)), (31, (.sl 1 v31)), (32, (.int .i64 v32)), (33, (.int .i64 v33))]) (memOf [(some (.box true [(.str b0_0), (.sl 6 b0_1), (.sl 6 b0_2), (.sl 6 b0_3), (.sl 1 b0_4), (.sl 8 b0_5)]))]) K = view_check_L22_b v1 v31 v32 v33 b0_0 b0_1 b0_2 b0_3 b0_4 b0_5 (fun z_v33 => K .norm (envOf [(1, (.sl 6 v1)), (2, (.ptr 0 0)), (31, (.sl 1 v31)), (32, (.int .i64 v32)), (33, (.int .i64 z_v33))]) (memOf [(some (.box true [(.str b0_0), (.sl 6 b0_1), (.sl 6 b0_2), (.sl 6 b0_3), (.sl 1 b0_4), (.sl 8 b0_5)]))])) (fun _ => K (.exit 0) (envOf [(1, (.sl 6 v1)), (2, (.ptr 0 0))]) (memOf [(some (.box true [(.str b0_0), (.sl 6 b0_1), (.sl 6 b0_2), (.sl 6 b0_3), (.sl 1 b0_4), (.sl 8 b0_5)]))])) := by kernel_rfl
theorem t_view_check_L22 (v1 : List AV) (v31 : List AV) (v32 : Int) (b0_0 : List UInt8) (b0_1 : List AV) (b0_2 : List AV) (b0_3 : List AV) (b0_4 : List AV) (b0_5 : List AV) (K : Ex → Env → Mem → Option Int) : ∀ (n : Nat) (v33 : Int), iterD (den 0 (kret [(.t 4)] dec_view_check) a_view_check_L22) n (envOf [(1, (.sl 6 v1)), (2, (.ptr 0 0)), (31, (.sl 1 v31)), (32, (.int .i64 v32)), (33, (.int .i64 v33))]) (memOf [(some (.box true [(.str b0_0), (.sl 6 b0_1), (.sl 6 b0_2), (.sl 6 b0_3), (.sl 1 b0_4), (.sl 8 b0_5)]))]) K = view_check_L22 v1 v31 v32 b0_0 b0_1 b0_2 b0_3 b0_4 b0_5 (fun _ => K (.exit 0) (envOf [(1, (.sl 6 v1)), (2, (.ptr 0 0))]) (memOf [(some (.box true [(.str b0_0), (.sl 6 b0_1), (.sl 6 b0_2), (.sl 6 b0_3), (.sl 1 b0_4), (.sl 8 b0_5)]))])) n v33 := by
  rw [view_check_L22_eq]
  intro n
  induction n with
  | zero => intros; rfl
  | succ n ih =>
    intro v33
    exact (t_view_check_L22_b v1 v31 v32 v33 b0_0 b0_1 b0_2 b0_3 b0_4 b0_5 (itK (den 0 (kret [(.t 4)] dec_view_check) a_view_check_L22) n K)).trans (congrArg (fun q => view_check_L22_b v1 v31 v32 v33 b0_0 b0_1 b0_2 b0_3 b0_4 b0_5 q (fun _ => K (.exit 0) (envOf [(1, (.sl 6 v1)), (2, (.ptr 0 0))]) (memOf [(some (.box true [(.str b0_0), (.sl 6 b0_1), (.sl 6 b0_2), (.sl 6 b0_3), (.sl 1 b0_4), (.sl 8 b0_5)]))]))) (funext fun v33 => ih v33))
noncomputable def s_view_check_L22 : Env → Mem → (Ex → Env → Mem → Option Int) → Option Int := fun t m K => chk (fitS0 shp_view_check_L22 t m) (cond (hdS shp_view_check_L22 t m) (view_check_L22 (gL [t 1] 0) (gL [t 31] 0) (gI [t 32] 0) (gS (bxC (m.s 0)) 0) (gL (bxC (m.s 0)) 1) (gL (bxC (m.s 0)) 2) (gL (bxC (m.s 0)) 3) (gL (bxC (m.s 0)) 4) (gL (bxC (m.s 0)) 5) (fun _ => K (.exit 0) (envOf [(1, (.sl 6 (gL [t 1] 0))), (2, (.ptr 0 0))]) (memOf [(some (.box true [(.str (gS (bxC (m.s 0)) 0)), (.sl 6 (gL (bxC (m.s 0)) 1)), (.sl 6 (gL (bxC (m.s 0)) 2)), (.sl 6 (gL (bxC (m.s 0)) 3)), (.sl 1 (gL (bxC (m.s 0)) 4)), (.sl 8 (gL (bxC (m.s 0)) 5))]))])) FU (gI [t 33] 0)) none)
theorem o_view_check_L22 : SubOk Tryd.prog (TIof Tryd.prog) 80 0 (kret [(.t 4)] dec_view_check) (.loop (scOf a_view_check_L22)) s_view_check_L22 :=
  loop_of tabOk follows ok_view_check_L22 (er_of (by kernel_rfl)) shp_view_check_L22 (fun t m K => congrArg (fun z => chk (fitS0 shp_view_check_L22 t m) (cond (hdS shp_view_check_L22 t m) z none)) (t_view_check_L22 (gL [t 1] 0) (gL [t 31] 0) (gI [t 32] 0) (gS (bxC (m.s 0)) 0) (gL (bxC (m.s 0)) 1) (gL (bxC (m.s 0)) 2) (gL (bxC (m.s 0)) 3) (gL (bxC (m.s 0)) 4) (gL (bxC (m.s 0)) 5) K FU (gI [t 33] 0)).symm)
def shp_view_check_L53 : Shp := ⟨[(2, .one (.ptr 0 0)), (50, .one (.l (.sl 1))), (51, .one (.l (.i .i64))), (52, .one (.l (.i .i64)))], [.box true [(.l .s), (.l (.sl 6)), (.l (.sl 6)), (.l (.sl 6)), (.l (.sl 1)), (.l (.sl 8))]]⟩
noncomputable def view_check_L53_b  (v50 : List AV) (v51 : Int) (v52 : Int) (b0_0 : List UInt8) (b0_1 : List AV) (b0_2 : List AV) (b0_3 : List AV) (b0_4 : List AV) (b0_5 : List AV) (next : Int → Option Int) (kx2 : Unit → Option Int) : Option Int :=
  (bif (decide (v52 < v51)) then (oB (ixB v50 v52) fun y1 => (bif fitC [.s] y1.cells then (oB (cutI b0_4 none (some v52)) fun s2 => (oB (slices_Contains_string_string s2 (gS y1.cells 0)) fun r3 => (bif r3 then (some (12 : Int)) else (next (IntKind.i64.wrap (v52 + (1 : Int))))))) else none)) else (kx2 ()))
noncomputable def view_check_L53_i  (v50 : List AV) (v51 : Int) (b0_0 : List UInt8) (b0_1 : List AV) (b0_2 : List AV) (b0_3 : List AV) (b0_4 : List AV) (b0_5 : List AV) (kx2 : Unit → Option Int) : Nat → Int → Option Int
  | 0 => (fun _ => none)
  | n + 1 => (fun v52 => view_check_L53_b v50 v51 v52 b0_0 b0_1 b0_2 b0_3 b0_4 b0_5 (view_check_L53_i v50 v51 b0_0 b0_1 b0_2 b0_3 b0_4 b0_5 kx2 n) kx2)
noncomputable def view_check_L53 := hull (view_check_L53_i)
theorem view_check_L53_eq : view_check_L53 = view_check_L53_i := hull_eq _
noncomputable def a_view_check_L53 : AC Int :=
  .seq (.reg [.op ⟨(some 53), (.bin .lss (.t 52) (.t 51)), none⟩]) (.seq (.cond (.t 53) (.skip) (.seq (.view [.sel [2] [0]]) (.exit 2))) (.seq (.block 3 (.seq (.reg [.op ⟨(some 54), (.mv (.t 52)), none⟩,
    .op ⟨(some 55), (.ia 1 (.t 50) (.t 52)), none⟩,
    .st (.etac 55 [.s]),
    .op ⟨(some 56), (.load false 1 (.t 55)), none⟩,
    .op ⟨(some 7), (.mv (.t 54)), none⟩,
    .op ⟨(some 8), (.mv (.t 56)), none⟩]) (.seq (.reg [.op ⟨(some 57), (.fa 4 (.t 2)), none⟩,
    .op ⟨(some 58), (.load false 1 (.t 57)), none⟩,
    .op ⟨(some 59), (.mv (.t 7)), none⟩,
    .op ⟨(some 60), (.slc 1 (.t 58) none (some (.t 59))), none⟩,
    .op ⟨(some 61), (.mv (.t 8)), none⟩,
    .call ⟨(some 62), (.call 37 [(.t 60), (.t 61)]), none⟩ 37 ent_slices_Contains_string_string]) (.cond (.t 62) (.seq (.reg [.op ⟨(some 4), (.mv (.c (.int .i64 12))), none⟩]) (.ret)) (.skip))))) (.seq (.reg [.op ⟨(some 63), (.bin .add (.t 52) (.c (.int .i64 1))), none⟩,
    .op ⟨(some 52), (.mv (.t 63)), none⟩]) (.view [.sel [2, 50, 51, 52] [0]]))))
theorem ok_view_check_L53 : AC.ok Tryd.prog (TIof Tryd.prog) 80 0 (kret [(.t 4)] dec_view_check) a_view_check_L53 := (And.intro True.intro (And.intro (And.intro True.intro (And.intro True.intro True.intro)) (And.intro (And.intro True.intro (And.intro (And.intro (EntOkB.ok k_slices_Contains_string_string) True.intro) (And.intro (And.intro True.intro True.intro) True.intro))) (And.intro True.intro True.intro))))
theorem t_view_check_L53_b (v50 : List AV) (v51 : Int) (v52 : Int) (b0_0 : List UInt8) (b0_1 : List AV) (b0_2 : List AV) (b0_3 : List AV) (b0_4 : List AV) (b0_5 : List AV) (K : Ex → Env → Mem → Option Int) : den 0 (kret [(.t 4)] dec_view_check) a_view_check_L53 (envOf [(2, (.ptr 0 0)), (50, (.sl 1 v50)), (51, (.int .i64 v51)), (52, (.int .i64 v52))]) (memOf [(some (.box true [(.str b0_0), (.sl 6 b0_1), (.sl 6 b0_2), (.sl 6 b0_3), (.sl 1 b0_4), (.sl 8 b0_5)]))]) K = view_check_L53_b v50 v51 v52 b0_0 b0_1 b0_2 b0_3 b0_4 b0_5 (fun z_v52 => K .norm (envOf [(2, (.ptr 0 0)), (50, (.sl 1 v50)), (51, (.int .i64 v51)), (52, (.int .i64 z_v52))]) (memOf [(some (.box true [(.str b0_0), (.sl 6 b0_1), (.sl 6 b0_2), (.sl 6 b0_3), (.sl 1 b0_4), (.sl 8 b0_5)]))])) (fun _ => K (.exit 2) (envOf [(2, (.ptr 0 0))]) (memOf [(some (.box true [(.str b0_0), (.sl 6 b0_1), (.sl 6 b0_2), (.sl 6 b0_3), (.sl 1 b0_4), (.sl 8 b0_5)]))])) := by kernel_rfl
theorem t_view_check_L53 (v50 : List AV) (v51 : Int) (b0_0 : List UInt8) (b0_1 : List AV) (b0_2 : List AV) (b0_3 : List AV) (b0_4 : List AV) (b0_5 : List AV) (K : Ex → Env → Mem → Option Int) : ∀ (n : Nat) (v52 : Int), iterD (den 0 (kret [(.t 4)] dec_view_check) a_view_check_L53) n (envOf [(2, (.ptr 0 0)), (50, (.sl 1 v50)), (51, (.int .i64 v51)), (52, (.int .i64 v52))]) (memOf [(some (.box true [(.str b0_0), (.sl 6 b0_1), (.sl 6 b0_2), (.sl 6 b0_3), (.sl 1 b0_4), (.sl 8 b0_5)]))]) K = view_check_L53 v50 v51 b0_0 b0_1 b0_2 b0_3 b0_4 b0_5 (fun _ => K (.exit 2) (envOf [(2, (.ptr 0 0))]) (memOf [(some (.box true [(.str b0_0), (.sl 6 b0_1), (.sl 6 b0_2), (.sl 6 b0_3), (.sl 1 b0_4), (.sl 8 b0_5)]))])) n v52 := by
  rw [view_check_L53_eq]
  intro n
  induction n with
  | zero => intros; rfl
  | succ n ih =>
    intro v52
    exact (t_view_check_L53_b v50 v51 v52 b0_0 b0_1 b0_2 b0_3 b0_4 b0_5 (itK (den 0 (kret [(.t 4)] dec_view_check) a_view_check_L53) n K)).trans (congrArg (fun q => view_check_L53_b v50 v51 v52 b0_0 b0_1 b0_2 b0_3 b0_4 b0_5 q (fun _ => K (.exit 2) (envOf [(2, (.ptr 0 0))]) (memOf [(some (.box true [(.str b0_0), (.sl 6 b0_1), (.sl 6 b0_2), (.sl 6 b0_3), (.sl 1 b0_4), (.sl 8 b0_5)]))]))) (funext fun v52 => ih v52))
noncomputable def s_view_check_L53 : Env → Mem → (Ex → Env → Mem → Option Int) → Option Int := fun t m K => chk (fitS0 shp_view_check_L53 t m) (cond (hdS shp_view_check_L53 t m) (view_check_L53 (gL [t 50] 0) (gI [t 51] 0) (gS (bxC (m.s 0)) 0) (gL (bxC (m.s 0)) 1) (gL (bxC (m.s 0)) 2) (gL (bxC (m.s 0)) 3) (gL (bxC (m.s 0)) 4) (gL (bxC (m.s 0)) 5) (fun _ => K (.exit 2) (envOf [(2, (.ptr 0 0))]) (memOf [(some (.box true [(.str (gS (bxC (m.s 0)) 0)), (.sl 6 (gL (bxC (m.s 0)) 1)), (.sl 6 (gL (bxC (m.s 0)) 2)), (.sl 6 (gL (bxC (m.s 0)) 3)), (.sl 1 (gL (bxC (m.s 0)) 4)), (.sl 8 (gL (bxC (m.s 0)) 5))]))])) FU (gI [t 52] 0)) none)
theorem o_view_check_L53 : SubOk Tryd.prog (TIof Tryd.prog) 80 0 (kret [(.t 4)] dec_view_check) (.loop (scOf a_view_check_L53)) s_view_check_L53 :=
  loop_of tabOk follows ok_view_check_L53 (er_of (by kernel_rfl)) shp_view_check_L53 (fun t m K => congrArg (fun z => chk (fitS0 shp_view_check_L53 t m) (cond (hdS shp_view_check_L53 t m) z none)) (t_view_check_L53 (gL [t 50] 0) (gI [t 51] 0) (gS (bxC (m.s 0)) 0) (gL (bxC (m.s 0)) 1) (gL (bxC (m.s 0)) 2) (gL (bxC (m.s 0)) 3) (gL (bxC (m.s 0)) 4) (gL (bxC (m.s 0)) 5) K FU (gI [t 52] 0)).symm)
def shp_view_check : Shp := ⟨[(0, .st [(.l .s), (.l (.sl 6)), (.l (.sl 6)), (.l (.sl 6)), (.l (.sl 1)), (.l (.sl 8))]), (1, .one (.l (.sl 6)))], []⟩
noncomputable def view_check_i (v0_0 : List UInt8) (v0_1 : List AV) (v0_2 : List AV) (v0_3 : List AV) (v0_4 : List AV) (v0_5 : List AV) (v1 : List AV) : Option Int :=
  (bif ((decide ((v0_4.length : Int) > (32 : Int))) || (decide ((if (v0_3.length : Int) > (if (v0_2.length : Int) > (v0_1.length : Int) then (v0_2.length : Int) else (v0_1.length : Int)) then (v0_3.length : Int) else (if (v0_2.length : Int) > (v0_1.length : Int) then (v0_2.length : Int) else (v0_1.length : Int))) > (64 : Int)))) then (some (9 : Int)) else (oB (view_called v0_0) fun r1 => (bif (!r1) then (some (2 : Int)) else (view_check_L22 v1 v0_4 (v0_4.length : Int) v0_0 v0_1 v0_2 v0_3 v0_4 v0_5 (fun (_ : Unit) => (slices_ContainsFunc_api_View_api_View__view_check_1 v1 v0_0 v0_1 v0_2 v0_3 v0_4 v0_5 fun v4q2 b0_0q3 b0_1q4 b0_2q5 b0_3q6 b0_4q7 b0_5q8 => (bif v4q2 then (some (12 : Int)) else (view_check_L53 b0_4q7 (b0_4q7.length : Int) b0_0q3 b0_1q4 b0_2q5 b0_3q6 b0_4q7 b0_5q8 (fun (_ : Unit) => (oB (view_right b0_1q4) fun r9 => (bif (!r9) then (some (3 : Int)) else (oB (view_right b0_2q5) fun r10 => (bif (!r10) then (some (3 : Int)) else (oB (view_right b0_3q6) fun r11 => (bif (!r11) then (some (3 : Int)) else (some (0 : Int))))))))) FU (0 : Int))))) FU (0 : Int)))))
noncomputable def view_check := hull view_check_i
theorem view_check_eq : view_check = view_check_i := hull_eq _
noncomputable def a_view_check : AC Int :=
  .seq (.reg [.op ⟨(some 2), (.box (.t 0)), none⟩,
    .op ⟨(some 4), (.mv (.c (.int .i64 0))), none⟩]) (.seq (.seq (.reg [.op ⟨(some 9), (.fa 4 (.t 2)), none⟩,
    .op ⟨(some 10), (.load false 1 (.t 9)), none⟩,
    .op ⟨(some 11), (.len false (.t 10)), none⟩,
    .op ⟨(some 12), (.bin .gtr (.t 11) (.c (.int .i64 32))), none⟩,
    .op ⟨(some 13), (.mv (.t 12)), none⟩,
    .grp 13 false [⟨(some 14), (.fa 1 (.t 2)), (some (13, false))⟩, ⟨(some 15), (.load false 1 (.t 14)), (some (13, false))⟩, ⟨(some 16), (.len false (.t 15)), (some (13, false))⟩, ⟨(some 17), (.fa 2 (.t 2)), (some (13, false))⟩, ⟨(some 18), (.load false 1 (.t 17)), (some (13, false))⟩, ⟨(some 19), (.len false (.t 18)), (some (13, false))⟩, ⟨(some 20), (.fa 3 (.t 2)), (some (13, false))⟩, ⟨(some 21), (.load false 1 (.t 20)), (some (13, false))⟩, ⟨(some 22), (.len false (.t 21)), (some (13, false))⟩, ⟨(some 23), (.mm true (.t 16) [(.t 19), (.t 22)]), (some (13, false))⟩, ⟨(some 24), (.bin .gtr (.t 23) (.c (.int .i64 64))), (some (13, false))⟩] 25 (.t 24)]) (.cond (.t 25) (.seq (.reg [.op ⟨(some 4), (.mv (.c (.int .i64 9))), none⟩]) (.ret)) (.skip))) (.seq (.seq (.reg [.op ⟨(some 26), (.fa 0 (.t 2)), none⟩,
    .op ⟨(some 27), (.load false 1 (.t 26)), none⟩,
    .call ⟨(some 28), (.call 34 [(.t 27)]), none⟩ 34 ent_view_called,
    .op ⟨(some 29), (.un .not (.t 28)), none⟩]) (.cond (.t 29) (.seq (.reg [.op ⟨(some 4), (.mv (.c (.int .i64 2))), none⟩]) (.ret)) (.skip))) (.seq (.seq (.reg [.op ⟨(some 30), (.fa 4 (.t 2)), none⟩,
    .op ⟨(some 31), (.load false 1 (.t 30)), none⟩,
    .op ⟨(some 32), (.len false (.t 31)), none⟩,
    .op ⟨(some 33), (.mv (.c (.int .i64 0))), none⟩]) (.block 0 (.seq (.view [.sel [1, 2, 31, 32, 33] [0]]) (.sub (.loop (scOf a_view_check_L22)) s_view_check_L22)))) (.seq (.seq (.reg [.op ⟨(some 46), (.mv (.t 1)), none⟩,
    .op ⟨(some 47), (.mkf 36 [(.t 2)]), none⟩,
    .st (.sel [2, 46, 47] [0]),
    .callr ⟨(some 48), (.call 35 [(.t 46), (.t 47)]), none⟩ 35 e_slices_ContainsFunc_api_View_api_View__view_check_1]) (.cond (.t 48) (.seq (.reg [.op ⟨(some 4), (.mv (.c (.int .i64 12))), none⟩]) (.ret)) (.skip))) (.seq (.seq (.reg [.op ⟨(some 49), (.fa 4 (.t 2)), none⟩,
    .op ⟨(some 50), (.load false 1 (.t 49)), none⟩,
    .op ⟨(some 51), (.len false (.t 50)), none⟩,
    .op ⟨(some 52), (.mv (.c (.int .i64 0))), none⟩]) (.block 2 (.seq (.view [.sel [2, 50, 51, 52] [0]]) (.sub (.loop (scOf a_view_check_L53)) s_view_check_L53)))) (.seq (.seq (.reg [.op ⟨(some 64), (.fa 1 (.t 2)), none⟩,
    .op ⟨(some 65), (.load false 1 (.t 64)), none⟩,
    .call ⟨(some 66), (.call 38 [(.t 65)]), none⟩ 38 ent_view_right,
    .op ⟨(some 67), (.un .not (.t 66)), none⟩,
    .op ⟨(some 68), (.mv (.t 67)), none⟩,
    .op ⟨(some 69), (.fa 2 (.t 2)), (some (68, false))⟩,
    .op ⟨(some 70), (.load false 1 (.t 69)), (some (68, false))⟩,
    .call ⟨(some 71), (.call 38 [(.t 70)]), (some (68, false))⟩ 38 ent_view_right,
    .op ⟨(some 72), (.un .not (.t 71)), (some (68, false))⟩,
    .op ⟨(some 73), (.pick (.t 68) (.c (.bool true)) (.t 72)), none⟩,
    .op ⟨(some 74), (.mv (.t 73)), none⟩,
    .op ⟨(some 75), (.fa 3 (.t 2)), (some (74, false))⟩,
    .op ⟨(some 76), (.load false 1 (.t 75)), (some (74, false))⟩,
    .call ⟨(some 77), (.call 38 [(.t 76)]), (some (74, false))⟩ 38 ent_view_right,
    .op ⟨(some 78), (.un .not (.t 77)), (some (74, false))⟩,
    .op ⟨(some 79), (.pick (.t 74) (.c (.bool true)) (.t 78)), none⟩]) (.cond (.t 79) (.seq (.reg [.op ⟨(some 4), (.mv (.c (.int .i64 3))), none⟩]) (.ret)) (.skip))) (.seq (.reg [.op ⟨(some 4), (.mv (.c (.int .i64 0))), none⟩]) (.ret))))))))
theorem ok_view_check : AC.ok Tryd.prog (TIof Tryd.prog) 80 0 (kret [(.t 4)] dec_view_check) a_view_check := (And.intro True.intro (And.intro (And.intro True.intro (And.intro (And.intro True.intro True.intro) True.intro)) (And.intro (And.intro (And.intro (EntOkB.ok k_view_called) True.intro) (And.intro (And.intro True.intro True.intro) True.intro)) (And.intro (And.intro True.intro (And.intro True.intro o_view_check_L22)) (And.intro (And.intro (And.intro k_slices_ContainsFunc_api_View_api_View__view_check_1 True.intro) (And.intro (And.intro True.intro True.intro) True.intro)) (And.intro (And.intro True.intro (And.intro True.intro o_view_check_L53)) (And.intro (And.intro (And.intro (EntOkB.ok k_view_right) (And.intro (EntOkB.ok k_view_right) (And.intro (EntOkB.ok k_view_right) True.intro))) (And.intro (And.intro True.intro True.intro) True.intro)) (And.intro True.intro True.intro))))))))
theorem t_view_check (v0_0 : List UInt8) (v0_1 : List AV) (v0_2 : List AV) (v0_3 : List AV) (v0_4 : List AV) (v0_5 : List AV) (v1 : List AV) : den 0 (kret [(.t 4)] dec_view_check) a_view_check (envOf [(0, (.agg [(.str v0_0), (.sl 6 v0_1), (.sl 6 v0_2), (.sl 6 v0_3), (.sl 1 v0_4), (.sl 8 v0_5)])), (1, (.sl 6 v1))]) (memOf []) (kend (kret [(.t 4)] dec_view_check)) = view_check v0_0 v0_1 v0_2 v0_3 v0_4 v0_5 v1 := by
  rw [view_check_eq]; kernel_rfl
theorem c_view_check : cFn (TIof Tryd.prog) Tryd.f22 = some ⟨80, [(.t 4)], scOf a_view_check⟩ := by kernel_rfl
noncomputable def ent_view_check {R : Type} (xs : List AV) (K : AV → Option R) : Option R := chk (fitS shp_view_check (entry xs) Mem.none) (oB (view_check (gS ((entry xs) 0).cells 0) (gL ((entry xs) 0).cells 1) (gL ((entry xs) 0).cells 2) (gL ((entry xs) 0).cells 3) (gL ((entry xs) 0).cells 4) (gL ((entry xs) 0).cells 5) (gL [(entry xs) 1] 0)) fun r => K (enc_view_check r))
theorem k_view_check {R : Type} : EntOkB Tryd.prog 22 (ent_view_check (R := R)) :=
  ent_of (F := fun xs => view_check (gS ((entry xs) 0).cells 0) (gL ((entry xs) 0).cells 1) (gL ((entry xs) 0).cells 2) (gL ((entry xs) 0).cells 3) (gL ((entry xs) 0).cells 4) (gL ((entry xs) 0).cells 5) (gL [(entry xs) 1] 0)) (enc := enc_view_check) tabOk follows Tryd.func22 (by kernel_rfl) c_view_check (fun z r h => by
    obtain ⟨h1, h2⟩ := cond_some h
    cases h2
    exact (etaRV_eq h1).symm) ok_view_check (er_of (by kernel_rfl)) shp_view_check (fun xs => t_view_check (gS ((entry xs) 0).cells 0) (gL ((entry xs) 0).cells 1) (gL ((entry xs) 0).cells 2) (gL ((entry xs) 0).cells 3) (gL ((entry xs) 0).cells 4) (gL ((entry xs) 0).cells 5) (gL [(entry xs) 1] 0)) (fun xs K r h => by
    unfold ent_view_check at h
    exact ⟨(chk_some h).1, oB_some (chk_some h).2⟩)

def dec_view_Check (z : AV) : Option Int := cond (fitRV (.one (.i .i64)) z) (some (aI z)) none
def enc_view_Check (r : Int) : AV := .int .i64 r
def shp_view_Check_L14 : Shp := ⟨[(0, .one (.l (.sl 6))), (9, .one (.l (.sl 6))), (10, .one (.l (.i .i64))), (11, .one (.l (.i .i64)))], []⟩
noncomputable def view_Check_L14_b  (v0 : List AV) (v9 : List AV) (v10 : Int) (v11 : Int) (next : Int → Option Int) (kx0 : Unit → Option Int) : Option Int :=
  (bif (decide (v11 < v10)) then (oB (ixB v9 v11) fun y1 => (bif fitC T_api_View y1.cells then (oB (cutI v0 none (some v11)) fun s2 => (oB (view_check (gS y1.cells 0) (gL y1.cells 1) (gL y1.cells 2) (gL y1.cells 3) (gL y1.cells 4) (gL y1.cells 5) s2) fun r3 => (bif (r3 != (0 : Int)) then (some r3) else (next (IntKind.i64.wrap (v11 + (1 : Int))))))) else none)) else (kx0 ()))
noncomputable def view_Check_L14_i  (v0 : List AV) (v9 : List AV) (v10 : Int) (kx0 : Unit → Option Int) : Nat → Int → Option Int
  | 0 => (fun _ => none)
  | n + 1 => (fun v11 => view_Check_L14_b v0 v9 v10 v11 (view_Check_L14_i v0 v9 v10 kx0 n) kx0)
noncomputable def view_Check_L14 := hull (view_Check_L14_i)
theorem view_Check_L14_eq : view_Check_L14 = view_Check_L14_i := hull_eq _
noncomputable def a_view_Check_L14 : AC Int :=
  .seq (.reg [.op ⟨(some 12), (.bin .lss (.t 11) (.t 10)), none⟩]) (.seq (.cond (.t 12) (.skip) (.seq (.view [.sel [] []]) (.exit 0))) (.seq (.block 1 (.seq (.reg [.op ⟨(some 13), (.mv (.t 11)), none⟩,
    .op ⟨(some 14), (.ia 6 (.t 9) (.t 11)), none⟩,
    .st (.etac 14 T_api_View),
    .op ⟨(some 15), (.load true 6 (.t 14)), none⟩,
    .op ⟨(some 4), (.alloc [(.str []), .nils, .nils, .nils, .nils, .nils]), none⟩,
    .op ⟨(some 3), (.mv (.t 13)), none⟩,
    .op ⟨none, (.store 6 (.t 4) (.t 15)), none⟩]) (.seq (.draw [] [.op ⟨(some 16), (.load true 6 (.t 4)), none⟩,
    .op ⟨(some 17), (.mv (.t 0)), none⟩,
    .op ⟨(some 18), (.mv (.t 3)), none⟩,
    .op ⟨(some 19), (.slc 6 (.t 17) none (some (.t 18))), none⟩] [.call ⟨(some 20), (.call 22 [(.t 16), (.t 19)]), none⟩ 22 ent_view_check,
    .op ⟨(some 5), (.mv (.t 20)), none⟩]) (.seq (.reg [.op ⟨(some 21), (.mv (.t 5)), none⟩,
    .op ⟨(some 22), (.bin .neq (.t 21) (.c (.int .i64 0))), none⟩]) (.cond (.t 22) (.seq (.reg [.op ⟨(some 23), (.mv (.t 5)), none⟩,
    .op ⟨(some 2), (.mv (.t 23)), none⟩]) (.ret)) (.skip)))))) (.seq (.reg [.op ⟨(some 24), (.bin .add (.t 11) (.c (.int .i64 1))), none⟩,
    .op ⟨(some 11), (.mv (.t 24)), none⟩]) (.view [.sel [0, 9, 10, 11] []]))))
theorem ok_view_Check_L14 : AC.ok Tryd.prog (TIof Tryd.prog) 25 0 (kret [(.t 2)] dec_view_Check) a_view_Check_L14 := (And.intro True.intro (And.intro (And.intro True.intro (And.intro True.intro True.intro)) (And.intro (And.intro True.intro (And.intro (And.intro True.intro (And.intro (And.intro (EntOkB.ok k_view_check) True.intro) rfl)) (And.intro True.intro (And.intro (And.intro True.intro True.intro) True.intro)))) (And.intro True.intro True.intro))))
theorem t_view_Check_L14_b (v0 : List AV) (v9 : List AV) (v10 : Int) (v11 : Int) (K : Ex → Env → Mem → Option Int) : den 0 (kret [(.t 2)] dec_view_Check) a_view_Check_L14 (envOf [(0, (.sl 6 v0)), (9, (.sl 6 v9)), (10, (.int .i64 v10)), (11, (.int .i64 v11))]) (memOf []) K = view_Check_L14_b v0 v9 v10 v11 (fun z_v11 => K .norm (envOf [(0, (.sl 6 v0)), (9, (.sl 6 v9)), (10, (.int .i64 v10)), (11, (.int .i64 z_v11))]) (memOf [])) (fun _ => K (.exit 0) (envOf []) (memOf [])) := by kernel_rfl
theorem t_view_Check_L14 (v0 : List AV) (v9 : List AV) (v10 : Int) (K : Ex → Env → Mem → Option Int) : ∀ (n : Nat) (v11 : Int), iterD (den 0 (kret [(.t 2)] dec_view_Check) a_view_Check_L14) n (envOf [(0, (.sl 6 v0)), (9, (.sl 6 v9)), (10, (.int .i64 v10)), (11, (.int .i64 v11))]) (memOf []) K = view_Check_L14 v0 v9 v10 (fun _ => K (.exit 0) (envOf []) (memOf [])) n v11 := by
  rw [view_Check_L14_eq]
  intro n
  induction n with
  | zero => intros; rfl
  | succ n ih =>
    intro v11
    exact (t_view_Check_L14_b v0 v9 v10 v11 (itK (den 0 (kret [(.t 2)] dec_view_Check) a_view_Check_L14) n K)).trans (congrArg (fun q => view_Check_L14_b v0 v9 v10 v11 q (fun _ => K (.exit 0) (envOf []) (memOf []))) (funext fun v11 => ih v11))
noncomputable def s_view_Check_L14 : Env → Mem → (Ex → Env → Mem → Option Int) → Option Int := fun t m K => chk (fitS0 shp_view_Check_L14 t m) (cond (hdS shp_view_Check_L14 t m) (view_Check_L14 (gL [t 0] 0) (gL [t 9] 0) (gI [t 10] 0) (fun _ => K (.exit 0) (envOf []) (memOf [])) FU (gI [t 11] 0)) none)
theorem o_view_Check_L14 : SubOk Tryd.prog (TIof Tryd.prog) 25 0 (kret [(.t 2)] dec_view_Check) (.loop (scOf a_view_Check_L14)) s_view_Check_L14 :=
  loop_of tabOk follows ok_view_Check_L14 (er_of (by kernel_rfl)) shp_view_Check_L14 (fun t m K => congrArg (fun z => chk (fitS0 shp_view_Check_L14 t m) (cond (hdS shp_view_Check_L14 t m) z none)) (t_view_Check_L14 (gL [t 0] 0) (gL [t 9] 0) (gI [t 10] 0) K FU (gI [t 11] 0)).symm)
def shp_view_Check : Shp := ⟨[(0, .one (.l (.sl 6)))], []⟩
noncomputable def view_Check_i (v0 : List AV) : Option Int :=
  (bif (decide ((v0.length : Int) > (8 : Int))) then (some (9 : Int)) else (view_Check_L14 v0 v0 (v0.length : Int) (fun (_ : Unit) => (some (0 : Int))) FU (0 : Int)))
noncomputable def view_Check := hull view_Check_i
theorem view_Check_eq : view_Check = view_Check_i := hull_eq _
noncomputable def a_view_Check : AC Int :=
  .seq (.reg [.op ⟨(some 2), (.mv (.c (.int .i64 0))), none⟩]) (.seq (.seq (.reg [.op ⟨(some 6), (.mv (.t 0)), none⟩,
    .op ⟨(some 7), (.len false (.t 6)), none⟩,
    .op ⟨(some 8), (.bin .gtr (.t 7) (.c (.int .i64 8))), none⟩]) (.cond (.t 8) (.seq (.reg [.op ⟨(some 2), (.mv (.c (.int .i64 9))), none⟩]) (.ret)) (.skip))) (.seq (.seq (.reg [.op ⟨(some 9), (.mv (.t 0)), none⟩,
    .op ⟨(some 10), (.len false (.t 9)), none⟩,
    .op ⟨(some 11), (.mv (.c (.int .i64 0))), none⟩]) (.block 0 (.seq (.view [.sel [0, 9, 10, 11] []]) (.sub (.loop (scOf a_view_Check_L14)) s_view_Check_L14)))) (.seq (.reg [.op ⟨(some 2), (.mv (.c (.int .i64 0))), none⟩]) (.ret))))
theorem ok_view_Check : AC.ok Tryd.prog (TIof Tryd.prog) 25 0 (kret [(.t 2)] dec_view_Check) a_view_Check := (And.intro True.intro (And.intro (And.intro True.intro (And.intro (And.intro True.intro True.intro) True.intro)) (And.intro (And.intro True.intro (And.intro True.intro o_view_Check_L14)) (And.intro True.intro True.intro))))
theorem t_view_Check (v0 : List AV) : den 0 (kret [(.t 2)] dec_view_Check) a_view_Check (envOf [(0, (.sl 6 v0))]) (memOf []) (kend (kret [(.t 2)] dec_view_Check)) = view_Check v0 := by
  rw [view_Check_eq]; kernel_rfl
theorem c_view_Check : cFn (TIof Tryd.prog) Tryd.f13 = some ⟨25, [(.t 2)], scOf a_view_Check⟩ := by kernel_rfl
noncomputable def ent_view_Check {R : Type} (xs : List AV) (K : AV → Option R) : Option R := chk (fitS shp_view_Check (entry xs) Mem.none) (oB (view_Check (gL [(entry xs) 0] 0)) fun r => K (enc_view_Check r))
theorem k_view_Check {R : Type} : EntOkB Tryd.prog 13 (ent_view_Check (R := R)) :=
  ent_of (F := fun xs => view_Check (gL [(entry xs) 0] 0)) (enc := enc_view_Check) tabOk follows Tryd.func13 (by kernel_rfl) c_view_Check (fun z r h => by
    obtain ⟨h1, h2⟩ := cond_some h
    cases h2
    exact (etaRV_eq h1).symm) ok_view_Check (er_of (by kernel_rfl)) shp_view_Check (fun xs => t_view_Check (gL [(entry xs) 0] 0)) (fun xs K r h => by
    unfold ent_view_Check at h
    exact ⟨(chk_some h).1, oB_some (chk_some h).2⟩)

def dec_ddilaw25_awake (z : AV) : Option Bool := cond (fitRV (.one .b) z) (some (aB z)) none
def enc_ddilaw25_awake (r : Bool) : AV := .bool r
def shp_ddilaw25_awake : Shp := ⟨[], []⟩
noncomputable def ddilaw25_awake_i : Option Bool :=
  (bif hd ([(.agg [(.bool false), (.int .u64 (0 : Int)), (.int .u64 (167772160 : Int)), (.int .i64 (8 : Int)), (.bool false), (.bool false)])] : List AV) (([(.agg [(.bool false), (.int .u64 (0 : Int)), (.int .u64 (167772160 : Int)), (.int .i64 (8 : Int)), (.bool false), (.bool false)])] : List AV).length) then (bif hd ([(.str ([46] : List UInt8)), (.str ([101, 120, 97, 109, 112, 108, 101, 46] : List UInt8))] : List AV) (([(.str ([46] : List UInt8)), (.str ([101, 120, 97, 109, 112, 108, 101, 46] : List UInt8))] : List AV).length) then (bif hd ([(.agg [(.bool false), (.int .u64 (0 : Int)), (.int .u64 (0 : Int)), (.int .i64 (0 : Int)), (.bool true), (.bool false)])] : List AV) (([(.agg [(.bool false), (.int .u64 (0 : Int)), (.int .u64 (0 : Int)), (.int .i64 (0 : Int)), (.bool true), (.bool false)])] : List AV).length) then (bif hd ([(.agg [(.str ([105, 110, 115, 105, 100, 101] : List UInt8)), (.sl 6 ([(.agg [(.bool false), (.int .u64 (0 : Int)), (.int .u64 (167772160 : Int)), (.int .i64 (8 : Int)), (.bool false), (.bool false)])] : List AV)), .nils, .nils, (.sl 1 ([(.str ([46] : List UInt8)), (.str ([101, 120, 97, 109, 112, 108, 101, 46] : List UInt8))] : List AV)), .nils]), (.agg [(.str ([97, 108, 108] : List UInt8)), (.sl 6 ([(.agg [(.bool false), (.int .u64 (0 : Int)), (.int .u64 (0 : Int)), (.int .i64 (0 : Int)), (.bool true), (.bool false)])] : List AV)), .nils, .nils, .nils, .nils])] : List AV) (([(.agg [(.str ([105, 110, 115, 105, 100, 101] : List UInt8)), (.sl 6 ([(.agg [(.bool false), (.int .u64 (0 : Int)), (.int .u64 (167772160 : Int)), (.int .i64 (8 : Int)), (.bool false), (.bool false)])] : List AV)), .nils, .nils, (.sl 1 ([(.str ([46] : List UInt8)), (.str ([101, 120, 97, 109, 112, 108, 101, 46] : List UInt8))] : List AV)), .nils]), (.agg [(.str ([97, 108, 108] : List UInt8)), (.sl 6 ([(.agg [(.bool false), (.int .u64 (0 : Int)), (.int .u64 (0 : Int)), (.int .i64 (0 : Int)), (.bool true), (.bool false)])] : List AV)), .nils, .nils, .nils, .nils])] : List AV).length) then (oB (view_Select ([(.agg [(.str ([105, 110, 115, 105, 100, 101] : List UInt8)), (.sl 6 ([(.agg [(.bool false), (.int .u64 (0 : Int)), (.int .u64 (167772160 : Int)), (.int .i64 (8 : Int)), (.bool false), (.bool false)])] : List AV)), .nils, .nils, (.sl 1 ([(.str ([46] : List UInt8)), (.str ([101, 120, 97, 109, 112, 108, 101, 46] : List UInt8))] : List AV)), .nils]), (.agg [(.str ([97, 108, 108] : List UInt8)), (.sl 6 ([(.agg [(.bool false), (.int .u64 (0 : Int)), (.int .u64 (0 : Int)), (.int .i64 (0 : Int)), (.bool true), (.bool false)])] : List AV)), .nils, .nils, .nils, .nils])] : List AV) false (0 : Int) (167772161 : Int)) fun r1 => (bif hd ([(.agg [(.str ([105, 110, 115, 105, 100, 101] : List UInt8)), (.sl 6 ([(.agg [(.bool false), (.int .u64 (0 : Int)), (.int .u64 (167772160 : Int)), (.int .i64 (8 : Int)), (.bool false), (.bool false)])] : List AV)), .nils, .nils, (.sl 1 ([(.str ([46] : List UInt8)), (.str ([101, 120, 97, 109, 112, 108, 101, 46] : List UInt8))] : List AV)), .nils]), (.agg [(.str ([97, 108, 108] : List UInt8)), (.sl 6 ([(.agg [(.bool false), (.int .u64 (0 : Int)), (.int .u64 (0 : Int)), (.int .i64 (0 : Int)), (.bool true), (.bool false)])] : List AV)), .nils, .nils, .nils, .nils])] : List AV) (([(.agg [(.str ([105, 110, 115, 105, 100, 101] : List UInt8)), (.sl 6 ([(.agg [(.bool false), (.int .u64 (0 : Int)), (.int .u64 (167772160 : Int)), (.int .i64 (8 : Int)), (.bool false), (.bool false)])] : List AV)), .nils, .nils, (.sl 1 ([(.str ([46] : List UInt8)), (.str ([101, 120, 97, 109, 112, 108, 101, 46] : List UInt8))] : List AV)), .nils]), (.agg [(.str ([97, 108, 108] : List UInt8)), (.sl 6 ([(.agg [(.bool false), (.int .u64 (0 : Int)), (.int .u64 (0 : Int)), (.int .i64 (0 : Int)), (.bool true), (.bool false)])] : List AV)), .nils, .nils, .nils, .nils])] : List AV).length) then (oB (view_Select ([(.agg [(.str ([105, 110, 115, 105, 100, 101] : List UInt8)), (.sl 6 ([(.agg [(.bool false), (.int .u64 (0 : Int)), (.int .u64 (167772160 : Int)), (.int .i64 (8 : Int)), (.bool false), (.bool false)])] : List AV)), .nils, .nils, (.sl 1 ([(.str ([46] : List UInt8)), (.str ([101, 120, 97, 109, 112, 108, 101, 46] : List UInt8))] : List AV)), .nils]), (.agg [(.str ([97, 108, 108] : List UInt8)), (.sl 6 ([(.agg [(.bool false), (.int .u64 (0 : Int)), (.int .u64 (0 : Int)), (.int .i64 (0 : Int)), (.bool true), (.bool false)])] : List AV)), .nils, .nils, .nils, .nils])] : List AV) true (0 : Int) (0 : Int)) fun r2 => (bif hd ([(.agg [(.str ([105, 110, 115, 105, 100, 101] : List UInt8)), (.sl 6 ([(.agg [(.bool false), (.int .u64 (0 : Int)), (.int .u64 (167772160 : Int)), (.int .i64 (8 : Int)), (.bool false), (.bool false)])] : List AV)), .nils, .nils, (.sl 1 ([(.str ([46] : List UInt8)), (.str ([101, 120, 97, 109, 112, 108, 101, 46] : List UInt8))] : List AV)), .nils]), (.agg [(.str ([97, 108, 108] : List UInt8)), (.sl 6 ([(.agg [(.bool false), (.int .u64 (0 : Int)), (.int .u64 (0 : Int)), (.int .i64 (0 : Int)), (.bool true), (.bool false)])] : List AV)), .nils, .nils, .nils, .nils])] : List AV) (([(.agg [(.str ([105, 110, 115, 105, 100, 101] : List UInt8)), (.sl 6 ([(.agg [(.bool false), (.int .u64 (0 : Int)), (.int .u64 (167772160 : Int)), (.int .i64 (8 : Int)), (.bool false), (.bool false)])] : List AV)), .nils, .nils, (.sl 1 ([(.str ([46] : List UInt8)), (.str ([101, 120, 97, 109, 112, 108, 101, 46] : List UInt8))] : List AV)), .nils]), (.agg [(.str ([97, 108, 108] : List UInt8)), (.sl 6 ([(.agg [(.bool false), (.int .u64 (0 : Int)), (.int .u64 (0 : Int)), (.int .i64 (0 : Int)), (.bool true), (.bool false)])] : List AV)), .nils, .nils, .nils, .nils])] : List AV).length) then (bif decide (0 ≤ (0 : Int) ∧ (0 : Int) < (([(.agg [(.str ([105, 110, 115, 105, 100, 101] : List UInt8)), (.sl 6 ([(.agg [(.bool false), (.int .u64 (0 : Int)), (.int .u64 (167772160 : Int)), (.int .i64 (8 : Int)), (.bool false), (.bool false)])] : List AV)), .nils, .nils, (.sl 1 ([(.str ([46] : List UInt8)), (.str ([101, 120, 97, 109, 112, 108, 101, 46] : List UInt8))] : List AV)), .nils]), (.agg [(.str ([97, 108, 108] : List UInt8)), (.sl 6 ([(.agg [(.bool false), (.int .u64 (0 : Int)), (.int .u64 (0 : Int)), (.int .i64 (0 : Int)), (.bool true), (.bool false)])] : List AV)), .nils, .nils, .nils, .nils])] : List AV).length)) then (bif hd ([(.agg [(.str ([105, 110, 115, 105, 100, 101] : List UInt8)), (.sl 6 ([(.agg [(.bool false), (.int .u64 (0 : Int)), (.int .u64 (167772160 : Int)), (.int .i64 (8 : Int)), (.bool false), (.bool false)])] : List AV)), .nils, .nils, (.sl 1 ([(.str ([46] : List UInt8)), (.str ([101, 120, 97, 109, 112, 108, 101, 46] : List UInt8))] : List AV)), .nils]), (.agg [(.str ([97, 108, 108] : List UInt8)), (.sl 6 ([(.agg [(.bool false), (.int .u64 (0 : Int)), (.int .u64 (0 : Int)), (.int .i64 (0 : Int)), (.bool true), (.bool false)])] : List AV)), .nils, .nils, .nils, .nils])] : List AV) (([(.agg [(.str ([105, 110, 115, 105, 100, 101] : List UInt8)), (.sl 6 ([(.agg [(.bool false), (.int .u64 (0 : Int)), (.int .u64 (167772160 : Int)), (.int .i64 (8 : Int)), (.bool false), (.bool false)])] : List AV)), .nils, .nils, (.sl 1 ([(.str ([46] : List UInt8)), (.str ([101, 120, 97, 109, 112, 108, 101, 46] : List UInt8))] : List AV)), .nils]), (.agg [(.str ([97, 108, 108] : List UInt8)), (.sl 6 ([(.agg [(.bool false), (.int .u64 (0 : Int)), (.int .u64 (0 : Int)), (.int .i64 (0 : Int)), (.bool true), (.bool false)])] : List AV)), .nils, .nils, .nils, .nils])] : List AV).length) then (oB (([(.agg [(.str ([105, 110, 115, 105, 100, 101] : List UInt8)), (.sl 6 ([(.agg [(.bool false), (.int .u64 (0 : Int)), (.int .u64 (167772160 : Int)), (.int .i64 (8 : Int)), (.bool false), (.bool false)])] : List AV)), .nils, .nils, (.sl 1 ([(.str ([46] : List UInt8)), (.str ([101, 120, 97, 109, 112, 108, 101, 46] : List UInt8))] : List AV)), .nils]), (.agg [(.str ([97, 108, 108] : List UInt8)), (.sl 6 ([(.agg [(.bool false), (.int .u64 (0 : Int)), (.int .u64 (0 : Int)), (.int .i64 (0 : Int)), (.bool true), (.bool false)])] : List AV)), .nils, .nils, .nils, .nils])] : List AV)[(0 : Int).toNat]?) fun y3 => (oB (rdE y3 0 true 6) fun z4 => (bif fitV (.st T_api_View) z4 then (oB (view_Zone (gS z4.cells 0) (gL z4.cells 1) (gL z4.cells 2) (gL z4.cells 3) (gL z4.cells 4) (gL z4.cells 5) ([97, 46, 101, 120, 97, 109, 112, 108, 101, 46] : List UInt8)) fun r5 => (bif hd ([(.agg [(.bool false), (.int .u64 (0 : Int)), (.int .u64 (167772160 : Int)), (.int .i64 (8 : Int)), (.bool false), (.bool true)]), (.agg [(.bool false), (.int .u64 (0 : Int)), (.int .u64 (0 : Int)), (.int .i64 (0 : Int)), (.bool true), (.bool false)])] : List AV) (([(.agg [(.bool false), (.int .u64 (0 : Int)), (.int .u64 (167772160 : Int)), (.int .i64 (8 : Int)), (.bool false), (.bool true)]), (.agg [(.bool false), (.int .u64 (0 : Int)), (.int .u64 (0 : Int)), (.int .i64 (0 : Int)), (.bool true), (.bool false)])] : List AV).length) then (oB (view_Match ([(.agg [(.bool false), (.int .u64 (0 : Int)), (.int .u64 (167772160 : Int)), (.int .i64 (8 : Int)), (.bool false), (.bool true)]), (.agg [(.bool false), (.int .u64 (0 : Int)), (.int .u64 (0 : Int)), (.int .i64 (0 : Int)), (.bool true), (.bool false)])] : List AV) false (0 : Int) (167772161 : Int)) fun r6 => (bif (!r6) then (bif hd ([(.agg [(.bool false), (.int .u64 (0 : Int)), (.int .u64 (167772160 : Int)), (.int .i64 (8 : Int)), (.bool false), (.bool true)]), (.agg [(.bool false), (.int .u64 (0 : Int)), (.int .u64 (0 : Int)), (.int .i64 (0 : Int)), (.bool true), (.bool false)])] : List AV) (([(.agg [(.bool false), (.int .u64 (0 : Int)), (.int .u64 (167772160 : Int)), (.int .i64 (8 : Int)), (.bool false), (.bool true)]), (.agg [(.bool false), (.int .u64 (0 : Int)), (.int .u64 (0 : Int)), (.int .i64 (0 : Int)), (.bool true), (.bool false)])] : List AV).length) then (oB (view_Match ([(.agg [(.bool false), (.int .u64 (0 : Int)), (.int .u64 (167772160 : Int)), (.int .i64 (8 : Int)), (.bool false), (.bool true)]), (.agg [(.bool false), (.int .u64 (0 : Int)), (.int .u64 (0 : Int)), (.int .i64 (0 : Int)), (.bool true), (.bool false)])] : List AV) false (0 : Int) (184549377 : Int)) fun r7 => (bif r7 then (bif hd ([(.agg [(.str ([105, 110, 115, 105, 100, 101] : List UInt8)), (.sl 6 ([(.agg [(.bool false), (.int .u64 (0 : Int)), (.int .u64 (167772160 : Int)), (.int .i64 (8 : Int)), (.bool false), (.bool false)])] : List AV)), .nils, .nils, (.sl 1 ([(.str ([46] : List UInt8)), (.str ([101, 120, 97, 109, 112, 108, 101, 46] : List UInt8))] : List AV)), .nils]), (.agg [(.str ([97, 108, 108] : List UInt8)), (.sl 6 ([(.agg [(.bool false), (.int .u64 (0 : Int)), (.int .u64 (0 : Int)), (.int .i64 (0 : Int)), (.bool true), (.bool false)])] : List AV)), .nils, .nils, .nils, .nils])] : List AV) (([(.agg [(.str ([105, 110, 115, 105, 100, 101] : List UInt8)), (.sl 6 ([(.agg [(.bool false), (.int .u64 (0 : Int)), (.int .u64 (167772160 : Int)), (.int .i64 (8 : Int)), (.bool false), (.bool false)])] : List AV)), .nils, .nils, (.sl 1 ([(.str ([46] : List UInt8)), (.str ([101, 120, 97, 109, 112, 108, 101, 46] : List UInt8))] : List AV)), .nils]), (.agg [(.str ([97, 108, 108] : List UInt8)), (.sl 6 ([(.agg [(.bool false), (.int .u64 (0 : Int)), (.int .u64 (0 : Int)), (.int .i64 (0 : Int)), (.bool true), (.bool false)])] : List AV)), .nils, .nils, .nils, .nils])] : List AV).length) then (oB (view_Check ([(.agg [(.str ([105, 110, 115, 105, 100, 101] : List UInt8)), (.sl 6 ([(.agg [(.bool false), (.int .u64 (0 : Int)), (.int .u64 (167772160 : Int)), (.int .i64 (8 : Int)), (.bool false), (.bool false)])] : List AV)), .nils, .nils, (.sl 1 ([(.str ([46] : List UInt8)), (.str ([101, 120, 97, 109, 112, 108, 101, 46] : List UInt8))] : List AV)), .nils]), (.agg [(.str ([97, 108, 108] : List UInt8)), (.sl 6 ([(.agg [(.bool false), (.int .u64 (0 : Int)), (.int .u64 (0 : Int)), (.int .i64 (0 : Int)), (.bool true), (.bool false)])] : List AV)), .nils, .nils, .nils, .nils])] : List AV)) fun r8 => (bif (r8 == (0 : Int)) then (bif hd ([(.agg [(.str ([73, 110, 115, 105, 100, 101] : List UInt8)), .nils, .nils, .nils, .nils, .nils])] : List AV) (([(.agg [(.str ([73, 110, 115, 105, 100, 101] : List UInt8)), .nils, .nils, .nils, .nils, .nils])] : List AV).length) then (oB (view_Check ([(.agg [(.str ([73, 110, 115, 105, 100, 101] : List UInt8)), .nils, .nils, .nils, .nils, .nils])] : List AV)) fun r9 => (some (((((((r9 == (2 : Int)) && (r1.1 == (0 : Int))) && r1.2) && (r2.1 == (1 : Int))) && r2.2) && (r5.1 == ([101, 120, 97, 109, 112, 108, 101, 46] : List UInt8))) && r5.2))) else none) else (some false))) else none) else (some false))) else none) else (some false))) else none)) else none))) else none) else none) else none)) else none)) else none) else none) else none) else none)
noncomputable def ddilaw25_awake := hull ddilaw25_awake_i
theorem ddilaw25_awake_eq : ddilaw25_awake = ddilaw25_awake_i := hull_eq _
noncomputable def a_ddilaw25_awake : AC Bool :=
  .seq (.reg [.op ⟨(some 0), (.mv (.c (.bool false))), none⟩]) (.seq (.reg [.op ⟨(some 13), (.build [(.bool false), (.int .u64 0), (.int .u64 0)] [(2, (1, (.c (.int .u64 167772160))))]), none⟩,
    .op ⟨(some 14), (.build [(.bool false), (.int .u64 0), (.int .u64 0), (.int .i64 0)] [(0, (3, (.t 13))), (3, (1, (.c (.int .i64 8))))]), none⟩,
    .op ⟨(some 15), (.build [(.bool false), (.int .u64 0), (.int .u64 0), (.int .i64 0), (.bool false), (.bool false)] [(0, (4, (.t 14)))]), none⟩,
    .op ⟨(some 1), (.alloc [(.bool false), (.int .u64 0), (.int .u64 0), (.int .i64 0), (.bool false), (.bool false)]), none⟩,
    .op ⟨none, (.store 6 (.t 1) (.t 15)), none⟩]) (.seq (.reg [.op ⟨(some 16), (.load true 6 (.t 1)), none⟩,
    .op ⟨(some 2), (.alloc [(.bool false), (.int .u64 0), (.int .u64 0), (.int .i64 0), (.bool false), (.bool false)]), none⟩,
    .op ⟨none, (.store 6 (.t 2) (.t 16)), none⟩]) (.seq (.reg [.op ⟨(some 17), (.fa 5 (.t 2)), none⟩,
    .op ⟨none, (.store 1 (.t 17) (.c (.bool true))), none⟩]) (.seq (.reg [.op ⟨(some 18), (.load true 6 (.t 1)), none⟩,
    .op ⟨(some 19), (.bsl 6 [(.t 18)]), none⟩,
    .op ⟨(some 20), (.bsl 1 [(.c (.str [46])), (.c (.str [101, 120, 97, 109, 112, 108, 101, 46]))]), none⟩,
    .op ⟨(some 21), (.build [(.str []), .nils, .nils, .nils, .nils, .nils] [(0, (1, (.c (.str [105, 110, 115, 105, 100, 101])))), (1, (1, (.t 19))), (4, (1, (.t 20)))]), none⟩,
    .op ⟨(some 22), (.build [(.bool false), (.int .u64 0), (.int .u64 0), (.int .i64 0), (.bool false), (.bool false)] [(4, (1, (.c (.bool true))))]), none⟩,
    .op ⟨(some 23), (.bsl 6 [(.t 22)]), none⟩,
    .op ⟨(some 24), (.build [(.str []), .nils, .nils, .nils, .nils, .nils] [(0, (1, (.c (.str [97, 108, 108])))), (1, (1, (.t 23)))]), none⟩,
    .op ⟨(some 25), (.bsl 6 [(.t 21), (.t 24)]), none⟩,
    .op ⟨(some 3), (.mv (.t 25)), none⟩]) (.seq (.reg [.op ⟨(some 26), (.build [(.bool false), (.int .u64 0), (.int .u64 0)] [(2, (1, (.c (.int .u64 167772161))))]), none⟩,
    .op ⟨(some 27), (.build [(.bool false), (.int .u64 0), (.int .u64 0)] [(2, (1, (.c (.int .u64 184549377))))]), none⟩,
    .op ⟨(some 4), (.alloc [(.bool false), (.int .u64 0), (.int .u64 0)]), none⟩,
    .op ⟨(some 5), (.alloc [(.bool false), (.int .u64 0), (.int .u64 0)]), none⟩,
    .op ⟨none, (.store 3 (.t 4) (.t 26)), none⟩,
    .op ⟨none, (.store 3 (.t 5) (.t 27)), none⟩]) (.seq (.reg [.op ⟨(some 29), (.mv (.t 3)), none⟩,
    .op ⟨(some 30), (.load true 3 (.t 4)), none⟩,
    .call ⟨(some 31), (.call 15 [(.t 29), (.t 30)]), none⟩ 15 ent_view_Select,
    .op ⟨(some 28), (.mv (.t 31)), none⟩,
    .op ⟨(some 32), (.ext (.t 28) 0), none⟩,
    .op ⟨(some 33), (.ext (.t 28) 1), none⟩,
    .op ⟨(some 6), (.mv (.t 32)), none⟩,
    .op ⟨(some 7), (.mv (.t 33)), none⟩]) (.seq (.reg [.op ⟨(some 35), (.mv (.t 3)), none⟩,
    .op ⟨(some 36), (.build [(.bool false), (.int .u64 0), (.int .u64 0)] [(0, (1, (.c (.bool true))))]), none⟩,
    .call ⟨(some 37), (.call 15 [(.t 35), (.t 36)]), none⟩ 15 ent_view_Select,
    .op ⟨(some 34), (.mv (.t 37)), none⟩,
    .op ⟨(some 38), (.ext (.t 34) 0), none⟩,
    .op ⟨(some 39), (.ext (.t 34) 1), none⟩,
    .op ⟨(some 8), (.mv (.t 38)), none⟩,
    .op ⟨(some 9), (.mv (.t 39)), none⟩]) (.seq (.reg [.op ⟨(some 41), (.mv (.t 3)), none⟩,
    .op ⟨(some 42), (.ia 6 (.t 41) (.c (.int .i64 0))), none⟩,
    .op ⟨(some 43), (.load true 6 (.t 42)), none⟩,
    .st (.eta 43 (.st T_api_View)),
    .call ⟨(some 44), (.call 17 [(.t 43), (.c (.str [97, 46, 101, 120, 97, 109, 112, 108, 101, 46]))]), none⟩ 17 ent_view_Zone,
    .op ⟨(some 40), (.mv (.t 44)), none⟩,
    .op ⟨(some 45), (.ext (.t 40) 0), none⟩,
    .op ⟨(some 46), (.ext (.t 40) 1), none⟩,
    .op ⟨(some 10), (.mv (.t 45)), none⟩,
    .op ⟨(some 11), (.mv (.t 46)), none⟩]) (.seq (.reg [.op ⟨(some 47), (.load true 6 (.t 2)), none⟩,
    .op ⟨(some 48), (.build [(.bool false), (.int .u64 0), (.int .u64 0), (.int .i64 0), (.bool false), (.bool false)] [(4, (1, (.c (.bool true))))]), none⟩,
    .op ⟨(some 49), (.bsl 6 [(.t 47), (.t 48)]), none⟩,
    .op ⟨(some 12), (.mv (.t 49)), none⟩]) (.seq (.reg [.op ⟨(some 50), (.mv (.t 12)), none⟩,
    .op ⟨(some 51), (.load true 3 (.t 4)), none⟩,
    .call ⟨(some 52), (.call 9 [(.t 50), (.t 51)]), none⟩ 9 ent_view_Match,
    .op ⟨(some 53), (.un .not (.t 52)), none⟩,
    .op ⟨(some 54), (.mv (.t 53)), none⟩,
    .op ⟨(some 55), (.mv (.t 12)), (some (54, true))⟩,
    .op ⟨(some 56), (.load true 3 (.t 5)), (some (54, true))⟩,
    .call ⟨(some 57), (.call 9 [(.t 55), (.t 56)]), (some (54, true))⟩ 9 ent_view_Match,
    .op ⟨(some 58), (.pick (.t 54) (.t 57) (.c (.bool false))), none⟩,
    .op ⟨(some 59), (.mv (.t 58)), none⟩,
    .op ⟨(some 60), (.mv (.t 3)), (some (59, true))⟩,
    .call ⟨(some 61), (.call 13 [(.t 60)]), (some (59, true))⟩ 13 ent_view_Check,
    .op ⟨(some 62), (.bin .eql (.t 61) (.c (.int .i64 0))), (some (59, true))⟩,
    .op ⟨(some 63), (.pick (.t 59) (.t 62) (.c (.bool false))), none⟩,
    .op ⟨(some 64), (.mv (.t 63)), none⟩,
    .op ⟨(some 65), (.build [(.str []), .nils, .nils, .nils, .nils, .nils] [(0, (1, (.c (.str [73, 110, 115, 105, 100, 101]))))]), (some (64, true))⟩,
    .op ⟨(some 66), (.bsl 6 [(.t 65)]), (some (64, true))⟩,
    .call ⟨(some 67), (.call 13 [(.t 66)]), (some (64, true))⟩ 13 ent_view_Check,
    .op ⟨(some 68), (.bin .eql (.t 67) (.c (.int .i64 2))), (some (64, true))⟩,
    .op ⟨(some 69), (.pick (.t 64) (.t 68) (.c (.bool false))), none⟩,
    .op ⟨(some 70), (.mv (.t 69)), none⟩,
    .grp 70 true [⟨(some 71), (.mv (.t 6)), (some (70, true))⟩, ⟨(some 72), (.bin .eql (.t 71) (.c (.int .i64 0))), (some (70, true))⟩] 73 (.t 72),
    .op ⟨(some 74), (.mv (.t 73)), none⟩,
    .grp 74 true [⟨(some 75), (.mv (.t 7)), (some (74, true))⟩] 76 (.t 75),
    .op ⟨(some 77), (.mv (.t 76)), none⟩,
    .grp 77 true [⟨(some 78), (.mv (.t 8)), (some (77, true))⟩, ⟨(some 79), (.bin .eql (.t 78) (.c (.int .i64 1))), (some (77, true))⟩] 80 (.t 79),
    .op ⟨(some 81), (.mv (.t 80)), none⟩,
    .grp 81 true [⟨(some 82), (.mv (.t 9)), (some (81, true))⟩] 83 (.t 82),
    .op ⟨(some 84), (.mv (.t 83)), none⟩,
    .grp 84 true [⟨(some 85), (.mv (.t 10)), (some (84, true))⟩, ⟨(some 86), (.bin .eql (.t 85) (.c (.str [101, 120, 97, 109, 112, 108, 101, 46]))), (some (84, true))⟩] 87 (.t 86),
    .op ⟨(some 88), (.mv (.t 87)), none⟩,
    .grp 88 true [⟨(some 89), (.mv (.t 11)), (some (88, true))⟩] 90 (.t 89),
    .op ⟨(some 0), (.mv (.t 90)), none⟩]) (.ret)))))))))))
theorem ok_ddilaw25_awake : AC.ok Tryd.prog (TIof Tryd.prog) 91 0 (kret [(.t 0)] dec_ddilaw25_awake) a_ddilaw25_awake := (And.intro True.intro (And.intro True.intro (And.intro True.intro (And.intro True.intro (And.intro True.intro (And.intro True.intro (And.intro (And.intro (EntOkB.ok k_view_Select) True.intro) (And.intro (And.intro (EntOkB.ok k_view_Select) True.intro) (And.intro (And.intro (EntOkB.ok k_view_Zone) True.intro) (And.intro True.intro (And.intro (And.intro (EntOkB.ok k_view_Match) (And.intro (EntOkB.ok k_view_Match) (And.intro (EntOkB.ok k_view_Check) (And.intro (EntOkB.ok k_view_Check) True.intro)))) True.intro)))))))))))
theorem t_ddilaw25_awake : den 0 (kret [(.t 0)] dec_ddilaw25_awake) a_ddilaw25_awake (envOf []) (memOf []) (kend (kret [(.t 0)] dec_ddilaw25_awake)) = ddilaw25_awake := by
  rw [ddilaw25_awake_eq]; kernel_rfl
theorem c_ddilaw25_awake : cFn (TIof Tryd.prog) Tryd.f11 = some ⟨91, [(.t 0)], scOf a_ddilaw25_awake⟩ := by kernel_rfl
noncomputable def ent_ddilaw25_awake {R : Type} (xs : List AV) (K : AV → Option R) : Option R := chk (fitS shp_ddilaw25_awake (entry xs) Mem.none) (oB (ddilaw25_awake) fun r => K (enc_ddilaw25_awake r))
theorem k_ddilaw25_awake {R : Type} : EntOkB Tryd.prog 11 (ent_ddilaw25_awake (R := R)) :=
  ent_of (F := fun xs => ddilaw25_awake) (enc := enc_ddilaw25_awake) tabOk follows Tryd.func11 (by kernel_rfl) c_ddilaw25_awake (fun z r h => by
    obtain ⟨h1, h2⟩ := cond_some h
    cases h2
    exact (etaRV_eq h1).symm) ok_ddilaw25_awake (er_of (by kernel_rfl)) shp_ddilaw25_awake (fun xs => t_ddilaw25_awake) (fun xs K r h => by
    unfold ent_ddilaw25_awake at h
    exact ⟨(chk_some h).1, oB_some (chk_some h).2⟩)

def dec_ddilaw25_few (z : AV) : Option (List AV) := cond (fitRV (.one (.fr true 6)) z) (some (aL z)) none
def enc_ddilaw25_few (r : (List AV)) : AV := .fr true 6 r
def shp_ddilaw25_few_L27 : Shp := ⟨[(0, .one (.l (.sl 6))), (3, .one (.own 0)), (4, .one (.l (.i .i64))), (5, .one (.ptr 1 0)), (6, .one (.own 2)), (7, .one (.l (.i .i64)))], [.arr true 6, .box true [(.l .s), (.l (.sl 6)), (.l (.sl 6)), (.l (.sl 6)), (.l (.sl 1)), (.l (.sl 8))], .arr true 1]⟩
noncomputable def ddilaw25_few_L27_b  (v0 : List AV) (v4 : Int) (v7 : Int) (a0 : List AV) (b1_0 : List UInt8) (b1_1 : List AV) (b1_2 : List AV) (b1_3 : List AV) (b1_4 : List AV) (b1_5 : List AV) (a2 : List AV) (next : Int → (List AV) → Option (List AV)) (kx2 : (List AV) → Option (List AV)) : Option (List AV) :=
  (bif ((decide (v7 < (b1_4.length : Int))) && (decide (v7 < (40 : Int)))) then (oB (ixB b1_4 v7) fun y1 => (bif fitC [.s] y1.cells then (oB (ixB b1_4 v7) fun y2 => (bif fitC [.s] y2.cells then (oB (cutI (gS y1.cells 0) none (some (if (300 : Int) < ((gS y2.cells 0).length : Int) then (300 : Int) else ((gS y2.cells 0).length : Int)))) fun s3 => (bif hd a2 a2.length then (bif decide ((a2.length + ([(.str s3)] : List AV).length) * 16 ≤ 140737488355328) then (next (IntKind.i64.wrap (v7 + (1 : Int))) (a2 ++ ([(.str s3)] : List AV))) else none) else none)) else none)) else none)) else (kx2 a2))
noncomputable def ddilaw25_few_L27_i  (v0 : List AV) (v4 : Int) (a0 : List AV) (b1_0 : List UInt8) (b1_1 : List AV) (b1_2 : List AV) (b1_3 : List AV) (b1_4 : List AV) (b1_5 : List AV) (kx2 : (List AV) → Option (List AV)) : Nat → Int → (List AV) → Option (List AV)
  | 0 => (fun _ _ => none)
  | n + 1 => (fun v7 a2 => ddilaw25_few_L27_b v0 v4 v7 a0 b1_0 b1_1 b1_2 b1_3 b1_4 b1_5 a2 (ddilaw25_few_L27_i v0 v4 a0 b1_0 b1_1 b1_2 b1_3 b1_4 b1_5 kx2 n) kx2)
noncomputable def ddilaw25_few_L27 := hull (ddilaw25_few_L27_i)
theorem ddilaw25_few_L27_eq : ddilaw25_few_L27 = ddilaw25_few_L27_i := hull_eq _
noncomputable def a_ddilaw25_few_L27 : AC (List AV) :=
  .seq (.seq (.reg [.op ⟨(some 30), (.mv (.t 7)), none⟩,
    .op ⟨(some 31), (.fa 4 (.t 5)), none⟩,
    .op ⟨(some 32), (.load false 1 (.t 31)), none⟩,
    .op ⟨(some 33), (.len false (.t 32)), none⟩,
    .op ⟨(some 34), (.bin .lss (.t 30) (.t 33)), none⟩,
    .op ⟨(some 35), (.mv (.t 34)), none⟩,
    .grp 35 true [⟨(some 36), (.mv (.t 7)), (some (35, true))⟩, ⟨(some 37), (.bin .lss (.t 36) (.c (.int .i64 40))), (some (35, true))⟩] 38 (.t 37)]) (.cond (.t 38) (.skip) (.seq (.view [.sel [0, 3, 4, 5, 6] [0, 1, 2]]) (.exit 2)))) (.seq (.block 3 (.draw [] [.op ⟨(some 41), (.mv (.t 6)), none⟩,
    .op ⟨(some 42), (.fa 4 (.t 5)), none⟩,
    .op ⟨(some 43), (.load false 1 (.t 42)), none⟩,
    .op ⟨(some 44), (.mv (.t 7)), none⟩,
    .op ⟨(some 45), (.ia 1 (.t 43) (.t 44)), none⟩,
    .et 45 [.s],
    .op ⟨(some 46), (.load false 1 (.t 45)), none⟩,
    .op ⟨(some 47), (.fa 4 (.t 5)), none⟩,
    .op ⟨(some 48), (.load false 1 (.t 47)), none⟩,
    .op ⟨(some 49), (.mv (.t 7)), none⟩,
    .op ⟨(some 50), (.ia 1 (.t 48) (.t 49)), none⟩,
    .et 50 [.s],
    .op ⟨(some 51), (.load false 1 (.t 50)), none⟩,
    .op ⟨(some 52), (.len true (.t 51)), none⟩,
    .op ⟨(some 53), (.mm false (.t 52) [(.c (.int .i64 300))]), none⟩,
    .op ⟨(some 54), (.slcs (.t 46) none (some (.t 53))), none⟩,
    .op ⟨(some 55), (.bsl 1 [(.t 54)]), none⟩] [.op ⟨(some 56), (.app 1 16 (.t 41) (.t 55)), none⟩,
    .op ⟨(some 6), (.mv (.t 56)), none⟩])) (.seq (.reg [.op ⟨(some 39), (.mv (.t 7)), none⟩,
    .op ⟨(some 40), (.bin .add (.t 39) (.c (.int .i64 1))), none⟩,
    .op ⟨(some 7), (.mv (.t 40)), none⟩]) (.view [.sel [0, 3, 4, 5, 6, 7] [0, 1, 2]])))
theorem ok_ddilaw25_few_L27 : AC.ok Tryd.prog (TIof Tryd.prog) 89 0 (kret [(.t 2)] dec_ddilaw25_few) a_ddilaw25_few_L27 := (And.intro (And.intro True.intro (And.intro True.intro (And.intro True.intro True.intro))) (And.intro (And.intro True.intro (And.intro True.intro rfl)) (And.intro True.intro True.intro)))
theorem t_ddilaw25_few_L27_b (v0 : List AV) (v4 : Int) (v7 : Int) (a0 : List AV) (b1_0 : List UInt8) (b1_1 : List AV) (b1_2 : List AV) (b1_3 : List AV) (b1_4 : List AV) (b1_5 : List AV) (a2 : List AV) (K : Ex → Env → Mem → Option (List AV)) : den 0 (kret [(.t 2)] dec_ddilaw25_few) a_ddilaw25_few_L27 (envOf [(0, (.sl 6 v0)), (3, (.own 0 a0.length)), (4, (.int .i64 v4)), (5, (.ptr 1 0)), (6, (.own 2 a2.length)), (7, (.int .i64 v7))]) (memOf [(some (.arr true 6 a0)), (some (.box true [(.str b1_0), (.sl 6 b1_1), (.sl 6 b1_2), (.sl 6 b1_3), (.sl 1 b1_4), (.sl 8 b1_5)])), (some (.arr true 1 a2))]) K = ddilaw25_few_L27_b v0 v4 v7 a0 b1_0 b1_1 b1_2 b1_3 b1_4 b1_5 a2 (fun z_v7 z_a2 => K .norm (envOf [(0, (.sl 6 v0)), (3, (.own 0 a0.length)), (4, (.int .i64 v4)), (5, (.ptr 1 0)), (6, (.own 2 z_a2.length)), (7, (.int .i64 z_v7))]) (memOf [(some (.arr true 6 a0)), (some (.box true [(.str b1_0), (.sl 6 b1_1), (.sl 6 b1_2), (.sl 6 b1_3), (.sl 1 b1_4), (.sl 8 b1_5)])), (some (.arr true 1 z_a2))])) (fun z_a2 => K (.exit 2) (envOf [(0, (.sl 6 v0)), (3, (.own 0 a0.length)), (4, (.int .i64 v4)), (5, (.ptr 1 0)), (6, (.own 2 z_a2.length))]) (memOf [(some (.arr true 6 a0)), (some (.box true [(.str b1_0), (.sl 6 b1_1), (.sl 6 b1_2), (.sl 6 b1_3), (.sl 1 b1_4), (.sl 8 b1_5)])), (some (.arr true 1 z_a2))])) := by kernel_rfl
theorem t_ddilaw25_few_L27 (v0 : List AV) (v4 : Int) (a0 : List AV) (b1_0 : List UInt8) (b1_1 : List AV) (b1_2 : List AV) (b1_3 : List AV) (b1_4 : List AV) (b1_5 : List AV) (K : Ex → Env → Mem → Option (List AV)) : ∀ (n : Nat) (v7 : Int) (a2 : List AV), iterD (den 0 (kret [(.t 2)] dec_ddilaw25_few) a_ddilaw25_few_L27) n (envOf [(0, (.sl 6 v0)), (3, (.own 0 a0.length)), (4, (.int .i64 v4)), (5, (.ptr 1 0)), (6, (.own 2 a2.length)), (7, (.int .i64 v7))]) (memOf [(some (.arr true 6 a0)), (some (.box true [(.str b1_0), (.sl 6 b1_1), (.sl 6 b1_2), (.sl 6 b1_3), (.sl 1 b1_4), (.sl 8 b1_5)])), (some (.arr true 1 a2))]) K = ddilaw25_few_L27 v0 v4 a0 b1_0 b1_1 b1_2 b1_3 b1_4 b1_5 (fun z_a2 => K (.exit 2) (envOf [(0, (.sl 6 v0)), (3, (.own 0 a0.length)), (4, (.int .i64 v4)), (5, (.ptr 1 0)), (6, (.own 2 z_a2.length))]) (memOf [(some (.arr true 6 a0)), (some (.box true [(.str b1_0), (.sl 6 b1_1), (.sl 6 b1_2), (.sl 6 b1_3), (.sl 1 b1_4), (.sl 8 b1_5)])), (some (.arr true 1 z_a2))])) n v7 a2 := by
  rw [ddilaw25_few_L27_eq]
  intro n
  induction n with
  | zero => intros; rfl
  | succ n ih =>
    intro v7 a2
    exact (t_ddilaw25_few_L27_b v0 v4 v7 a0 b1_0 b1_1 b1_2 b1_3 b1_4 b1_5 a2 (itK (den 0 (kret [(.t 2)] dec_ddilaw25_few) a_ddilaw25_few_L27) n K)).trans (congrArg (fun q => ddilaw25_few_L27_b v0 v4 v7 a0 b1_0 b1_1 b1_2 b1_3 b1_4 b1_5 a2 q (fun z_a2 => K (.exit 2) (envOf [(0, (.sl 6 v0)), (3, (.own 0 a0.length)), (4, (.int .i64 v4)), (5, (.ptr 1 0)), (6, (.own 2 z_a2.length))]) (memOf [(some (.arr true 6 a0)), (some (.box true [(.str b1_0), (.sl 6 b1_1), (.sl 6 b1_2), (.sl 6 b1_3), (.sl 1 b1_4), (.sl 8 b1_5)])), (some (.arr true 1 z_a2))]))) (funext fun v7 => funext fun a2 => ih v7 a2))
noncomputable def s_ddilaw25_few_L27 : Env → Mem → (Ex → Env → Mem → Option (List AV)) → Option (List AV) := fun t m K => chk (fitS0 shp_ddilaw25_few_L27 t m) (cond (hdS shp_ddilaw25_few_L27 t m) (ddilaw25_few_L27 (gL [t 0] 0) (gI [t 4] 0) (arL (m.s 0)) (gS (bxC (m.s 1)) 0) (gL (bxC (m.s 1)) 1) (gL (bxC (m.s 1)) 2) (gL (bxC (m.s 1)) 3) (gL (bxC (m.s 1)) 4) (gL (bxC (m.s 1)) 5) (fun z_a2 => K (.exit 2) (envOf [(0, (.sl 6 (gL [t 0] 0))), (3, (.own 0 ((arL (m.s 0)).length))), (4, (.int .i64 (gI [t 4] 0))), (5, (.ptr 1 0)), (6, (.own 2 z_a2.length))]) (memOf [(some (.arr true 6 (arL (m.s 0)))), (some (.box true [(.str (gS (bxC (m.s 1)) 0)), (.sl 6 (gL (bxC (m.s 1)) 1)), (.sl 6 (gL (bxC (m.s 1)) 2)), (.sl 6 (gL (bxC (m.s 1)) 3)), (.sl 1 (gL (bxC (m.s 1)) 4)), (.sl 8 (gL (bxC (m.s 1)) 5))])), (some (.arr true 1 z_a2))])) FU (gI [t 7] 0) (arL (m.s 2))) none)
theorem o_ddilaw25_few_L27 : SubOk Tryd.prog (TIof Tryd.prog) 89 0 (kret [(.t 2)] dec_ddilaw25_few) (.loop (scOf a_ddilaw25_few_L27)) s_ddilaw25_few_L27 :=
  loop_of tabOk follows ok_ddilaw25_few_L27 (er_of (by kernel_rfl)) shp_ddilaw25_few_L27 (fun t m K => congrArg (fun z => chk (fitS0 shp_ddilaw25_few_L27 t m) (cond (hdS shp_ddilaw25_few_L27 t m) z none)) (t_ddilaw25_few_L27 (gL [t 0] 0) (gI [t 4] 0) (arL (m.s 0)) (gS (bxC (m.s 1)) 0) (gL (bxC (m.s 1)) 1) (gL (bxC (m.s 1)) 2) (gL (bxC (m.s 1)) 3) (gL (bxC (m.s 1)) 4) (gL (bxC (m.s 1)) 5) K FU (gI [t 7] 0) (arL (m.s 2))).symm)
def shp_ddilaw25_few_L8 : Shp := ⟨[(0, .one (.l (.sl 6))), (3, .one (.own 0)), (4, .one (.l (.i .i64)))], [.arr true 6]⟩
noncomputable def ddilaw25_few_L8_b  (v0 : List AV) (v4 : Int) (a0 : List AV) (next : Int → (List AV) → Option (List AV)) (kx0 : (List AV) → Option (List AV)) : Option (List AV) :=
  (bif ((decide (v4 < (v0.length : Int))) && (decide (v4 < (10 : Int)))) then (oB (ixB v0 v4) fun y1 => (bif fitC T_api_View y1.cells then (oB (cutI (gS y1.cells 0) none (some (if (300 : Int) < ((gS y1.cells 0).length : Int) then (300 : Int) else ((gS y1.cells 0).length : Int)))) fun s2 => (bif (hd a0 (a0.length) && (hd ([] : List AV) (([] : List AV).length) && true)) then (ddilaw25_few_L27 v0 v4 a0 s2 (gL y1.cells 1) (gL y1.cells 2) (gL y1.cells 3) (gL y1.cells 4) (gL y1.cells 5) (fun a2q3 => (oB (cutI (gL y1.cells 1) none (some (if (70 : Int) < ((gL y1.cells 1).length : Int) then (70 : Int) else ((gL y1.cells 1).length : Int)))) fun s4 => (oB (cutI (gL y1.cells 2) none (some (if (70 : Int) < ((gL y1.cells 2).length : Int) then (70 : Int) else ((gL y1.cells 2).length : Int)))) fun s5 => (oB (cutI (gL y1.cells 3) none (some (if (70 : Int) < ((gL y1.cells 3).length : Int) then (70 : Int) else ((gL y1.cells 3).length : Int)))) fun s6 => (bif hd a2q3 a2q3.length then (bif hd a0 a0.length then (bif hd ([(.agg [(.str s2), (.sl 6 s4), (.sl 6 s5), (.sl 6 s6), (.sl 1 a2q3), .nils])] : List AV) (([(.agg [(.str s2), (.sl 6 s4), (.sl 6 s5), (.sl 6 s6), (.sl 1 a2q3), .nils])] : List AV).length) then (bif decide ((a0.length + ([(.agg [(.str s2), (.sl 6 s4), (.sl 6 s5), (.sl 6 s6), (.sl 1 a2q3), .nils])] : List AV).length) * 136 ≤ 140737488355328) then (next (IntKind.i64.wrap (v4 + (1 : Int))) (a0 ++ ([(.agg [(.str s2), (.sl 6 s4), (.sl 6 s5), (.sl 6 s6), (.sl 1 a2q3), .nils])] : List AV))) else none) else none) else none) else none))))) FU (0 : Int) ([] : List AV)) else none)) else none)) else (kx0 a0))
noncomputable def ddilaw25_few_L8_i  (v0 : List AV) (kx0 : (List AV) → Option (List AV)) : Nat → Int → (List AV) → Option (List AV)
  | 0 => (fun _ _ => none)
  | n + 1 => (fun v4 a0 => ddilaw25_few_L8_b v0 v4 a0 (ddilaw25_few_L8_i v0 kx0 n) kx0)
noncomputable def ddilaw25_few_L8 := hull (ddilaw25_few_L8_i)
theorem ddilaw25_few_L8_eq : ddilaw25_few_L8 = ddilaw25_few_L8_i := hull_eq _
noncomputable def a_ddilaw25_few_L8 : AC (List AV) :=
  .seq (.seq (.reg [.op ⟨(some 8), (.mv (.t 4)), none⟩,
    .op ⟨(some 9), (.mv (.t 0)), none⟩,
    .op ⟨(some 10), (.len false (.t 9)), none⟩,
    .op ⟨(some 11), (.bin .lss (.t 8) (.t 10)), none⟩,
    .op ⟨(some 12), (.mv (.t 11)), none⟩,
    .grp 12 true [⟨(some 13), (.mv (.t 4)), (some (12, true))⟩, ⟨(some 14), (.bin .lss (.t 13) (.c (.int .i64 10))), (some (12, true))⟩] 15 (.t 14)]) (.cond (.t 15) (.skip) (.seq (.view [.sel [3] [0]]) (.exit 0)))) (.seq (.block 1 (.seq (.reg [.op ⟨(some 18), (.mv (.t 0)), none⟩,
    .op ⟨(some 19), (.mv (.t 4)), none⟩,
    .op ⟨(some 20), (.ia 6 (.t 18) (.t 19)), none⟩,
    .st (.etac 20 T_api_View),
    .op ⟨(some 21), (.load true 6 (.t 20)), none⟩,
    .op ⟨(some 5), (.alloc [(.str []), .nils, .nils, .nils, .nils, .nils]), none⟩,
    .op ⟨none, (.store 6 (.t 5) (.t 21)), none⟩]) (.seq (.reg [.op ⟨(some 22), (.fa 0 (.t 5)), none⟩,
    .op ⟨(some 23), (.load false 1 (.t 22)), none⟩,
    .op ⟨(some 24), (.fa 0 (.t 5)), none⟩,
    .op ⟨(some 25), (.load false 1 (.t 24)), none⟩,
    .op ⟨(some 26), (.len true (.t 25)), none⟩,
    .op ⟨(some 27), (.mm false (.t 26) [(.c (.int .i64 300))]), none⟩,
    .op ⟨(some 28), (.slcs (.t 23) none (some (.t 27))), none⟩,
    .op ⟨(some 29), (.fa 0 (.t 5)), none⟩,
    .op ⟨none, (.store 1 (.t 29) (.t 28)), none⟩]) (.seq (.reg [.op ⟨(some 6), (.mv (.c .nils)), none⟩]) (.seq (.seq (.reg [.op ⟨(some 7), (.mv (.c (.int .i64 0))), none⟩]) (.block 2 (.seq (.view [.own 6 1, .sel [0, 3, 4, 5, 6, 7] [0, 1, 2]]) (.sub (.loop (scOf a_ddilaw25_few_L27)) s_ddilaw25_few_L27)))) (.seq (.reg [.op ⟨(some 57), (.mv (.t 6)), none⟩,
    .op ⟨(some 58), (.fa 4 (.t 5)), none⟩,
    .op ⟨none, (.store 1 (.t 58) (.t 57)), none⟩]) (.seq (.reg [.op ⟨(some 59), (.fa 5 (.t 5)), none⟩,
    .op ⟨none, (.store 1 (.t 59) (.c .nils)), none⟩]) (.seq (.reg [.op ⟨(some 60), (.fa 1 (.t 5)), none⟩,
    .op ⟨(some 61), (.load false 1 (.t 60)), none⟩,
    .op ⟨(some 62), (.fa 1 (.t 5)), none⟩,
    .op ⟨(some 63), (.load false 1 (.t 62)), none⟩,
    .op ⟨(some 64), (.len false (.t 63)), none⟩,
    .op ⟨(some 65), (.mm false (.t 64) [(.c (.int .i64 70))]), none⟩,
    .op ⟨(some 66), (.slc 6 (.t 61) none (some (.t 65))), none⟩,
    .op ⟨(some 67), (.fa 1 (.t 5)), none⟩,
    .op ⟨none, (.store 1 (.t 67) (.t 66)), none⟩]) (.seq (.reg [.op ⟨(some 68), (.fa 2 (.t 5)), none⟩,
    .op ⟨(some 69), (.load false 1 (.t 68)), none⟩,
    .op ⟨(some 70), (.fa 2 (.t 5)), none⟩,
    .op ⟨(some 71), (.load false 1 (.t 70)), none⟩,
    .op ⟨(some 72), (.len false (.t 71)), none⟩,
    .op ⟨(some 73), (.mm false (.t 72) [(.c (.int .i64 70))]), none⟩,
    .op ⟨(some 74), (.slc 6 (.t 69) none (some (.t 73))), none⟩,
    .op ⟨(some 75), (.fa 2 (.t 5)), none⟩,
    .op ⟨none, (.store 1 (.t 75) (.t 74)), none⟩]) (.seq (.reg [.op ⟨(some 76), (.fa 3 (.t 5)), none⟩,
    .op ⟨(some 77), (.load false 1 (.t 76)), none⟩,
    .op ⟨(some 78), (.fa 3 (.t 5)), none⟩,
    .op ⟨(some 79), (.load false 1 (.t 78)), none⟩,
    .op ⟨(some 80), (.len false (.t 79)), none⟩,
    .op ⟨(some 81), (.mm false (.t 80) [(.c (.int .i64 70))]), none⟩,
    .op ⟨(some 82), (.slc 6 (.t 77) none (some (.t 81))), none⟩,
    .op ⟨(some 83), (.fa 3 (.t 5)), none⟩,
    .op ⟨none, (.store 1 (.t 83) (.t 82)), none⟩]) (.reg [.op ⟨(some 84), (.mv (.t 3)), none⟩,
    .op ⟨(some 85), (.load true 6 (.t 5)), none⟩,
    .op ⟨(some 86), (.bsl 6 [(.t 85)]), none⟩,
    .op ⟨(some 87), (.app 6 136 (.t 84) (.t 86)), none⟩,
    .op ⟨(some 3), (.mv (.t 87)), none⟩]))))))))))) (.seq (.reg [.op ⟨(some 16), (.mv (.t 4)), none⟩,
    .op ⟨(some 17), (.bin .add (.t 16) (.c (.int .i64 1))), none⟩,
    .op ⟨(some 4), (.mv (.t 17)), none⟩]) (.view [.sel [0, 3, 4] [0]])))
theorem ok_ddilaw25_few_L8 : AC.ok Tryd.prog (TIof Tryd.prog) 89 0 (kret [(.t 2)] dec_ddilaw25_few) a_ddilaw25_few_L8 := (And.intro (And.intro True.intro (And.intro True.intro (And.intro True.intro True.intro))) (And.intro (And.intro True.intro (And.intro True.intro (And.intro True.intro (And.intro (And.intro True.intro (And.intro True.intro o_ddilaw25_few_L27)) (And.intro True.intro (And.intro True.intro (And.intro True.intro (And.intro True.intro (And.intro True.intro True.intro))))))))) (And.intro True.intro True.intro)))
theorem t_ddilaw25_few_L8_b (v0 : List AV) (v4 : Int) (a0 : List AV) (K : Ex → Env → Mem → Option (List AV)) : den 0 (kret [(.t 2)] dec_ddilaw25_few) a_ddilaw25_few_L8 (envOf [(0, (.sl 6 v0)), (3, (.own 0 a0.length)), (4, (.int .i64 v4))]) (memOf [(some (.arr true 6 a0))]) K = ddilaw25_few_L8_b v0 v4 a0 (fun z_v4 z_a0 => K .norm (envOf [(0, (.sl 6 v0)), (3, (.own 0 z_a0.length)), (4, (.int .i64 z_v4))]) (memOf [(some (.arr true 6 z_a0))])) (fun z_a0 => K (.exit 0) (envOf [(3, (.own 0 z_a0.length))]) (memOf [(some (.arr true 6 z_a0))])) := by kernel_rfl
theorem t_ddilaw25_few_L8 (v0 : List AV) (K : Ex → Env → Mem → Option (List AV)) : ∀ (n : Nat) (v4 : Int) (a0 : List AV), iterD (den 0 (kret [(.t 2)] dec_ddilaw25_few) a_ddilaw25_few_L8) n (envOf [(0, (.sl 6 v0)), (3, (.own 0 a0.length)), (4, (.int .i64 v4))]) (memOf [(some (.arr true 6 a0))]) K = ddilaw25_few_L8 v0 (fun z_a0 => K (.exit 0) (envOf [(3, (.own 0 z_a0.length))]) (memOf [(some (.arr true 6 z_a0))])) n v4 a0 := by
  rw [ddilaw25_few_L8_eq]
  intro n
  induction n with
  | zero => intros; rfl
  | succ n ih =>
    intro v4 a0
    exact (t_ddilaw25_few_L8_b v0 v4 a0 (itK (den 0 (kret [(.t 2)] dec_ddilaw25_few) a_ddilaw25_few_L8) n K)).trans (congrArg (fun q => ddilaw25_few_L8_b v0 v4 a0 q (fun z_a0 => K (.exit 0) (envOf [(3, (.own 0 z_a0.length))]) (memOf [(some (.arr true 6 z_a0))]))) (funext fun v4 => funext fun a0 => ih v4 a0))
noncomputable def s_ddilaw25_few_L8 : Env → Mem → (Ex → Env → Mem → Option (List AV)) → Option (List AV) := fun t m K => chk (fitS0 shp_ddilaw25_few_L8 t m) (cond (hdS shp_ddilaw25_few_L8 t m) (ddilaw25_few_L8 (gL [t 0] 0) (fun z_a0 => K (.exit 0) (envOf [(3, (.own 0 z_a0.length))]) (memOf [(some (.arr true 6 z_a0))])) FU (gI [t 4] 0) (arL (m.s 0))) none)
theorem o_ddilaw25_few_L8 : SubOk Tryd.prog (TIof Tryd.prog) 89 0 (kret [(.t 2)] dec_ddilaw25_few) (.loop (scOf a_ddilaw25_few_L8)) s_ddilaw25_few_L8 :=
  loop_of tabOk follows ok_ddilaw25_few_L8 (er_of (by kernel_rfl)) shp_ddilaw25_few_L8 (fun t m K => congrArg (fun z => chk (fitS0 shp_ddilaw25_few_L8 t m) (cond (hdS shp_ddilaw25_few_L8 t m) z none)) (t_ddilaw25_few_L8 (gL [t 0] 0) K FU (gI [t 4] 0) (arL (m.s 0))).symm)
def shp_ddilaw25_few : Shp := ⟨[(0, .one (.l (.sl 6)))], []⟩
noncomputable def ddilaw25_few_i (v0 : List AV) : Option (List AV) :=
  (bif (hd ([] : List AV) (([] : List AV).length) && true) then (ddilaw25_few_L8 v0 (fun a0q1 => (bif hd a0q1 a0q1.length then (some a0q1) else none)) FU (0 : Int) ([] : List AV)) else none)
noncomputable def ddilaw25_few := hull ddilaw25_few_i
theorem ddilaw25_few_eq : ddilaw25_few = ddilaw25_few_i := hull_eq _
noncomputable def a_ddilaw25_few : AC (List AV) :=
  .seq (.reg [.op ⟨(some 2), (.mv (.c .nils)), none⟩]) (.seq (.reg [.op ⟨(some 3), (.mv (.c .nils)), none⟩]) (.seq (.seq (.reg [.op ⟨(some 4), (.mv (.c (.int .i64 0))), none⟩]) (.block 0 (.seq (.view [.own 3 6, .sel [0, 3, 4] [0]]) (.sub (.loop (scOf a_ddilaw25_few_L8)) s_ddilaw25_few_L8)))) (.seq (.reg [.op ⟨(some 88), (.mv (.t 3)), none⟩,
    .op ⟨(some 2), (.mv (.t 88)), none⟩]) (.ret))))
theorem ok_ddilaw25_few : AC.ok Tryd.prog (TIof Tryd.prog) 89 0 (kret [(.t 2)] dec_ddilaw25_few) a_ddilaw25_few := (And.intro True.intro (And.intro True.intro (And.intro (And.intro True.intro (And.intro True.intro o_ddilaw25_few_L8)) (And.intro True.intro True.intro))))
theorem t_ddilaw25_few (v0 : List AV) : den 0 (kret [(.t 2)] dec_ddilaw25_few) a_ddilaw25_few (envOf [(0, (.sl 6 v0))]) (memOf []) (kend (kret [(.t 2)] dec_ddilaw25_few)) = ddilaw25_few v0 := by
  rw [ddilaw25_few_eq]; kernel_rfl
theorem c_ddilaw25_few : cFn (TIof Tryd.prog) Tryd.f12 = some ⟨89, [(.t 2)], scOf a_ddilaw25_few⟩ := by kernel_rfl
noncomputable def ent_ddilaw25_few {R : Type} (xs : List AV) (K : AV → Option R) : Option R := chk (fitS shp_ddilaw25_few (entry xs) Mem.none) (oB (ddilaw25_few (gL [(entry xs) 0] 0)) fun r => K (enc_ddilaw25_few r))
theorem k_ddilaw25_few {R : Type} : EntOkB Tryd.prog 12 (ent_ddilaw25_few (R := R)) :=
  ent_of (F := fun xs => ddilaw25_few (gL [(entry xs) 0] 0)) (enc := enc_ddilaw25_few) tabOk follows Tryd.func12 (by kernel_rfl) c_ddilaw25_few (fun z r h => by
    obtain ⟨h1, h2⟩ := cond_some h
    cases h2
    exact (etaRV_eq h1).symm) ok_ddilaw25_few (er_of (by kernel_rfl)) shp_ddilaw25_few (fun xs => t_ddilaw25_few (gL [(entry xs) 0] 0)) (fun xs K r h => by
    unfold ent_ddilaw25_few at h
    exact ⟨(chk_some h).1, oB_some (chk_some h).2⟩)

def X_api_View : List LT := [.s, .op, .op, .op, .op, .op]

end Go.Proofs.YtdedipnhkcaghaaDoor.Dn

