import Derived.Test.YtdedipnhkcaghaaDoorProg
import Derived.Test.YtdedipnhkcaghaaDoorLibC
import Derived.Test.YtdedipnhkcaghaaDoorDnVx1
set_option linter.all false
namespace Go.Proofs.YtdedipnhkcaghaaDoor.Dn
open Go Go.Pev
set_option linter.unusedVariables false
set_option linter.unusedSimpArgs false
set_option maxRecDepth 100000
set_option maxHeartbeats 4000000
/-! ddi/view.check -/
def dec_view_check (z : AV) : Option Int := cond (fitRV (.one (.i .i64)) z) (some (aI z)) none
def enc_view_check (r : Int) : AV := .int .i64 r
def shp_view_check_L22 : Shp := ⟨[(1, .one (.l (.sl 6))), (2, .one (.ptr 0 0)), (31, .one (.l (.sl 1))), (32, .one (.l (.i .i64))), (33, .one (.l (.i .i64)))], [.box true [(.l .s), (.l (.sl 6)), (.l (.sl 6)), (.l (.sl 6)), (.l (.sl 1)), (.l (.sl 8))]]⟩
noncomputable def view_check_L22_b  (v1 : List AV) (v31 : List AV) (v32 : Int) (v33 : Int) (b0_0 : List UInt8) (b0_1 : List AV) (b0_2 : List AV) (b0_3 : List AV) (b0_4 : List AV) (b0_5 : List AV) (next : Int → Option Int) (kx0 : Unit → Option Int) : Option Int :=
  (bif (decide (v33 < v32)) then (oB (ixB v31 v33) fun y1 => (bif fitC [.s] y1.cells then (oB (dname_Valid (gS y1.cells 0)) fun r2 => (bif (!r2) then (some (2 : Int)) else (oB (ixB (gS y1.cells 0) (0 : Int)) fun c3 => (bif ((c3.toNat : Int) == (42 : Int)) then (some (2 : Int)) else (next (IntKind.i64.wrap (v33 + (1 : Int)))))))) else none)) else (kx0 ()))
noncomputable def view_check_L22_i  (v1 : List AV) (v31 : List AV) (v32 : Int) (b0_0 : List UInt8) (b0_1 : List AV) (b0_2 : List AV) (b0_3 : List AV) (b0_4 : List AV) (b0_5 : List AV) (kx0 : Unit → Option Int) : Nat → Int → Option Int
  | 0 => (fun _ => none)
  | n + 1 => (fun v33 => view_check_L22_b v1 v31 v32 v33 b0_0 b0_1 b0_2 b0_3 b0_4 b0_5 (view_check_L22_i v1 v31 v32 b0_0 b0_1 b0_2 b0_3 b0_4 b0_5 kx0 n) kx0)
noncomputable def view_check_L22 := hull (view_check_L22_i)
theorem view_check_L22_eq : view_check_L22 = view_check_L22_i := hull_eq _
noncomputable def a_view_check_L22 : AC Int :=
  .seq (.reg [.op ⟨(some 34), (.bin .lss (.t 33) (.t 32)), none⟩]) (.seq (.cond (.t 34) (.skip) (.seq (.view [.sel [1, 2] [0]]) (.exit 0))) (.seq (.block 1 (.seq (.reg [.op ⟨(some 35), (.ia 1 (.t 31) (.t 33)), none⟩,
    .st (.etac 35 [.s]),
    .op ⟨(some 36), (.load false 1 (.t 35)), none⟩,
    .op ⟨(some 6), (.mv (.t 36)), none⟩]) (.seq (.reg [.op ⟨(some 37), (.mv (.t 6)), none⟩,
    .call ⟨(some 38), (.call 29 [(.t 37)]), none⟩ 29 ent_dname_Valid,
    .op ⟨(some 39), (.un .not (.t 38)), none⟩,
    .op ⟨(some 40), (.mv (.t 39)), none⟩,
    .op ⟨(some 41), (.mv (.t 6)), (some (40, false))⟩,
    .op ⟨(some 42), (.ixs (.t 41) (.c (.int .i64 0))), (some (40, false))⟩,
    .op ⟨(some 43), (.bin .eql (.t 42) (.c (.int .u8 42))), (some (40, false))⟩,
    .op ⟨(some 44), (.pick (.t 40) (.c (.bool true)) (.t 43)), none⟩]) (.cond (.t 44) (.seq (.reg [.op ⟨(some 4), (.mv (.c (.int .i64 2))), none⟩]) (.ret)) (.skip))))) (.seq (.reg [.op ⟨(some 45), (.bin .add (.t 33) (.c (.int .i64 1))), none⟩,
    .op ⟨(some 33), (.mv (.t 45)), none⟩]) (.view [.sel [1, 2, 31, 32, 33] [0]]))))
theorem ok_view_check_L22 : AC.ok Tryd.prog (TIof Tryd.prog) 80 0 (kret [(.t 4)] dec_view_check) a_view_check_L22 := (And.intro True.intro (And.intro (And.intro True.intro (And.intro True.intro True.intro)) (And.intro (And.intro True.intro (And.intro (And.intro (EntOkB.ok k_dname_Valid) True.intro) (And.intro (And.intro True.intro True.intro) True.intro))) (And.intro True.intro True.intro))))
theorem t_view_check_L22_b (v1 : List AV) (v31 : List AV) (v32 : Int) (v33 : Int) (b0_0 : List UInt8) (b0_1 : List AV) (b0_2 : List AV) (b0_3 : List AV) (b0_4 : List AV) (b0_5 : List AV) (K : Ex → Env → Mem → Option Int) : den 0 (kret [(.t 4)] dec_view_check) a_view_check_L22 (envOf [(1, (.sl 6 v1)), (2, (.ptr 0 0)), (31, (.sl 1 v31)), (32, (.int .i64 v32)), (33, (.int .i64 v33))]) (memOf [(some (.box true [(.str b0_0), (.sl 6 b0_1), (.sl 6 b0_2), (.sl 6 b0_3), (.sl 1 b0_4), (.sl 8 b0_5)]))]) K = view_check_L22_b v1 v31 v32 v33 b0_0 b0_1 b0_2 b0_3 b0_4 b0_5 (fun z_v33 => K .norm (envOf [(1, (.sl 6 v1)), (2, (.ptr 0 0)), (31, (.sl 1 v31)), (32, (.int .i64 v32)), (33, (.int .i64 z_v33))]) (memOf [(some (.box true [(.str b0_0), (.sl 6 b0_1), (.sl 6 b0_2), (.sl 6 b0_3), (.sl 1 b0_4), (.sl 8 b0_5)]))])) (fun _ => K (.exit 0) (envOf [(1, (.sl 6 v1)), (2, (.ptr 0 0))]) (memOf [(some (.box true [(.str b0_0), (.sl 6 b0_1), (.sl 6 b0_2), (.sl 6 b0_3), (.sl 1 b0_4), (.sl 8 b0_5)]))])) := by kernel_rfl
theorem t_view_check_L22 (v1 : List AV) (v31 : List AV) (v32 : Int) (b0_0 : List UInt8) (b0_1 : List AV) (b0_2 : List AV) (b0_3 : List AV) (b0_4 : List AV) (b0_5 : List AV) (K : Ex → Env → Mem → Option Int) : ∀ (n : Nat) (v33 : Int), iterD (den 0 (kret [(.t 4)] dec_view_check) a_view_check_L22) n (envOf [(1, (.sl 6 v1)), (2, (.ptr 0 0)), (31, (.sl 1 v31)), (32, (.int .i64 v32)), (33, (.int .i64 v33))]) (memOf [(some (.box true [(.str b0_0), (.sl 6 b0_1), (.sl 6 b0_2), (.sl 6 b0_3), (.sl 1 b0_4), (.sl 8 b0_5)]))]) K = view_check_L22 v1 v31 v32 b0_0 b0_1 b0_2 b0_3 b0_4 b0_5 (fun _ => K (.exit 0) (envOf [(1, (.sl 6 v1)), (2, (.ptr 0 0))]) (memOf [(some (.box true [(.str b0_0), (.sl 6 b0_1), (.sl 6 b0_2), (.sl 6 b0_3), (.sl 1 b0_4), (.sl 8 b0_5)]))])) n v33 := by
  rw [view_check_L22_eq]
  intro n
  induction n with
  | zero => intros; rfl
  | succ n ih =>
    intro v33
    exact (t_view_check_L22_b v1 v31 v32 v33 b0_0 b0_1 b0_2 b0_3 b0_4 b0_5 (itK (den 0 (kret [(.t 4)] dec_view_check) a_view_check_L22) n K)).trans (congrArg (fun q => view_check_L22_b v1 v31 v32 v33 b0_0 b0_1 b0_2 b0_3 b0_4 b0_5 q (fun _ => K (.exit 0) (envOf [(1, (.sl 6 v1)), (2, (.ptr 0 0))]) (memOf [(some (.box true [(.str b0_0), (.sl 6 b0_1), (.sl 6 b0_2), (.sl 6 b0_3), (.sl 1 b0_4), (.sl 8 b0_5)]))]))) (funext fun v33 => ih v33))
noncomputable def s_view_check_L22 : Env → Mem → (Ex → Env → Mem → Option Int) → Option Int := fun t m K => chk (fitS0 shp_view_check_L22 t m) (cond (hdS shp_view_check_L22 t m) (view_check_L22 (gL [t 1] 0) (gL [t 31] 0) (gI [t 32] 0) (gS (bxC (m.s 0)) 0) (gL (bxC (m.s 0)) 1) (gL (bxC (m.s 0)) 2) (gL (bxC (m.s 0)) 3) (gL (bxC (m.s 0)) 4) (gL (bxC (m.s 0)) 5) (fun _ => K (.exit 0) (envOf [(1, (.sl 6 (gL [t 1] 0))), (2, (.ptr 0 0))]) (memOf [(some (.box true [(.str (gS (bxC (m.s 0)) 0)), (.sl 6 (gL (bxC (m.s 0)) 1)), (.sl 6 (gL (bxC (m.s 0)) 2)), (.sl 6 (gL (bxC (m.s 0)) 3)), (.sl 1 (gL (bxC (m.s 0)) 4)), (.sl 8 (gL (bxC (m.s 0)) 5))]))])) FU (gI [t 33] 0)) none)
theorem o_view_check_L22 : SubOk Tryd.prog (TIof Tryd.prog) 80 0 (kret [(.t 4)] dec_view_check) (.loop (scOf a_view_check_L22)) s_view_check_L22 :=
  loop_of tabOk follows ok_view_check_L22 (er_of (by kernel_rfl)) shp_view_check_L22 (fun t m K => congrArg (fun z => chk (fitS0 shp_view_check_L22 t m) (cond (hdS shp_view_check_L22 t m) z none)) (t_view_check_L22 (gL [t 1] 0) (gL [t 31] 0) (gI [t 32] 0) (gS (bxC (m.s 0)) 0) (gL (bxC (m.s 0)) 1) (gL (bxC (m.s 0)) 2) (gL (bxC (m.s 0)) 3) (gL (bxC (m.s 0)) 4) (gL (bxC (m.s 0)) 5) K FU (gI [t 33] 0)).symm)
def shp_view_check_L53 : Shp := ⟨[(2, .one (.ptr 0 0)), (50, .one (.l (.sl 1))), (51, .one (.l (.i .i64))), (52, .one (.l (.i .i64)))], [.box true [(.l .s), (.l (.sl 6)), (.l (.sl 6)), (.l (.sl 6)), (.l (.sl 1)), (.l (.sl 8))]]⟩
noncomputable def view_check_L53_b  (v50 : List AV) (v51 : Int) (v52 : Int) (b0_0 : List UInt8) (b0_1 : List AV) (b0_2 : List AV) (b0_3 : List AV) (b0_4 : List AV) (b0_5 : List AV) (next : Int → Option Int) (kx2 : Unit → Option Int) : Option Int :=
  (bif (decide (v52 < v51)) then (oB (ixB v50 v52) fun y1 => (bif fitC [.s] y1.cells then (oB (cutI b0_4 none (some v52)) fun s2 => (oB (slices_Contains_string_string s2 (gS y1.cells 0)) fun r3 => (bif r3 then (some (12 : Int)) else (next (IntKind.i64.wrap (v52 + (1 : Int))))))) else none)) else (kx2 ()))
noncomputable def view_check_L53_i  (v50 : List AV) (v51 : Int) (b0_0 : List UInt8) (b0_1 : List AV) (b0_2 : List AV) (b0_3 : List AV) (b0_4 : List AV) (b0_5 : List AV) (kx2 : Unit → Option Int) : Nat → Int → Option Int
  | 0 => (fun _ => none)
  | n + 1 => (fun v52 => view_check_L53_b v50 v51 v52 b0_0 b0_1 b0_2 b0_3 b0_4 b0_5 (view_check_L53_i v50 v51 b0_0 b0_1 b0_2 b0_3 b0_4 b0_5 kx2 n) kx2)
noncomputable def view_check_L53 := hull (view_check_L53_i)
theorem view_check_L53_eq : view_check_L53 = view_check_L53_i := hull_eq _
noncomputable def a_view_check_L53 : AC Int :=
  .seq (.reg [.op ⟨(some 53), (.bin .lss (.t 52) (.t 51)), none⟩]) (.seq (.cond (.t 53) (.skip) (.seq (.view [.sel [2] [0]]) (.exit 2))) (.seq (.block 3 (.seq (.reg [.op ⟨(some 54), (.mv (.t 52)), none⟩,
    .op ⟨(some 55), (.ia 1 (.t 50) (.t 52)), none⟩,
    .st (.etac 55 [.s]),
    .op ⟨(some 56), (.load false 1 (.t 55)), none⟩,
    .op ⟨(some 7), (.mv (.t 54)), none⟩,
    .op ⟨(some 8), (.mv (.t 56)), none⟩]) (.seq (.reg [.op ⟨(some 57), (.fa 4 (.t 2)), none⟩,
    .op ⟨(some 58), (.load false 1 (.t 57)), none⟩,
    .op ⟨(some 59), (.mv (.t 7)), none⟩,
    .op ⟨(some 60), (.slc 1 (.t 58) none (some (.t 59))), none⟩,
    .op ⟨(some 61), (.mv (.t 8)), none⟩,
    .call ⟨(some 62), (.call 37 [(.t 60), (.t 61)]), none⟩ 37 ent_slices_Contains_string_string]) (.cond (.t 62) (.seq (.reg [.op ⟨(some 4), (.mv (.c (.int .i64 12))), none⟩]) (.ret)) (.skip))))) (.seq (.reg [.op ⟨(some 63), (.bin .add (.t 52) (.c (.int .i64 1))), none⟩,
    .op ⟨(some 52), (.mv (.t 63)), none⟩]) (.view [.sel [2, 50, 51, 52] [0]]))))
theorem ok_view_check_L53 : AC.ok Tryd.prog (TIof Tryd.prog) 80 0 (kret [(.t 4)] dec_view_check) a_view_check_L53 := (And.intro True.intro (And.intro (And.intro True.intro (And.intro True.intro True.intro)) (And.intro (And.intro True.intro (And.intro (And.intro (EntOkB.ok k_slices_Contains_string_string) True.intro) (And.intro (And.intro True.intro True.intro) True.intro))) (And.intro True.intro True.intro))))
theorem t_view_check_L53_b (v50 : List AV) (v51 : Int) (v52 : Int) (b0_0 : List UInt8) (b0_1 : List AV) (b0_2 : List AV) (b0_3 : List AV) (b0_4 : List AV) (b0_5 : List AV) (K : Ex → Env → Mem → Option Int) : den 0 (kret [(.t 4)] dec_view_check) a_view_check_L53 (envOf [(2, (.ptr 0 0)), (50, (.sl 1 v50)), (51, (.int .i64 v51)), (52, (.int .i64 v52))]) (memOf [(some (.box true [(.str b0_0), (.sl 6 b0_1), (.sl 6 b0_2), (.sl 6 b0_3), (.sl 1 b0_4), (.sl 8 b0_5)]))]) K = view_check_L53_b v50 v51 v52 b0_0 b0_1 b0_2 b0_3 b0_4 b0_5 (fun z_v52 => K .norm (envOf [(2, (.ptr 0 0)), (50, (.sl 1 v50)), (51, (.int .i64 v51)), (52, (.int .i64 z_v52))]) (memOf [(some (.box true [(.str b0_0), (.sl 6 b0_1), (.sl 6 b0_2), (.sl 6 b0_3), (.sl 1 b0_4), (.sl 8 b0_5)]))])) (fun _ => K (.exit 2) (envOf [(2, (.ptr 0 0))]) (memOf [(some (.box true [(.str b0_0), (.sl 6 b0_1), (.sl 6 b0_2), (.sl 6 b0_3), (.sl 1 b0_4), (.sl 8 b0_5)]))])) := by kernel_rfl
theorem t_view_check_L53 (v50 : List AV) (v51 : Int) (b0_0 : List UInt8) (b0_1 : List AV) (b0_2 : List AV) (b0_3 : List AV) (b0_4 : List AV) (b0_5 : List AV) (K : Ex → Env → Mem → Option Int) : ∀ (n : Nat) (v52 : Int), iterD (den 0 (kret [(.t 4)] dec_view_check) a_view_check_L53) n (envOf [(2, (.ptr 0 0)), (50, (.sl 1 v50)), (51, (.int .i64 v51)), (52, (.int .i64 v52))]) (memOf [(some (.box true [(.str b0_0), (.sl 6 b0_1), (.sl 6 b0_2), (.sl 6 b0_3), (.sl 1 b0_4), (.sl 8 b0_5)]))]) K = view_check_L53 v50 v51 b0_0 b0_1 b0_2 b0_3 b0_4 b0_5 (fun _ => K (.exit 2) (envOf [(2, (.ptr 0 0))]) (memOf [(some (.box true [(.str b0_0), (.sl 6 b0_1), (.sl 6 b0_2), (.sl 6 b0_3), (.sl 1 b0_4), (.sl 8 b0_5)]))])) n v52 := by
  rw [view_check_L53_eq]
  intro n
  induction n with
  | zero => intros; rfl
  | succ n ih =>
    intro v52
    exact (t_view_check_L53_b v50 v51 v52 b0_0 b0_1 b0_2 b0_3 b0_4 b0_5 (itK (den 0 (kret [(.t 4)] dec_view_check) a_view_check_L53) n K)).trans (congrArg (fun q => view_check_L53_b v50 v51 v52 b0_0 b0_1 b0_2 b0_3 b0_4 b0_5 q (fun _ => K (.exit 2) (envOf [(2, (.ptr 0 0))]) (memOf [(some (.box true [(.str b0_0), (.sl 6 b0_1), (.sl 6 b0_2), (.sl 6 b0_3), (.sl 1 b0_4), (.sl 8 b0_5)]))]))) (funext fun v52 => ih v52))
noncomputable def s_view_check_L53 : Env → Mem → (Ex → Env → Mem → Option Int) → Option Int := fun t m K => chk (fitS0 shp_view_check_L53 t m) (cond (hdS shp_view_check_L53 t m) (view_check_L53 (gL [t 50] 0) (gI [t 51] 0) (gS (bxC (m.s 0)) 0) (gL (bxC (m.s 0)) 1) (gL (bxC (m.s 0)) 2) (gL (bxC (m.s 0)) 3) (gL (bxC (m.s 0)) 4) (gL (bxC (m.s 0)) 5) (fun _ => K (.exit 2) (envOf [(2, (.ptr 0 0))]) (memOf [(some (.box true [(.str (gS (bxC (m.s 0)) 0)), (.sl 6 (gL (bxC (m.s 0)) 1)), (.sl 6 (gL (bxC (m.s 0)) 2)), (.sl 6 (gL (bxC (m.s 0)) 3)), (.sl 1 (gL (bxC (m.s 0)) 4)), (.sl 8 (gL (bxC (m.s 0)) 5))]))])) FU (gI [t 52] 0)) none)
theorem o_view_check_L53 : SubOk Tryd.prog (TIof Tryd.prog) 80 0 (kret [(.t 4)] dec_view_check) (.loop (scOf a_view_check_L53)) s_view_check_L53 :=
  loop_of tabOk follows ok_view_check_L53 (er_of (by kernel_rfl)) shp_view_check_L53 (fun t m K => congrArg (fun z => chk (fitS0 shp_view_check_L53 t m) (cond (hdS shp_view_check_L53 t m) z none)) (t_view_check_L53 (gL [t 50] 0) (gI [t 51] 0) (gS (bxC (m.s 0)) 0) (gL (bxC (m.s 0)) 1) (gL (bxC (m.s 0)) 2) (gL (bxC (m.s 0)) 3) (gL (bxC (m.s 0)) 4) (gL (bxC (m.s 0)) 5) K FU (gI [t 52] 0)).symm)
def shp_view_check : Shp := ⟨[(0, .st [(.l .s), (.l (.sl 6)), (.l (.sl 6)), (.l (.sl 6)), (.l (.sl 1)), (.l (.sl 8))]), (1, .one (.l (.sl 6)))], []⟩
noncomputable def view_check_i (v0_0 : List UInt8) (v0_1 : List AV) (v0_2 : List AV) (v0_3 : List AV) (v0_4 : List AV) (v0_5 : List AV) (v1 : List AV) : Option Int :=
  (bif ((decide ((v0_4.length : Int) > (32 : Int))) || (decide ((if (v0_3.length : Int) > (if (v0_2.length : Int) > (v0_1.length : Int) then (v0_2.length : Int) else (v0_1.length : Int)) then (v0_3.length : Int) else (if (v0_2.length : Int) > (v0_1.length : Int) then (v0_2.length : Int) else (v0_1.length : Int))) > (64 : Int)))) then (some (9 : Int)) else (oB (view_called v0_0) fun r1 => (bif (!r1) then (some (2 : Int)) else (view_check_L22 v1 v0_4 (v0_4.length : Int) v0_0 v0_1 v0_2 v0_3 v0_4 v0_5 (fun (_ : Unit) => (slices_ContainsFunc_api_View_api_View__view_check_1 v1 v0_0 v0_1 v0_2 v0_3 v0_4 v0_5 fun v4q2 b0_0q3 b0_1q4 b0_2q5 b0_3q6 b0_4q7 b0_5q8 => (bif v4q2 then (some (12 : Int)) else (view_check_L53 b0_4q7 (b0_4q7.length : Int) b0_0q3 b0_1q4 b0_2q5 b0_3q6 b0_4q7 b0_5q8 (fun (_ : Unit) => (oB (view_right b0_1q4) fun r9 => (bif (!r9) then (some (3 : Int)) else (oB (view_right b0_2q5) fun r10 => (bif (!r10) then (some (3 : Int)) else (oB (view_right b0_3q6) fun r11 => (bif (!r11) then (some (3 : Int)) else (some (0 : Int))))))))) FU (0 : Int))))) FU (0 : Int)))))
noncomputable def view_check := hull view_check_i
theorem view_check_eq : view_check = view_check_i := hull_eq _
noncomputable def a_view_check : AC Int :=
  .seq (.reg [.op ⟨(some 2), (.box (.t 0)), none⟩,
    .op ⟨(some 4), (.mv (.c (.int .i64 0))), none⟩]) (.seq (.seq (.reg [.op ⟨(some 9), (.fa 4 (.t 2)), none⟩,
    .op ⟨(some 10), (.load false 1 (.t 9)), none⟩,
    .op ⟨(some 11), (.len false (.t 10)), none⟩,
    .op ⟨(some 12), (.bin .gtr (.t 11) (.c (.int .i64 32))), none⟩,
    .op ⟨(some 13), (.mv (.t 12)), none⟩,
    .grp 13 false [⟨(some 14), (.fa 1 (.t 2)), (some (13, false))⟩, ⟨(some 15), (.load false 1 (.t 14)), (some (13, false))⟩, ⟨(some 16), (.len false (.t 15)), (some (13, false))⟩, ⟨(some 17), (.fa 2 (.t 2)), (some (13, false))⟩, ⟨(some 18), (.load false 1 (.t 17)), (some (13, false))⟩, ⟨(some 19), (.len false (.t 18)), (some (13, false))⟩, ⟨(some 20), (.fa 3 (.t 2)), (some (13, false))⟩, ⟨(some 21), (.load false 1 (.t 20)), (some (13, false))⟩, ⟨(some 22), (.len false (.t 21)), (some (13, false))⟩, ⟨(some 23), (.mm true (.t 16) [(.t 19), (.t 22)]), (some (13, false))⟩, ⟨(some 24), (.bin .gtr (.t 23) (.c (.int .i64 64))), (some (13, false))⟩] 25 (.t 24)]) (.cond (.t 25) (.seq (.reg [.op ⟨(some 4), (.mv (.c (.int .i64 9))), none⟩]) (.ret)) (.skip))) (.seq (.seq (.reg [.op ⟨(some 26), (.fa 0 (.t 2)), none⟩,
    .op ⟨(some 27), (.load false 1 (.t 26)), none⟩,
    .call ⟨(some 28), (.call 34 [(.t 27)]), none⟩ 34 ent_view_called,
    .op ⟨(some 29), (.un .not (.t 28)), none⟩]) (.cond (.t 29) (.seq (.reg [.op ⟨(some 4), (.mv (.c (.int .i64 2))), none⟩]) (.ret)) (.skip))) (.seq (.seq (.reg [.op ⟨(some 30), (.fa 4 (.t 2)), none⟩,
    .op ⟨(some 31), (.load false 1 (.t 30)), none⟩,
    .op ⟨(some 32), (.len false (.t 31)), none⟩,
    .op ⟨(some 33), (.mv (.c (.int .i64 0))), none⟩]) (.block 0 (.seq (.view [.sel [1, 2, 31, 32, 33] [0]]) (.sub (.loop (scOf a_view_check_L22)) s_view_check_L22)))) (.seq (.seq (.reg [.op ⟨(some 46), (.mv (.t 1)), none⟩,
    .op ⟨(some 47), (.mkf 36 [(.t 2)]), none⟩,
    .st (.sel [2, 46, 47] [0]),
    .callr ⟨(some 48), (.call 35 [(.t 46), (.t 47)]), none⟩ 35 e_slices_ContainsFunc_api_View_api_View__view_check_1]) (.cond (.t 48) (.seq (.reg [.op ⟨(some 4), (.mv (.c (.int .i64 12))), none⟩]) (.ret)) (.skip))) (.seq (.seq (.reg [.op ⟨(some 49), (.fa 4 (.t 2)), none⟩,
    .op ⟨(some 50), (.load false 1 (.t 49)), none⟩,
    .op ⟨(some 51), (.len false (.t 50)), none⟩,
    .op ⟨(some 52), (.mv (.c (.int .i64 0))), none⟩]) (.block 2 (.seq (.view [.sel [2, 50, 51, 52] [0]]) (.sub (.loop (scOf a_view_check_L53)) s_view_check_L53)))) (.seq (.seq (.reg [.op ⟨(some 64), (.fa 1 (.t 2)), none⟩,
    .op ⟨(some 65), (.load false 1 (.t 64)), none⟩,
    .call ⟨(some 66), (.call 38 [(.t 65)]), none⟩ 38 ent_view_right,
    .op ⟨(some 67), (.un .not (.t 66)), none⟩,
    .op ⟨(some 68), (.mv (.t 67)), none⟩,
    .op ⟨(some 69), (.fa 2 (.t 2)), (some (68, false))⟩,
    .op ⟨(some 70), (.load false 1 (.t 69)), (some (68, false))⟩,
    .call ⟨(some 71), (.call 38 [(.t 70)]), (some (68, false))⟩ 38 ent_view_right,
    .op ⟨(some 72), (.un .not (.t 71)), (some (68, false))⟩,
    .op ⟨(some 73), (.pick (.t 68) (.c (.bool true)) (.t 72)), none⟩,
    .op ⟨(some 74), (.mv (.t 73)), none⟩,
    .op ⟨(some 75), (.fa 3 (.t 2)), (some (74, false))⟩,
    .op ⟨(some 76), (.load false 1 (.t 75)), (some (74, false))⟩,
    .call ⟨(some 77), (.call 38 [(.t 76)]), (some (74, false))⟩ 38 ent_view_right,
    .op ⟨(some 78), (.un .not (.t 77)), (some (74, false))⟩,
    .op ⟨(some 79), (.pick (.t 74) (.c (.bool true)) (.t 78)), none⟩]) (.cond (.t 79) (.seq (.reg [.op ⟨(some 4), (.mv (.c (.int .i64 3))), none⟩]) (.ret)) (.skip))) (.seq (.reg [.op ⟨(some 4), (.mv (.c (.int .i64 0))), none⟩]) (.ret))))))))
theorem ok_view_check : AC.ok Tryd.prog (TIof Tryd.prog) 80 0 (kret [(.t 4)] dec_view_check) a_view_check := (And.intro True.intro (And.intro (And.intro True.intro (And.intro (And.intro True.intro True.intro) True.intro)) (And.intro (And.intro (And.intro (EntOkB.ok k_view_called) True.intro) (And.intro (And.intro True.intro True.intro) True.intro)) (And.intro (And.intro True.intro (And.intro True.intro o_view_check_L22)) (And.intro (And.intro (And.intro k_slices_ContainsFunc_api_View_api_View__view_check_1 True.intro) (And.intro (And.intro True.intro True.intro) True.intro)) (And.intro (And.intro True.intro (And.intro True.intro o_view_check_L53)) (And.intro (And.intro (And.intro (EntOkB.ok k_view_right) (And.intro (EntOkB.ok k_view_right) (And.intro (EntOkB.ok k_view_right) True.intro))) (And.intro (And.intro True.intro True.intro) True.intro)) (And.intro True.intro True.intro))))))))
theorem t_view_check (v0_0 : List UInt8) (v0_1 : List AV) (v0_2 : List AV) (v0_3 : List AV) (v0_4 : List AV) (v0_5 : List AV) (v1 : List AV) : den 0 (kret [(.t 4)] dec_view_check) a_view_check (envOf [(0, (.agg [(.str v0_0), (.sl 6 v0_1), (.sl 6 v0_2), (.sl 6 v0_3), (.sl 1 v0_4), (.sl 8 v0_5)])), (1, (.sl 6 v1))]) (memOf []) (kend (kret [(.t 4)] dec_view_check)) = view_check v0_0 v0_1 v0_2 v0_3 v0_4 v0_5 v1 := by
  rw [view_check_eq]; kernel_rfl
theorem c_view_check : cFn (TIof Tryd.prog) Tryd.f22 = some ⟨80, [(.t 4)], scOf a_view_check⟩ := by kernel_rfl
noncomputable def ent_view_check {R : Type} (xs : List AV) (K : AV → Option R) : Option R := chk (fitS shp_view_check (entry xs) Mem.none) (oB (view_check (gS ((entry xs) 0).cells 0) (gL ((entry xs) 0).cells 1) (gL ((entry xs) 0).cells 2) (gL ((entry xs) 0).cells 3) (gL ((entry xs) 0).cells 4) (gL ((entry xs) 0).cells 5) (gL [(entry xs) 1] 0)) fun r => K (enc_view_check r))
theorem k_view_check {R : Type} : EntOkB Tryd.prog 22 (ent_view_check (R := R)) :=
  ent_of (F := fun xs => view_check (gS ((entry xs) 0).cells 0) (gL ((entry xs) 0).cells 1) (gL ((entry xs) 0).cells 2) (gL ((entry xs) 0).cells 3) (gL ((entry xs) 0).cells 4) (gL ((entry xs) 0).cells 5) (gL [(entry xs) 1] 0)) (enc := enc_view_check) tabOk follows Tryd.func22 (by kernel_rfl) c_view_check (fun z r h => by
    obtain ⟨h1, h2⟩ := cond_some h
    cases h2
    exact (etaRV_eq h1).symm) ok_view_check (er_of (by kernel_rfl)) shp_view_check (fun xs => t_view_check (gS ((entry xs) 0).cells 0) (gL ((entry xs) 0).cells 1) (gL ((entry xs) 0).cells 2) (gL ((entry xs) 0).cells 3) (gL ((entry xs) 0).cells 4) (gL ((entry xs) 0).cells 5) (gL [(entry xs) 1] 0)) (fun xs K r h => by
    unfold ent_view_check at h
    exact ⟨(chk_some h).1, oB_some (chk_some h).2⟩)

/-! ddi/view.Check -/
def dec_view_Check (z : AV) : Option Int := cond (fitRV (.one (.i .i64)) z) (some (aI z)) none
def enc_view_Check (r : Int) : AV := .int .i64 r
def shp_view_Check_L14 : Shp := ⟨[(0, .one (.l (.sl 6))), (9, .one (.l (.sl 6))), (10, .one (.l (.i .i64))), (11, .one (.l (.i .i64)))], []⟩
noncomputable def view_Check_L14_b  (v0 : List AV) (v9 : List AV) (v10 : Int) (v11 : Int) (next : Int → Option Int) (kx0 : Unit → Option Int) : Option Int :=
  (bif (decide (v11 < v10)) then (oB (ixB v9 v11) fun y1 => (bif fitC T_api_View y1.cells then (oB (cutI v0 none (some v11)) fun s2 => (oB (view_check (gS y1.cells 0) (gL y1.cells 1) (gL y1.cells 2) (gL y1.cells 3) (gL y1.cells 4) (gL y1.cells 5) s2) fun r3 => (bif (r3 != (0 : Int)) then (some r3) else (next (IntKind.i64.wrap (v11 + (1 : Int))))))) else none)) else (kx0 ()))
noncomputable def view_Check_L14_i  (v0 : List AV) (v9 : List AV) (v10 : Int) (kx0 : Unit → Option Int) : Nat → Int → Option Int
  | 0 => (fun _ => none)
  | n + 1 => (fun v11 => view_Check_L14_b v0 v9 v10 v11 (view_Check_L14_i v0 v9 v10 kx0 n) kx0)
noncomputable def view_Check_L14 := hull (view_Check_L14_i)
theorem view_Check_L14_eq : view_Check_L14 = view_Check_L14_i := hull_eq _
noncomputable def a_view_Check_L14 : AC Int :=
  .seq (.reg [.op ⟨(some 12), (.bin .lss (.t 11) (.t 10)), none⟩]) (.seq (.cond (.t 12) (.skip) (.seq (.view [.sel [] []]) (.exit 0))) (.seq (.block 1 (.seq (.reg [.op ⟨(some 13), (.mv (.t 11)), none⟩,
    .op ⟨(some 14), (.ia 6 (.t 9) (.t 11)), none⟩,
    .st (.etac 14 T_api_View),
    .op ⟨(some 15), (.load true 6 (.t 14)), none⟩,
    .op ⟨(some 4), (.alloc [(.str []), .nils, .nils, .nils, .nils, .nils]), none⟩,
    .op ⟨(some 3), (.mv (.t 13)), none⟩,
    .op ⟨none, (.store 6 (.t 4) (.t 15)), none⟩]) (.seq (.draw [] [.op ⟨(some 16), (.load true 6 (.t 4)), none⟩,
    .op ⟨(some 17), (.mv (.t 0)), none⟩,
    .op ⟨(some 18), (.mv (.t 3)), none⟩,
    .op ⟨(some 19), (.slc 6 (.t 17) none (some (.t 18))), none⟩] [.call ⟨(some 20), (.call 22 [(.t 16), (.t 19)]), none⟩ 22 ent_view_check,
    .op ⟨(some 5), (.mv (.t 20)), none⟩]) (.seq (.reg [.op ⟨(some 21), (.mv (.t 5)), none⟩,
    .op ⟨(some 22), (.bin .neq (.t 21) (.c (.int .i64 0))), none⟩]) (.cond (.t 22) (.seq (.reg [.op ⟨(some 23), (.mv (.t 5)), none⟩,
    .op ⟨(some 2), (.mv (.t 23)), none⟩]) (.ret)) (.skip)))))) (.seq (.reg [.op ⟨(some 24), (.bin .add (.t 11) (.c (.int .i64 1))), none⟩,
    .op ⟨(some 11), (.mv (.t 24)), none⟩]) (.view [.sel [0, 9, 10, 11] []]))))
theorem ok_view_Check_L14 : AC.ok Tryd.prog (TIof Tryd.prog) 25 0 (kret [(.t 2)] dec_view_Check) a_view_Check_L14 := (And.intro True.intro (And.intro (And.intro True.intro (And.intro True.intro True.intro)) (And.intro (And.intro True.intro (And.intro (And.intro True.intro (And.intro (EntOkB.ok k_view_check) True.intro)) (And.intro True.intro (And.intro (And.intro True.intro True.intro) True.intro)))) (And.intro True.intro True.intro))))
theorem t_view_Check_L14_b (v0 : List AV) (v9 : List AV) (v10 : Int) (v11 : Int) (K : Ex → Env → Mem → Option Int) : den 0 (kret [(.t 2)] dec_view_Check) a_view_Check_L14 (envOf [(0, (.sl 6 v0)), (9, (.sl 6 v9)), (10, (.int .i64 v10)), (11, (.int .i64 v11))]) (memOf []) K = view_Check_L14_b v0 v9 v10 v11 (fun z_v11 => K .norm (envOf [(0, (.sl 6 v0)), (9, (.sl 6 v9)), (10, (.int .i64 v10)), (11, (.int .i64 z_v11))]) (memOf [])) (fun _ => K (.exit 0) (envOf []) (memOf [])) := by kernel_rfl
theorem t_view_Check_L14 (v0 : List AV) (v9 : List AV) (v10 : Int) (K : Ex → Env → Mem → Option Int) : ∀ (n : Nat) (v11 : Int), iterD (den 0 (kret [(.t 2)] dec_view_Check) a_view_Check_L14) n (envOf [(0, (.sl 6 v0)), (9, (.sl 6 v9)), (10, (.int .i64 v10)), (11, (.int .i64 v11))]) (memOf []) K = view_Check_L14 v0 v9 v10 (fun _ => K (.exit 0) (envOf []) (memOf [])) n v11 := by
  rw [view_Check_L14_eq]
  intro n
  induction n with
  | zero => intros; rfl
  | succ n ih =>
    intro v11
    exact (t_view_Check_L14_b v0 v9 v10 v11 (itK (den 0 (kret [(.t 2)] dec_view_Check) a_view_Check_L14) n K)).trans (congrArg (fun q => view_Check_L14_b v0 v9 v10 v11 q (fun _ => K (.exit 0) (envOf []) (memOf []))) (funext fun v11 => ih v11))
noncomputable def s_view_Check_L14 : Env → Mem → (Ex → Env → Mem → Option Int) → Option Int := fun t m K => chk (fitS0 shp_view_Check_L14 t m) (cond (hdS shp_view_Check_L14 t m) (view_Check_L14 (gL [t 0] 0) (gL [t 9] 0) (gI [t 10] 0) (fun _ => K (.exit 0) (envOf []) (memOf [])) FU (gI [t 11] 0)) none)
theorem o_view_Check_L14 : SubOk Tryd.prog (TIof Tryd.prog) 25 0 (kret [(.t 2)] dec_view_Check) (.loop (scOf a_view_Check_L14)) s_view_Check_L14 :=
  loop_of tabOk follows ok_view_Check_L14 (er_of (by kernel_rfl)) shp_view_Check_L14 (fun t m K => congrArg (fun z => chk (fitS0 shp_view_Check_L14 t m) (cond (hdS shp_view_Check_L14 t m) z none)) (t_view_Check_L14 (gL [t 0] 0) (gL [t 9] 0) (gI [t 10] 0) K FU (gI [t 11] 0)).symm)
def shp_view_Check : Shp := ⟨[(0, .one (.l (.sl 6)))], []⟩
noncomputable def view_Check_i (v0 : List AV) : Option Int :=
  (bif (decide ((v0.length : Int) > (8 : Int))) then (some (9 : Int)) else (view_Check_L14 v0 v0 (v0.length : Int) (fun (_ : Unit) => (some (0 : Int))) FU (0 : Int)))
noncomputable def view_Check := hull view_Check_i
theorem view_Check_eq : view_Check = view_Check_i := hull_eq _
noncomputable def a_view_Check : AC Int :=
  .seq (.reg [.op ⟨(some 2), (.mv (.c (.int .i64 0))), none⟩]) (.seq (.seq (.reg [.op ⟨(some 6), (.mv (.t 0)), none⟩,
    .op ⟨(some 7), (.len false (.t 6)), none⟩,
    .op ⟨(some 8), (.bin .gtr (.t 7) (.c (.int .i64 8))), none⟩]) (.cond (.t 8) (.seq (.reg [.op ⟨(some 2), (.mv (.c (.int .i64 9))), none⟩]) (.ret)) (.skip))) (.seq (.seq (.reg [.op ⟨(some 9), (.mv (.t 0)), none⟩,
    .op ⟨(some 10), (.len false (.t 9)), none⟩,
    .op ⟨(some 11), (.mv (.c (.int .i64 0))), none⟩]) (.block 0 (.seq (.view [.sel [0, 9, 10, 11] []]) (.sub (.loop (scOf a_view_Check_L14)) s_view_Check_L14)))) (.seq (.reg [.op ⟨(some 2), (.mv (.c (.int .i64 0))), none⟩]) (.ret))))
theorem ok_view_Check : AC.ok Tryd.prog (TIof Tryd.prog) 25 0 (kret [(.t 2)] dec_view_Check) a_view_Check := (And.intro True.intro (And.intro (And.intro True.intro (And.intro (And.intro True.intro True.intro) True.intro)) (And.intro (And.intro True.intro (And.intro True.intro o_view_Check_L14)) (And.intro True.intro True.intro))))
theorem t_view_Check (v0 : List AV) : den 0 (kret [(.t 2)] dec_view_Check) a_view_Check (envOf [(0, (.sl 6 v0))]) (memOf []) (kend (kret [(.t 2)] dec_view_Check)) = view_Check v0 := by
  rw [view_Check_eq]; kernel_rfl
theorem c_view_Check : cFn (TIof Tryd.prog) Tryd.f13 = some ⟨25, [(.t 2)], scOf a_view_Check⟩ := by kernel_rfl
noncomputable def ent_view_Check {R : Type} (xs : List AV) (K : AV → Option R) : Option R := chk (fitS shp_view_Check (entry xs) Mem.none) (oB (view_Check (gL [(entry xs) 0] 0)) fun r => K (enc_view_Check r))
theorem k_view_Check {R : Type} : EntOkB Tryd.prog 13 (ent_view_Check (R := R)) :=
  ent_of (F := fun xs => view_Check (gL [(entry xs) 0] 0)) (enc := enc_view_Check) tabOk follows Tryd.func13 (by kernel_rfl) c_view_Check (fun z r h => by
    obtain ⟨h1, h2⟩ := cond_some h
    cases h2
    exact (etaRV_eq h1).symm) ok_view_Check (er_of (by kernel_rfl)) shp_view_Check (fun xs => t_view_Check (gL [(entry xs) 0] 0)) (fun xs K r h => by
    unfold ent_view_Check at h
    exact ⟨(chk_some h).1, oB_some (chk_some h).2⟩)

/-! ddi/ddilaw25.awake -/
def dec_ddilaw25_awake (z : AV) : Option Bool := cond (fitRV (.one .b) z) (some (aB z)) none
def enc_ddilaw25_awake (r : Bool) : AV := .bool r
def shp_ddilaw25_awake : Shp := ⟨[], []⟩
noncomputable def ddilaw25_awake_i : Option Bool :=
  (bif hd ([(.agg [(.bool false), (.int .u64 (0 : Int)), (.int .u64 (167772160 : Int)), (.int .i64 (8 : Int)), (.bool false), (.bool false)])] : List AV) (([(.agg [(.bool false), (.int .u64 (0 : Int)), (.int .u64 (167772160 : Int)), (.int .i64 (8 : Int)), (.bool false), (.bool false)])] : List AV).length) then (bif hd ([(.str ([46] : List UInt8)), (.str ([101, 120, 97, 109, 112, 108, 101, 46] : List UInt8))] : List AV) (([(.str ([46] : List UInt8)), (.str ([101, 120, 97, 109, 112, 108, 101, 46] : List UInt8))] : List AV).length) then (bif hd ([(.agg [(.bool false), (.int .u64 (0 : Int)), (.int .u64 (0 : Int)), (.int .i64 (0 : Int)), (.bool true), (.bool false)])] : List AV) (([(.agg [(.bool false), (.int .u64 (0 : Int)), (.int .u64 (0 : Int)), (.int .i64 (0 : Int)), (.bool true), (.bool false)])] : List AV).length) then (bif hd ([(.agg [(.str ([105, 110, 115, 105, 100, 101] : List UInt8)), (.sl 6 ([(.agg [(.bool false), (.int .u64 (0 : Int)), (.int .u64 (167772160 : Int)), (.int .i64 (8 : Int)), (.bool false), (.bool false)])] : List AV)), .nils, .nils, (.sl 1 ([(.str ([46] : List UInt8)), (.str ([101, 120, 97, 109, 112, 108, 101, 46] : List UInt8))] : List AV)), .nils]), (.agg [(.str ([97, 108, 108] : List UInt8)), (.sl 6 ([(.agg [(.bool false), (.int .u64 (0 : Int)), (.int .u64 (0 : Int)), (.int .i64 (0 : Int)), (.bool true), (.bool false)])] : List AV)), .nils, .nils, .nils, .nils])] : List AV) (([(.agg [(.str ([105, 110, 115, 105, 100, 101] : List UInt8)), (.sl 6 ([(.agg [(.bool false), (.int .u64 (0 : Int)), (.int .u64 (167772160 : Int)), (.int .i64 (8 : Int)), (.bool false), (.bool false)])] : List AV)), .nils, .nils, (.sl 1 ([(.str ([46] : List UInt8)), (.str ([101, 120, 97, 109, 112, 108, 101, 46] : List UInt8))] : List AV)), .nils]), (.agg [(.str ([97, 108, 108] : List UInt8)), (.sl 6 ([(.agg [(.bool false), (.int .u64 (0 : Int)), (.int .u64 (0 : Int)), (.int .i64 (0 : Int)), (.bool true), (.bool false)])] : List AV)), .nils, .nils, .nils, .nils])] : List AV).length) then (oB (view_Select ([(.agg [(.str ([105, 110, 115, 105, 100, 101] : List UInt8)), (.sl 6 ([(.agg [(.bool false), (.int .u64 (0 : Int)), (.int .u64 (167772160 : Int)), (.int .i64 (8 : Int)), (.bool false), (.bool false)])] : List AV)), .nils, .nils, (.sl 1 ([(.str ([46] : List UInt8)), (.str ([101, 120, 97, 109, 112, 108, 101, 46] : List UInt8))] : List AV)), .nils]), (.agg [(.str ([97, 108, 108] : List UInt8)), (.sl 6 ([(.agg [(.bool false), (.int .u64 (0 : Int)), (.int .u64 (0 : Int)), (.int .i64 (0 : Int)), (.bool true), (.bool false)])] : List AV)), .nils, .nils, .nils, .nils])] : List AV) false (0 : Int) (167772161 : Int)) fun r1 => (bif hd ([(.agg [(.str ([105, 110, 115, 105, 100, 101] : List UInt8)), (.sl 6 ([(.agg [(.bool false), (.int .u64 (0 : Int)), (.int .u64 (167772160 : Int)), (.int .i64 (8 : Int)), (.bool false), (.bool false)])] : List AV)), .nils, .nils, (.sl 1 ([(.str ([46] : List UInt8)), (.str ([101, 120, 97, 109, 112, 108, 101, 46] : List UInt8))] : List AV)), .nils]), (.agg [(.str ([97, 108, 108] : List UInt8)), (.sl 6 ([(.agg [(.bool false), (.int .u64 (0 : Int)), (.int .u64 (0 : Int)), (.int .i64 (0 : Int)), (.bool true), (.bool false)])] : List AV)), .nils, .nils, .nils, .nils])] : List AV) (([(.agg [(.str ([105, 110, 115, 105, 100, 101] : List UInt8)), (.sl 6 ([(.agg [(.bool false), (.int .u64 (0 : Int)), (.int .u64 (167772160 : Int)), (.int .i64 (8 : Int)), (.bool false), (.bool false)])] : List AV)), .nils, .nils, (.sl 1 ([(.str ([46] : List UInt8)), (.str ([101, 120, 97, 109, 112, 108, 101, 46] : List UInt8))] : List AV)), .nils]), (.agg [(.str ([97, 108, 108] : List UInt8)), (.sl 6 ([(.agg [(.bool false), (.int .u64 (0 : Int)), (.int .u64 (0 : Int)), (.int .i64 (0 : Int)), (.bool true), (.bool false)])] : List AV)), .nils, .nils, .nils, .nils])] : List AV).length) then (oB (view_Select ([(.agg [(.str ([105, 110, 115, 105, 100, 101] : List UInt8)), (.sl 6 ([(.agg [(.bool false), (.int .u64 (0 : Int)), (.int .u64 (167772160 : Int)), (.int .i64 (8 : Int)), (.bool false), (.bool false)])] : List AV)), .nils, .nils, (.sl 1 ([(.str ([46] : List UInt8)), (.str ([101, 120, 97, 109, 112, 108, 101, 46] : List UInt8))] : List AV)), .nils]), (.agg [(.str ([97, 108, 108] : List UInt8)), (.sl 6 ([(.agg [(.bool false), (.int .u64 (0 : Int)), (.int .u64 (0 : Int)), (.int .i64 (0 : Int)), (.bool true), (.bool false)])] : List AV)), .nils, .nils, .nils, .nils])] : List AV) true (0 : Int) (0 : Int)) fun r2 => (bif hd ([(.agg [(.str ([105, 110, 115, 105, 100, 101] : List UInt8)), (.sl 6 ([(.agg [(.bool false), (.int .u64 (0 : Int)), (.int .u64 (167772160 : Int)), (.int .i64 (8 : Int)), (.bool false), (.bool false)])] : List AV)), .nils, .nils, (.sl 1 ([(.str ([46] : List UInt8)), (.str ([101, 120, 97, 109, 112, 108, 101, 46] : List UInt8))] : List AV)), .nils]), (.agg [(.str ([97, 108, 108] : List UInt8)), (.sl 6 ([(.agg [(.bool false), (.int .u64 (0 : Int)), (.int .u64 (0 : Int)), (.int .i64 (0 : Int)), (.bool true), (.bool false)])] : List AV)), .nils, .nils, .nils, .nils])] : List AV) (([(.agg [(.str ([105, 110, 115, 105, 100, 101] : List UInt8)), (.sl 6 ([(.agg [(.bool false), (.int .u64 (0 : Int)), (.int .u64 (167772160 : Int)), (.int .i64 (8 : Int)), (.bool false), (.bool false)])] : List AV)), .nils, .nils, (.sl 1 ([(.str ([46] : List UInt8)), (.str ([101, 120, 97, 109, 112, 108, 101, 46] : List UInt8))] : List AV)), .nils]), (.agg [(.str ([97, 108, 108] : List UInt8)), (.sl 6 ([(.agg [(.bool false), (.int .u64 (0 : Int)), (.int .u64 (0 : Int)), (.int .i64 (0 : Int)), (.bool true), (.bool false)])] : List AV)), .nils, .nils, .nils, .nils])] : List AV).length) then (bif decide (0 ≤ (0 : Int) ∧ (0 : Int) < (([(.agg [(.str ([105, 110, 115, 105, 100, 101] : List UInt8)), (.sl 6 ([(.agg [(.bool false), (.int .u64 (0 : Int)), (.int .u64 (167772160 : Int)), (.int .i64 (8 : Int)), (.bool false), (.bool false)])] : List AV)), .nils, .nils, (.sl 1 ([(.str ([46] : List UInt8)), (.str ([101, 120, 97, 109, 112, 108, 101, 46] : List UInt8))] : List AV)), .nils]), (.agg [(.str ([97, 108, 108] : List UInt8)), (.sl 6 ([(.agg [(.bool false), (.int .u64 (0 : Int)), (.int .u64 (0 : Int)), (.int .i64 (0 : Int)), (.bool true), (.bool false)])] : List AV)), .nils, .nils, .nils, .nils])] : List AV).length)) then (bif hd ([(.agg [(.str ([105, 110, 115, 105, 100, 101] : List UInt8)), (.sl 6 ([(.agg [(.bool false), (.int .u64 (0 : Int)), (.int .u64 (167772160 : Int)), (.int .i64 (8 : Int)), (.bool false), (.bool false)])] : List AV)), .nils, .nils, (.sl 1 ([(.str ([46] : List UInt8)), (.str ([101, 120, 97, 109, 112, 108, 101, 46] : List UInt8))] : List AV)), .nils]), (.agg [(.str ([97, 108, 108] : List UInt8)), (.sl 6 ([(.agg [(.bool false), (.int .u64 (0 : Int)), (.int .u64 (0 : Int)), (.int .i64 (0 : Int)), (.bool true), (.bool false)])] : List AV)), .nils, .nils, .nils, .nils])] : List AV) (([(.agg [(.str ([105, 110, 115, 105, 100, 101] : List UInt8)), (.sl 6 ([(.agg [(.bool false), (.int .u64 (0 : Int)), (.int .u64 (167772160 : Int)), (.int .i64 (8 : Int)), (.bool false), (.bool false)])] : List AV)), .nils, .nils, (.sl 1 ([(.str ([46] : List UInt8)), (.str ([101, 120, 97, 109, 112, 108, 101, 46] : List UInt8))] : List AV)), .nils]), (.agg [(.str ([97, 108, 108] : List UInt8)), (.sl 6 ([(.agg [(.bool false), (.int .u64 (0 : Int)), (.int .u64 (0 : Int)), (.int .i64 (0 : Int)), (.bool true), (.bool false)])] : List AV)), .nils, .nils, .nils, .nils])] : List AV).length) then (oB (([(.agg [(.str ([105, 110, 115, 105, 100, 101] : List UInt8)), (.sl 6 ([(.agg [(.bool false), (.int .u64 (0 : Int)), (.int .u64 (167772160 : Int)), (.int .i64 (8 : Int)), (.bool false), (.bool false)])] : List AV)), .nils, .nils, (.sl 1 ([(.str ([46] : List UInt8)), (.str ([101, 120, 97, 109, 112, 108, 101, 46] : List UInt8))] : List AV)), .nils]), (.agg [(.str ([97, 108, 108] : List UInt8)), (.sl 6 ([(.agg [(.bool false), (.int .u64 (0 : Int)), (.int .u64 (0 : Int)), (.int .i64 (0 : Int)), (.bool true), (.bool false)])] : List AV)), .nils, .nils, .nils, .nils])] : List AV)[(0 : Int).toNat]?) fun y3 => (oB (rdE y3 0 true 6) fun z4 => (bif fitV (.st T_api_View) z4 then (oB (view_Zone (gS z4.cells 0) (gL z4.cells 1) (gL z4.cells 2) (gL z4.cells 3) (gL z4.cells 4) (gL z4.cells 5) ([97, 46, 101, 120, 97, 109, 112, 108, 101, 46] : List UInt8)) fun r5 => (bif hd ([(.agg [(.bool false), (.int .u64 (0 : Int)), (.int .u64 (167772160 : Int)), (.int .i64 (8 : Int)), (.bool false), (.bool true)]), (.agg [(.bool false), (.int .u64 (0 : Int)), (.int .u64 (0 : Int)), (.int .i64 (0 : Int)), (.bool true), (.bool false)])] : List AV) (([(.agg [(.bool false), (.int .u64 (0 : Int)), (.int .u64 (167772160 : Int)), (.int .i64 (8 : Int)), (.bool false), (.bool true)]), (.agg [(.bool false), (.int .u64 (0 : Int)), (.int .u64 (0 : Int)), (.int .i64 (0 : Int)), (.bool true), (.bool false)])] : List AV).length) then (oB (view_Match ([(.agg [(.bool false), (.int .u64 (0 : Int)), (.int .u64 (167772160 : Int)), (.int .i64 (8 : Int)), (.bool false), (.bool true)]), (.agg [(.bool false), (.int .u64 (0 : Int)), (.int .u64 (0 : Int)), (.int .i64 (0 : Int)), (.bool true), (.bool false)])] : List AV) false (0 : Int) (167772161 : Int)) fun r6 => (bif (!r6) then (bif hd ([(.agg [(.bool false), (.int .u64 (0 : Int)), (.int .u64 (167772160 : Int)), (.int .i64 (8 : Int)), (.bool false), (.bool true)]), (.agg [(.bool false), (.int .u64 (0 : Int)), (.int .u64 (0 : Int)), (.int .i64 (0 : Int)), (.bool true), (.bool false)])] : List AV) (([(.agg [(.bool false), (.int .u64 (0 : Int)), (.int .u64 (167772160 : Int)), (.int .i64 (8 : Int)), (.bool false), (.bool true)]), (.agg [(.bool false), (.int .u64 (0 : Int)), (.int .u64 (0 : Int)), (.int .i64 (0 : Int)), (.bool true), (.bool false)])] : List AV).length) then (oB (view_Match ([(.agg [(.bool false), (.int .u64 (0 : Int)), (.int .u64 (167772160 : Int)), (.int .i64 (8 : Int)), (.bool false), (.bool true)]), (.agg [(.bool false), (.int .u64 (0 : Int)), (.int .u64 (0 : Int)), (.int .i64 (0 : Int)), (.bool true), (.bool false)])] : List AV) false (0 : Int) (184549377 : Int)) fun r7 => (bif r7 then (bif hd ([(.agg [(.str ([105, 110, 115, 105, 100, 101] : List UInt8)), (.sl 6 ([(.agg [(.bool false), (.int .u64 (0 : Int)), (.int .u64 (167772160 : Int)), (.int .i64 (8 : Int)), (.bool false), (.bool false)])] : List AV)), .nils, .nils, (.sl 1 ([(.str ([46] : List UInt8)), (.str ([101, 120, 97, 109, 112, 108, 101, 46] : List UInt8))] : List AV)), .nils]), (.agg [(.str ([97, 108, 108] : List UInt8)), (.sl 6 ([(.agg [(.bool false), (.int .u64 (0 : Int)), (.int .u64 (0 : Int)), (.int .i64 (0 : Int)), (.bool true), (.bool false)])] : List AV)), .nils, .nils, .nils, .nils])] : List AV) (([(.agg [(.str ([105, 110, 115, 105, 100, 101] : List UInt8)), (.sl 6 ([(.agg [(.bool false), (.int .u64 (0 : Int)), (.int .u64 (167772160 : Int)), (.int .i64 (8 : Int)), (.bool false), (.bool false)])] : List AV)), .nils, .nils, (.sl 1 ([(.str ([46] : List UInt8)), (.str ([101, 120, 97, 109, 112, 108, 101, 46] : List UInt8))] : List AV)), .nils]), (.agg [(.str ([97, 108, 108] : List UInt8)), (.sl 6 ([(.agg [(.bool false), (.int .u64 (0 : Int)), (.int .u64 (0 : Int)), (.int .i64 (0 : Int)), (.bool true), (.bool false)])] : List AV)), .nils, .nils, .nils, .nils])] : List AV).length) then (oB (view_Check ([(.agg [(.str ([105, 110, 115, 105, 100, 101] : List UInt8)), (.sl 6 ([(.agg [(.bool false), (.int .u64 (0 : Int)), (.int .u64 (167772160 : Int)), (.int .i64 (8 : Int)), (.bool false), (.bool false)])] : List AV)), .nils, .nils, (.sl 1 ([(.str ([46] : List UInt8)), (.str ([101, 120, 97, 109, 112, 108, 101, 46] : List UInt8))] : List AV)), .nils]), (.agg [(.str ([97, 108, 108] : List UInt8)), (.sl 6 ([(.agg [(.bool false), (.int .u64 (0 : Int)), (.int .u64 (0 : Int)), (.int .i64 (0 : Int)), (.bool true), (.bool false)])] : List AV)), .nils, .nils, .nils, .nils])] : List AV)) fun r8 => (bif (r8 == (0 : Int)) then (bif hd ([(.agg [(.str ([73, 110, 115, 105, 100, 101] : List UInt8)), .nils, .nils, .nils, .nils, .nils])] : List AV) (([(.agg [(.str ([73, 110, 115, 105, 100, 101] : List UInt8)), .nils, .nils, .nils, .nils, .nils])] : List AV).length) then (oB (view_Check ([(.agg [(.str ([73, 110, 115, 105, 100, 101] : List UInt8)), .nils, .nils, .nils, .nils, .nils])] : List AV)) fun r9 => (some (((((((r9 == (2 : Int)) && (r1.1 == (0 : Int))) && r1.2) && (r2.1 == (1 : Int))) && r2.2) && (r5.1 == ([101, 120, 97, 109, 112, 108, 101, 46] : List UInt8))) && r5.2))) else none) else (some false))) else none) else (some false))) else none) else (some false))) else none)) else none))) else none) else none) else none)) else none)) else none) else none) else none) else none)
noncomputable def ddilaw25_awake := hull ddilaw25_awake_i
theorem ddilaw25_awake_eq : ddilaw25_awake = ddilaw25_awake_i := hull_eq _
noncomputable def a_ddilaw25_awake : AC Bool :=
  .seq (.reg [.op ⟨(some 0), (.mv (.c (.bool false))), none⟩]) (.seq (.reg [.op ⟨(some 13), (.build [(.bool false), (.int .u64 0), (.int .u64 0)] [(2, (1, (.c (.int .u64 167772160))))]), none⟩,
    .op ⟨(some 14), (.build [(.bool false), (.int .u64 0), (.int .u64 0), (.int .i64 0)] [(0, (3, (.t 13))), (3, (1, (.c (.int .i64 8))))]), none⟩,
    .op ⟨(some 15), (.build [(.bool false), (.int .u64 0), (.int .u64 0), (.int .i64 0), (.bool false), (.bool false)] [(0, (4, (.t 14)))]), none⟩,
    .op ⟨(some 1), (.alloc [(.bool false), (.int .u64 0), (.int .u64 0), (.int .i64 0), (.bool false), (.bool false)]), none⟩,
    .op ⟨none, (.store 6 (.t 1) (.t 15)), none⟩]) (.seq (.reg [.op ⟨(some 16), (.load true 6 (.t 1)), none⟩,
    .op ⟨(some 2), (.alloc [(.bool false), (.int .u64 0), (.int .u64 0), (.int .i64 0), (.bool false), (.bool false)]), none⟩,
    .op ⟨none, (.store 6 (.t 2) (.t 16)), none⟩]) (.seq (.reg [.op ⟨(some 17), (.fa 5 (.t 2)), none⟩,
    .op ⟨none, (.store 1 (.t 17) (.c (.bool true))), none⟩]) (.seq (.reg [.op ⟨(some 18), (.load true 6 (.t 1)), none⟩,
    .op ⟨(some 19), (.bsl 6 [(.t 18)]), none⟩,
    .op ⟨(some 20), (.bsl 1 [(.c (.str [46])), (.c (.str [101, 120, 97, 109, 112, 108, 101, 46]))]), none⟩,
    .op ⟨(some 21), (.build [(.str []), .nils, .nils, .nils, .nils, .nils] [(0, (1, (.c (.str [105, 110, 115, 105, 100, 101])))), (1, (1, (.t 19))), (4, (1, (.t 20)))]), none⟩,
    .op ⟨(some 22), (.build [(.bool false), (.int .u64 0), (.int .u64 0), (.int .i64 0), (.bool false), (.bool false)] [(4, (1, (.c (.bool true))))]), none⟩,
    .op ⟨(some 23), (.bsl 6 [(.t 22)]), none⟩,
    .op ⟨(some 24), (.build [(.str []), .nils, .nils, .nils, .nils, .nils] [(0, (1, (.c (.str [97, 108, 108])))), (1, (1, (.t 23)))]), none⟩,
    .op ⟨(some 25), (.bsl 6 [(.t 21), (.t 24)]), none⟩,
    .op ⟨(some 3), (.mv (.t 25)), none⟩]) (.seq (.reg [.op ⟨(some 26), (.build [(.bool false), (.int .u64 0), (.int .u64 0)] [(2, (1, (.c (.int .u64 167772161))))]), none⟩,
    .op ⟨(some 27), (.build [(.bool false), (.int .u64 0), (.int .u64 0)] [(2, (1, (.c (.int .u64 184549377))))]), none⟩,
    .op ⟨(some 4), (.alloc [(.bool false), (.int .u64 0), (.int .u64 0)]), none⟩,
    .op ⟨(some 5), (.alloc [(.bool false), (.int .u64 0), (.int .u64 0)]), none⟩,
    .op ⟨none, (.store 3 (.t 4) (.t 26)), none⟩,
    .op ⟨none, (.store 3 (.t 5) (.t 27)), none⟩]) (.seq (.reg [.op ⟨(some 29), (.mv (.t 3)), none⟩,
    .op ⟨(some 30), (.load true 3 (.t 4)), none⟩,
    .call ⟨(some 31), (.call 15 [(.t 29), (.t 30)]), none⟩ 15 ent_view_Select,
    .op ⟨(some 28), (.mv (.t 31)), none⟩,
    .op ⟨(some 32), (.ext (.t 28) 0), none⟩,
    .op ⟨(some 33), (.ext (.t 28) 1), none⟩,
    .op ⟨(some 6), (.mv (.t 32)), none⟩,
    .op ⟨(some 7), (.mv (.t 33)), none⟩]) (.seq (.reg [.op ⟨(some 35), (.mv (.t 3)), none⟩,
    .op ⟨(some 36), (.build [(.bool false), (.int .u64 0), (.int .u64 0)] [(0, (1, (.c (.bool true))))]), none⟩,
    .call ⟨(some 37), (.call 15 [(.t 35), (.t 36)]), none⟩ 15 ent_view_Select,
    .op ⟨(some 34), (.mv (.t 37)), none⟩,
    .op ⟨(some 38), (.ext (.t 34) 0), none⟩,
    .op ⟨(some 39), (.ext (.t 34) 1), none⟩,
    .op ⟨(some 8), (.mv (.t 38)), none⟩,
    .op ⟨(some 9), (.mv (.t 39)), none⟩]) (.seq (.reg [.op ⟨(some 41), (.mv (.t 3)), none⟩,
    .op ⟨(some 42), (.ia 6 (.t 41) (.c (.int .i64 0))), none⟩,
    .op ⟨(some 43), (.load true 6 (.t 42)), none⟩,
    .st (.eta 43 (.st T_api_View)),
    .call ⟨(some 44), (.call 17 [(.t 43), (.c (.str [97, 46, 101, 120, 97, 109, 112, 108, 101, 46]))]), none⟩ 17 ent_view_Zone,
    .op ⟨(some 40), (.mv (.t 44)), none⟩,
    .op ⟨(some 45), (.ext (.t 40) 0), none⟩,
    .op ⟨(some 46), (.ext (.t 40) 1), none⟩,
    .op ⟨(some 10), (.mv (.t 45)), none⟩,
    .op ⟨(some 11), (.mv (.t 46)), none⟩]) (.seq (.reg [.op ⟨(some 47), (.load true 6 (.t 2)), none⟩,
    .op ⟨(some 48), (.build [(.bool false), (.int .u64 0), (.int .u64 0), (.int .i64 0), (.bool false), (.bool false)] [(4, (1, (.c (.bool true))))]), none⟩,
    .op ⟨(some 49), (.bsl 6 [(.t 47), (.t 48)]), none⟩,
    .op ⟨(some 12), (.mv (.t 49)), none⟩]) (.seq (.reg [.op ⟨(some 50), (.mv (.t 12)), none⟩,
    .op ⟨(some 51), (.load true 3 (.t 4)), none⟩,
    .call ⟨(some 52), (.call 9 [(.t 50), (.t 51)]), none⟩ 9 ent_view_Match,
    .op ⟨(some 53), (.un .not (.t 52)), none⟩,
    .op ⟨(some 54), (.mv (.t 53)), none⟩,
    .op ⟨(some 55), (.mv (.t 12)), (some (54, true))⟩,
    .op ⟨(some 56), (.load true 3 (.t 5)), (some (54, true))⟩,
    .call ⟨(some 57), (.call 9 [(.t 55), (.t 56)]), (some (54, true))⟩ 9 ent_view_Match,
    .op ⟨(some 58), (.pick (.t 54) (.t 57) (.c (.bool false))), none⟩,
    .op ⟨(some 59), (.mv (.t 58)), none⟩,
    .op ⟨(some 60), (.mv (.t 3)), (some (59, true))⟩,
    .call ⟨(some 61), (.call 13 [(.t 60)]), (some (59, true))⟩ 13 ent_view_Check,
    .op ⟨(some 62), (.bin .eql (.t 61) (.c (.int .i64 0))), (some (59, true))⟩,
    .op ⟨(some 63), (.pick (.t 59) (.t 62) (.c (.bool false))), none⟩,
    .op ⟨(some 64), (.mv (.t 63)), none⟩,
    .op ⟨(some 65), (.build [(.str []), .nils, .nils, .nils, .nils, .nils] [(0, (1, (.c (.str [73, 110, 115, 105, 100, 101]))))]), (some (64, true))⟩,
    .op ⟨(some 66), (.bsl 6 [(.t 65)]), (some (64, true))⟩,
    .call ⟨(some 67), (.call 13 [(.t 66)]), (some (64, true))⟩ 13 ent_view_Check,
    .op ⟨(some 68), (.bin .eql (.t 67) (.c (.int .i64 2))), (some (64, true))⟩,
    .op ⟨(some 69), (.pick (.t 64) (.t 68) (.c (.bool false))), none⟩,
    .op ⟨(some 70), (.mv (.t 69)), none⟩,
    .grp 70 true [⟨(some 71), (.mv (.t 6)), (some (70, true))⟩, ⟨(some 72), (.bin .eql (.t 71) (.c (.int .i64 0))), (some (70, true))⟩] 73 (.t 72),
    .op ⟨(some 74), (.mv (.t 73)), none⟩,
    .grp 74 true [⟨(some 75), (.mv (.t 7)), (some (74, true))⟩] 76 (.t 75),
    .op ⟨(some 77), (.mv (.t 76)), none⟩,
    .grp 77 true [⟨(some 78), (.mv (.t 8)), (some (77, true))⟩, ⟨(some 79), (.bin .eql (.t 78) (.c (.int .i64 1))), (some (77, true))⟩] 80 (.t 79),
    .op ⟨(some 81), (.mv (.t 80)), none⟩,
    .grp 81 true [⟨(some 82), (.mv (.t 9)), (some (81, true))⟩] 83 (.t 82),
    .op ⟨(some 84), (.mv (.t 83)), none⟩,
    .grp 84 true [⟨(some 85), (.mv (.t 10)), (some (84, true))⟩, ⟨(some 86), (.bin .eql (.t 85) (.c (.str [101, 120, 97, 109, 112, 108, 101, 46]))), (some (84, true))⟩] 87 (.t 86),
    .op ⟨(some 88), (.mv (.t 87)), none⟩,
    .grp 88 true [⟨(some 89), (.mv (.t 11)), (some (88, true))⟩] 90 (.t 89),
    .op ⟨(some 0), (.mv (.t 90)), none⟩]) (.ret)))))))))))
theorem ok_ddilaw25_awake : AC.ok Tryd.prog (TIof Tryd.prog) 91 0 (kret [(.t 0)] dec_ddilaw25_awake) a_ddilaw25_awake := (And.intro True.intro (And.intro True.intro (And.intro True.intro (And.intro True.intro (And.intro True.intro (And.intro True.intro (And.intro (And.intro (EntOkB.ok k_view_Select) True.intro) (And.intro (And.intro (EntOkB.ok k_view_Select) True.intro) (And.intro (And.intro (EntOkB.ok k_view_Zone) True.intro) (And.intro True.intro (And.intro (And.intro (EntOkB.ok k_view_Match) (And.intro (EntOkB.ok k_view_Match) (And.intro (EntOkB.ok k_view_Check) (And.intro (EntOkB.ok k_view_Check) True.intro)))) True.intro)))))))))))
theorem t_ddilaw25_awake : den 0 (kret [(.t 0)] dec_ddilaw25_awake) a_ddilaw25_awake (envOf []) (memOf []) (kend (kret [(.t 0)] dec_ddilaw25_awake)) = ddilaw25_awake := by
  rw [ddilaw25_awake_eq]; kernel_rfl
theorem c_ddilaw25_awake : cFn (TIof Tryd.prog) Tryd.f11 = some ⟨91, [(.t 0)], scOf a_ddilaw25_awake⟩ := by kernel_rfl
noncomputable def ent_ddilaw25_awake {R : Type} (xs : List AV) (K : AV → Option R) : Option R := chk (fitS shp_ddilaw25_awake (entry xs) Mem.none) (oB (ddilaw25_awake) fun r => K (enc_ddilaw25_awake r))
theorem k_ddilaw25_awake {R : Type} : EntOkB Tryd.prog 11 (ent_ddilaw25_awake (R := R)) :=
  ent_of (F := fun xs => ddilaw25_awake) (enc := enc_ddilaw25_awake) tabOk follows Tryd.func11 (by kernel_rfl) c_ddilaw25_awake (fun z r h => by
    obtain ⟨h1, h2⟩ := cond_some h
    cases h2
    exact (etaRV_eq h1).symm) ok_ddilaw25_awake (er_of (by kernel_rfl)) shp_ddilaw25_awake (fun xs => t_ddilaw25_awake) (fun xs K r h => by
    unfold ent_ddilaw25_awake at h
    exact ⟨(chk_some h).1, oB_some (chk_some h).2⟩)

/-! ddi/ddilaw25.ViewMatches -/
def dec_ddilaw25_ViewMatches (z : AV) : Option Bool := cond (fitRV (.one .b) z) (some (aB z)) none
def enc_ddilaw25_ViewMatches (r : Bool) : AV := .bool r
def shp_ddilaw25_ViewMatches : Shp := ⟨[(0, .one (.l (.sl 6))), (1, .st [(.l .b), (.l (.i .u64)), (.l (.i .u64))])], []⟩
noncomputable def ddilaw25_ViewMatches_i (v0 : List AV) (v1_0 : Bool) (v1_1 : Int) (v1_2 : Int) : Option Bool :=
  (oB (cutI v0 none (some (if (70 : Int) < (v0.length : Int) then (70 : Int) else (v0.length : Int)))) fun s1 => (oB (view_Match s1 v1_0 v1_1 v1_2) fun r2 => (oB (ddiref25_Match s1 v1_0 v1_1 v1_2) fun r3 => (bif ((r2 == r3) && true) then (oB (ddilaw25_awake) fun r4 => (some r4)) else (some false)))))
noncomputable def ddilaw25_ViewMatches := hull ddilaw25_ViewMatches_i
theorem ddilaw25_ViewMatches_eq : ddilaw25_ViewMatches = ddilaw25_ViewMatches_i := hull_eq _
noncomputable def a_ddilaw25_ViewMatches : AC Bool :=
  .seq (.reg [.op ⟨(some 3), (.box (.t 1)), none⟩,
    .op ⟨(some 4), (.mv (.c (.bool false))), none⟩]) (.seq (.reg [.op ⟨(some 5), (.mv (.t 0)), none⟩,
    .op ⟨(some 6), (.mv (.t 0)), none⟩,
    .op ⟨(some 7), (.len false (.t 6)), none⟩,
    .op ⟨(some 8), (.mm false (.t 7) [(.c (.int .i64 70))]), none⟩,
    .op ⟨(some 9), (.slc 6 (.t 5) none (some (.t 8))), none⟩,
    .op ⟨(some 0), (.mv (.t 9)), none⟩]) (.seq (.draw [] [.op ⟨(some 10), (.mv (.t 0)), none⟩,
    .op ⟨(some 11), (.load true 3 (.t 3)), none⟩,
    .call ⟨(some 12), (.call 9 [(.t 10), (.t 11)]), none⟩ 9 ent_view_Match,
    .op ⟨(some 13), (.mv (.t 0)), none⟩,
    .op ⟨(some 14), (.load true 3 (.t 3)), none⟩] [.call ⟨(some 15), (.call 10 [(.t 13), (.t 14)]), none⟩ 10 ent_ddiref25_Match,
    .op ⟨(some 16), (.eq false false [.b] (.t 12) (.t 15)), none⟩,
    .op ⟨(some 17), (.mv (.t 16)), none⟩,
    .call ⟨(some 18), (.call 11 []), (some (17, true))⟩ 11 ent_ddilaw25_awake,
    .op ⟨(some 19), (.pick (.t 17) (.t 18) (.c (.bool false))), none⟩,
    .op ⟨(some 4), (.mv (.t 19)), none⟩]) (.ret)))
theorem ok_ddilaw25_ViewMatches : AC.ok Tryd.prog (TIof Tryd.prog) 20 0 (kret [(.t 4)] dec_ddilaw25_ViewMatches) a_ddilaw25_ViewMatches := (And.intro True.intro (And.intro True.intro (And.intro (And.intro (And.intro (EntOkB.ok k_view_Match) True.intro) (And.intro (EntOkB.ok k_ddiref25_Match) (And.intro (EntOkB.ok k_ddilaw25_awake) True.intro))) True.intro)))
theorem t_ddilaw25_ViewMatches (v0 : List AV) (v1_0 : Bool) (v1_1 : Int) (v1_2 : Int) : den 0 (kret [(.t 4)] dec_ddilaw25_ViewMatches) a_ddilaw25_ViewMatches (envOf [(0, (.sl 6 v0)), (1, (.agg [(.bool v1_0), (.int .u64 v1_1), (.int .u64 v1_2)]))]) (memOf []) (kend (kret [(.t 4)] dec_ddilaw25_ViewMatches)) = ddilaw25_ViewMatches v0 v1_0 v1_1 v1_2 := by
  rw [ddilaw25_ViewMatches_eq]; kernel_rfl
theorem c_ddilaw25_ViewMatches : cFn (TIof Tryd.prog) Tryd.f3 = some ⟨20, [(.t 4)], scOf a_ddilaw25_ViewMatches⟩ := by kernel_rfl
noncomputable def ent_ddilaw25_ViewMatches {R : Type} (xs : List AV) (K : AV → Option R) : Option R := chk (fitS shp_ddilaw25_ViewMatches (entry xs) Mem.none) (oB (ddilaw25_ViewMatches (gL [(entry xs) 0] 0) (gB ((entry xs) 1).cells 0) (gI ((entry xs) 1).cells 1) (gI ((entry xs) 1).cells 2)) fun r => K (enc_ddilaw25_ViewMatches r))
theorem k_ddilaw25_ViewMatches {R : Type} : EntOkB Tryd.prog 3 (ent_ddilaw25_ViewMatches (R := R)) :=
  ent_of (F := fun xs => ddilaw25_ViewMatches (gL [(entry xs) 0] 0) (gB ((entry xs) 1).cells 0) (gI ((entry xs) 1).cells 1) (gI ((entry xs) 1).cells 2)) (enc := enc_ddilaw25_ViewMatches) tabOk follows Tryd.func3 (by kernel_rfl) c_ddilaw25_ViewMatches (fun z r h => by
    obtain ⟨h1, h2⟩ := cond_some h
    cases h2
    exact (etaRV_eq h1).symm) ok_ddilaw25_ViewMatches (er_of (by kernel_rfl)) shp_ddilaw25_ViewMatches (fun xs => t_ddilaw25_ViewMatches (gL [(entry xs) 0] 0) (gB ((entry xs) 1).cells 0) (gI ((entry xs) 1).cells 1) (gI ((entry xs) 1).cells 2)) (fun xs K r h => by
    unfold ent_ddilaw25_ViewMatches at h
    exact ⟨(chk_some h).1, oB_some (chk_some h).2⟩)

/-! ddi/ddilaw25.few -/
def dec_ddilaw25_few (z : AV) : Option (List AV) := cond (fitRV (.one (.fr true 6)) z) (some (aL z)) none
def enc_ddilaw25_few (r : (List AV)) : AV := .fr true 6 r
def shp_ddilaw25_few_L27 : Shp := ⟨[(0, .one (.l (.sl 6))), (3, .one (.own 0)), (4, .one (.l (.i .i64))), (5, .one (.ptr 1 0)), (6, .one (.own 2)), (7, .one (.l (.i .i64)))], [.arr true 6, .box true [(.l .s), (.l (.sl 6)), (.l (.sl 6)), (.l (.sl 6)), (.l (.sl 1)), (.l (.sl 8))], .arr true 1]⟩
noncomputable def ddilaw25_few_L27_b  (v0 : List AV) (v4 : Int) (v7 : Int) (a0 : List AV) (b1_0 : List UInt8) (b1_1 : List AV) (b1_2 : List AV) (b1_3 : List AV) (b1_4 : List AV) (b1_5 : List AV) (a2 : List AV) (next : Int → (List AV) → Option (List AV)) (kx2 : (List AV) → Option (List AV)) : Option (List AV) :=
  (bif ((decide (v7 < (b1_4.length : Int))) && (decide (v7 < (40 : Int)))) then (oB (ixB b1_4 v7) fun y1 => (bif fitC [.s] y1.cells then (oB (ixB b1_4 v7) fun y2 => (bif fitC [.s] y2.cells then (oB (cutI (gS y1.cells 0) none (some (if (300 : Int) < ((gS y2.cells 0).length : Int) then (300 : Int) else ((gS y2.cells 0).length : Int)))) fun s3 => (bif hd a2 a2.length then (bif decide ((a2.length + ([(.str s3)] : List AV).length) * 16 ≤ 140737488355328) then (next (IntKind.i64.wrap (v7 + (1 : Int))) (a2 ++ ([(.str s3)] : List AV))) else none) else none)) else none)) else none)) else (kx2 a2))
noncomputable def ddilaw25_few_L27_i  (v0 : List AV) (v4 : Int) (a0 : List AV) (b1_0 : List UInt8) (b1_1 : List AV) (b1_2 : List AV) (b1_3 : List AV) (b1_4 : List AV) (b1_5 : List AV) (kx2 : (List AV) → Option (List AV)) : Nat → Int → (List AV) → Option (List AV)
  | 0 => (fun _ _ => none)
  | n + 1 => (fun v7 a2 => ddilaw25_few_L27_b v0 v4 v7 a0 b1_0 b1_1 b1_2 b1_3 b1_4 b1_5 a2 (ddilaw25_few_L27_i v0 v4 a0 b1_0 b1_1 b1_2 b1_3 b1_4 b1_5 kx2 n) kx2)
noncomputable def ddilaw25_few_L27 := hull (ddilaw25_few_L27_i)
theorem ddilaw25_few_L27_eq : ddilaw25_few_L27 = ddilaw25_few_L27_i := hull_eq _
noncomputable def a_ddilaw25_few_L27 : AC (List AV) :=
  .seq (.seq (.reg [.op ⟨(some 30), (.mv (.t 7)), none⟩,
    .op ⟨(some 31), (.fa 4 (.t 5)), none⟩,
    .op ⟨(some 32), (.load false 1 (.t 31)), none⟩,
    .op ⟨(some 33), (.len false (.t 32)), none⟩,
    .op ⟨(some 34), (.bin .lss (.t 30) (.t 33)), none⟩,
    .op ⟨(some 35), (.mv (.t 34)), none⟩,
    .grp 35 true [⟨(some 36), (.mv (.t 7)), (some (35, true))⟩, ⟨(some 37), (.bin .lss (.t 36) (.c (.int .i64 40))), (some (35, true))⟩] 38 (.t 37)]) (.cond (.t 38) (.skip) (.seq (.view [.sel [0, 3, 4, 5, 6] [0, 1, 2]]) (.exit 2)))) (.seq (.block 3 (.draw [] [.op ⟨(some 41), (.mv (.t 6)), none⟩,
    .op ⟨(some 42), (.fa 4 (.t 5)), none⟩,
    .op ⟨(some 43), (.load false 1 (.t 42)), none⟩,
    .op ⟨(some 44), (.mv (.t 7)), none⟩,
    .op ⟨(some 45), (.ia 1 (.t 43) (.t 44)), none⟩,
    .et 45 [.s],
    .op ⟨(some 46), (.load false 1 (.t 45)), none⟩,
    .op ⟨(some 47), (.fa 4 (.t 5)), none⟩,
    .op ⟨(some 48), (.load false 1 (.t 47)), none⟩,
    .op ⟨(some 49), (.mv (.t 7)), none⟩,
    .op ⟨(some 50), (.ia 1 (.t 48) (.t 49)), none⟩,
    .et 50 [.s],
    .op ⟨(some 51), (.load false 1 (.t 50)), none⟩,
    .op ⟨(some 52), (.len true (.t 51)), none⟩,
    .op ⟨(some 53), (.mm false (.t 52) [(.c (.int .i64 300))]), none⟩,
    .op ⟨(some 54), (.slcs (.t 46) none (some (.t 53))), none⟩,
    .op ⟨(some 55), (.bsl 1 [(.t 54)]), none⟩] [.op ⟨(some 56), (.app 1 16 (.t 41) (.t 55)), none⟩,
    .op ⟨(some 6), (.mv (.t 56)), none⟩])) (.seq (.reg [.op ⟨(some 39), (.mv (.t 7)), none⟩,
    .op ⟨(some 40), (.bin .add (.t 39) (.c (.int .i64 1))), none⟩,
    .op ⟨(some 7), (.mv (.t 40)), none⟩]) (.view [.sel [0, 3, 4, 5, 6, 7] [0, 1, 2]])))
theorem ok_ddilaw25_few_L27 : AC.ok Tryd.prog (TIof Tryd.prog) 89 0 (kret [(.t 2)] dec_ddilaw25_few) a_ddilaw25_few_L27 := (And.intro (And.intro True.intro (And.intro True.intro (And.intro True.intro True.intro))) (And.intro (And.intro True.intro True.intro) (And.intro True.intro True.intro)))
theorem t_ddilaw25_few_L27_b (v0 : List AV) (v4 : Int) (v7 : Int) (a0 : List AV) (b1_0 : List UInt8) (b1_1 : List AV) (b1_2 : List AV) (b1_3 : List AV) (b1_4 : List AV) (b1_5 : List AV) (a2 : List AV) (K : Ex → Env → Mem → Option (List AV)) : den 0 (kret [(.t 2)] dec_ddilaw25_few) a_ddilaw25_few_L27 (envOf [(0, (.sl 6 v0)), (3, (.own 0 a0.length)), (4, (.int .i64 v4)), (5, (.ptr 1 0)), (6, (.own 2 a2.length)), (7, (.int .i64 v7))]) (memOf [(some (.arr true 6 a0)), (some (.box true [(.str b1_0), (.sl 6 b1_1), (.sl 6 b1_2), (.sl 6 b1_3), (.sl 1 b1_4), (.sl 8 b1_5)])), (some (.arr true 1 a2))]) K = ddilaw25_few_L27_b v0 v4 v7 a0 b1_0 b1_1 b1_2 b1_3 b1_4 b1_5 a2 (fun z_v7 z_a2 => K .norm (envOf [(0, (.sl 6 v0)), (3, (.own 0 a0.length)), (4, (.int .i64 v4)), (5, (.ptr 1 0)), (6, (.own 2 z_a2.length)), (7, (.int .i64 z_v7))]) (memOf [(some (.arr true 6 a0)), (some (.box true [(.str b1_0), (.sl 6 b1_1), (.sl 6 b1_2), (.sl 6 b1_3), (.sl 1 b1_4), (.sl 8 b1_5)])), (some (.arr true 1 z_a2))])) (fun z_a2 => K (.exit 2) (envOf [(0, (.sl 6 v0)), (3, (.own 0 a0.length)), (4, (.int .i64 v4)), (5, (.ptr 1 0)), (6, (.own 2 z_a2.length))]) (memOf [(some (.arr true 6 a0)), (some (.box true [(.str b1_0), (.sl 6 b1_1), (.sl 6 b1_2), (.sl 6 b1_3), (.sl 1 b1_4), (.sl 8 b1_5)])), (some (.arr true 1 z_a2))])) := by kernel_rfl
theorem t_ddilaw25_few_L27 (v0 : List AV) (v4 : Int) (a0 : List AV) (b1_0 : List UInt8) (b1_1 : List AV) (b1_2 : List AV) (b1_3 : List AV) (b1_4 : List AV) (b1_5 : List AV) (K : Ex → Env → Mem → Option (List AV)) : ∀ (n : Nat) (v7 : Int) (a2 : List AV), iterD (den 0 (kret [(.t 2)] dec_ddilaw25_few) a_ddilaw25_few_L27) n (envOf [(0, (.sl 6 v0)), (3, (.own 0 a0.length)), (4, (.int .i64 v4)), (5, (.ptr 1 0)), (6, (.own 2 a2.length)), (7, (.int .i64 v7))]) (memOf [(some (.arr true 6 a0)), (some (.box true [(.str b1_0), (.sl 6 b1_1), (.sl 6 b1_2), (.sl 6 b1_3), (.sl 1 b1_4), (.sl 8 b1_5)])), (some (.arr true 1 a2))]) K = ddilaw25_few_L27 v0 v4 a0 b1_0 b1_1 b1_2 b1_3 b1_4 b1_5 (fun z_a2 => K (.exit 2) (envOf [(0, (.sl 6 v0)), (3, (.own 0 a0.length)), (4, (.int .i64 v4)), (5, (.ptr 1 0)), (6, (.own 2 z_a2.length))]) (memOf [(some (.arr true 6 a0)), (some (.box true [(.str b1_0), (.sl 6 b1_1), (.sl 6 b1_2), (.sl 6 b1_3), (.sl 1 b1_4), (.sl 8 b1_5)])), (some (.arr true 1 z_a2))])) n v7 a2 := by
  rw [ddilaw25_few_L27_eq]
  intro n
  induction n with
  | zero => intros; rfl
  | succ n ih =>
    intro v7 a2
    exact (t_ddilaw25_few_L27_b v0 v4 v7 a0 b1_0 b1_1 b1_2 b1_3 b1_4 b1_5 a2 (itK (den 0 (kret [(.t 2)] dec_ddilaw25_few) a_ddilaw25_few_L27) n K)).trans (congrArg (fun q => ddilaw25_few_L27_b v0 v4 v7 a0 b1_0 b1_1 b1_2 b1_3 b1_4 b1_5 a2 q (fun z_a2 => K (.exit 2) (envOf [(0, (.sl 6 v0)), (3, (.own 0 a0.length)), (4, (.int .i64 v4)), (5, (.ptr 1 0)), (6, (.own 2 z_a2.length))]) (memOf [(some (.arr true 6 a0)), (some (.box true [(.str b1_0), (.sl 6 b1_1), (.sl 6 b1_2), (.sl 6 b1_3), (.sl 1 b1_4), (.sl 8 b1_5)])), (some (.arr true 1 z_a2))]))) (funext fun v7 => funext fun a2 => ih v7 a2))
noncomputable def s_ddilaw25_few_L27 : Env → Mem → (Ex → Env → Mem → Option (List AV)) → Option (List AV) := fun t m K => chk (fitS0 shp_ddilaw25_few_L27 t m) (cond (hdS shp_ddilaw25_few_L27 t m) (ddilaw25_few_L27 (gL [t 0] 0) (gI [t 4] 0) (arL (m.s 0)) (gS (bxC (m.s 1)) 0) (gL (bxC (m.s 1)) 1) (gL (bxC (m.s 1)) 2) (gL (bxC (m.s 1)) 3) (gL (bxC (m.s 1)) 4) (gL (bxC (m.s 1)) 5) (fun z_a2 => K (.exit 2) (envOf [(0, (.sl 6 (gL [t 0] 0))), (3, (.own 0 ((arL (m.s 0)).length))), (4, (.int .i64 (gI [t 4] 0))), (5, (.ptr 1 0)), (6, (.own 2 z_a2.length))]) (memOf [(some (.arr true 6 (arL (m.s 0)))), (some (.box true [(.str (gS (bxC (m.s 1)) 0)), (.sl 6 (gL (bxC (m.s 1)) 1)), (.sl 6 (gL (bxC (m.s 1)) 2)), (.sl 6 (gL (bxC (m.s 1)) 3)), (.sl 1 (gL (bxC (m.s 1)) 4)), (.sl 8 (gL (bxC (m.s 1)) 5))])), (some (.arr true 1 z_a2))])) FU (gI [t 7] 0) (arL (m.s 2))) none)
theorem o_ddilaw25_few_L27 : SubOk Tryd.prog (TIof Tryd.prog) 89 0 (kret [(.t 2)] dec_ddilaw25_few) (.loop (scOf a_ddilaw25_few_L27)) s_ddilaw25_few_L27 :=
  loop_of tabOk follows ok_ddilaw25_few_L27 (er_of (by kernel_rfl)) shp_ddilaw25_few_L27 (fun t m K => congrArg (fun z => chk (fitS0 shp_ddilaw25_few_L27 t m) (cond (hdS shp_ddilaw25_few_L27 t m) z none)) (t_ddilaw25_few_L27 (gL [t 0] 0) (gI [t 4] 0) (arL (m.s 0)) (gS (bxC (m.s 1)) 0) (gL (bxC (m.s 1)) 1) (gL (bxC (m.s 1)) 2) (gL (bxC (m.s 1)) 3) (gL (bxC (m.s 1)) 4) (gL (bxC (m.s 1)) 5) K FU (gI [t 7] 0) (arL (m.s 2))).symm)
def shp_ddilaw25_few_L8 : Shp := ⟨[(0, .one (.l (.sl 6))), (3, .one (.own 0)), (4, .one (.l (.i .i64)))], [.arr true 6]⟩
noncomputable def ddilaw25_few_L8_b  (v0 : List AV) (v4 : Int) (a0 : List AV) (next : Int → (List AV) → Option (List AV)) (kx0 : (List AV) → Option (List AV)) : Option (List AV) :=
  (bif ((decide (v4 < (v0.length : Int))) && (decide (v4 < (10 : Int)))) then (oB (ixB v0 v4) fun y1 => (bif fitC T_api_View y1.cells then (oB (cutI (gS y1.cells 0) none (some (if (300 : Int) < ((gS y1.cells 0).length : Int) then (300 : Int) else ((gS y1.cells 0).length : Int)))) fun s2 => (bif (hd a0 (a0.length) && (hd ([] : List AV) (([] : List AV).length) && true)) then (ddilaw25_few_L27 v0 v4 a0 s2 (gL y1.cells 1) (gL y1.cells 2) (gL y1.cells 3) (gL y1.cells 4) (gL y1.cells 5) (fun a2q3 => (oB (cutI (gL y1.cells 1) none (some (if (70 : Int) < ((gL y1.cells 1).length : Int) then (70 : Int) else ((gL y1.cells 1).length : Int)))) fun s4 => (oB (cutI (gL y1.cells 2) none (some (if (70 : Int) < ((gL y1.cells 2).length : Int) then (70 : Int) else ((gL y1.cells 2).length : Int)))) fun s5 => (oB (cutI (gL y1.cells 3) none (some (if (70 : Int) < ((gL y1.cells 3).length : Int) then (70 : Int) else ((gL y1.cells 3).length : Int)))) fun s6 => (bif hd a2q3 a2q3.length then (bif hd a0 a0.length then (bif hd ([(.agg [(.str s2), (.sl 6 s4), (.sl 6 s5), (.sl 6 s6), (.sl 1 a2q3), .nils])] : List AV) (([(.agg [(.str s2), (.sl 6 s4), (.sl 6 s5), (.sl 6 s6), (.sl 1 a2q3), .nils])] : List AV).length) then (bif decide ((a0.length + ([(.agg [(.str s2), (.sl 6 s4), (.sl 6 s5), (.sl 6 s6), (.sl 1 a2q3), .nils])] : List AV).length) * 136 ≤ 140737488355328) then (next (IntKind.i64.wrap (v4 + (1 : Int))) (a0 ++ ([(.agg [(.str s2), (.sl 6 s4), (.sl 6 s5), (.sl 6 s6), (.sl 1 a2q3), .nils])] : List AV))) else none) else none) else none) else none))))) FU (0 : Int) ([] : List AV)) else none)) else none)) else (kx0 a0))
noncomputable def ddilaw25_few_L8_i  (v0 : List AV) (kx0 : (List AV) → Option (List AV)) : Nat → Int → (List AV) → Option (List AV)
  | 0 => (fun _ _ => none)
  | n + 1 => (fun v4 a0 => ddilaw25_few_L8_b v0 v4 a0 (ddilaw25_few_L8_i v0 kx0 n) kx0)
noncomputable def ddilaw25_few_L8 := hull (ddilaw25_few_L8_i)
theorem ddilaw25_few_L8_eq : ddilaw25_few_L8 = ddilaw25_few_L8_i := hull_eq _
noncomputable def a_ddilaw25_few_L8 : AC (List AV) :=
  .seq (.seq (.reg [.op ⟨(some 8), (.mv (.t 4)), none⟩,
    .op ⟨(some 9), (.mv (.t 0)), none⟩,
    .op ⟨(some 10), (.len false (.t 9)), none⟩,
    .op ⟨(some 11), (.bin .lss (.t 8) (.t 10)), none⟩,
    .op ⟨(some 12), (.mv (.t 11)), none⟩,
    .grp 12 true [⟨(some 13), (.mv (.t 4)), (some (12, true))⟩, ⟨(some 14), (.bin .lss (.t 13) (.c (.int .i64 10))), (some (12, true))⟩] 15 (.t 14)]) (.cond (.t 15) (.skip) (.seq (.view [.sel [3] [0]]) (.exit 0)))) (.seq (.block 1 (.seq (.reg [.op ⟨(some 18), (.mv (.t 0)), none⟩,
    .op ⟨(some 19), (.mv (.t 4)), none⟩,
    .op ⟨(some 20), (.ia 6 (.t 18) (.t 19)), none⟩,
    .st (.etac 20 T_api_View),
    .op ⟨(some 21), (.load true 6 (.t 20)), none⟩,
    .op ⟨(some 5), (.alloc [(.str []), .nils, .nils, .nils, .nils, .nils]), none⟩,
    .op ⟨none, (.store 6 (.t 5) (.t 21)), none⟩]) (.seq (.reg [.op ⟨(some 22), (.fa 0 (.t 5)), none⟩,
    .op ⟨(some 23), (.load false 1 (.t 22)), none⟩,
    .op ⟨(some 24), (.fa 0 (.t 5)), none⟩,
    .op ⟨(some 25), (.load false 1 (.t 24)), none⟩,
    .op ⟨(some 26), (.len true (.t 25)), none⟩,
    .op ⟨(some 27), (.mm false (.t 26) [(.c (.int .i64 300))]), none⟩,
    .op ⟨(some 28), (.slcs (.t 23) none (some (.t 27))), none⟩,
    .op ⟨(some 29), (.fa 0 (.t 5)), none⟩,
    .op ⟨none, (.store 1 (.t 29) (.t 28)), none⟩]) (.seq (.reg [.op ⟨(some 6), (.mv (.c .nils)), none⟩]) (.seq (.seq (.reg [.op ⟨(some 7), (.mv (.c (.int .i64 0))), none⟩]) (.block 2 (.seq (.view [.own 6 1, .sel [0, 3, 4, 5, 6, 7] [0, 1, 2]]) (.sub (.loop (scOf a_ddilaw25_few_L27)) s_ddilaw25_few_L27)))) (.seq (.reg [.op ⟨(some 57), (.mv (.t 6)), none⟩,
    .op ⟨(some 58), (.fa 4 (.t 5)), none⟩,
    .op ⟨none, (.store 1 (.t 58) (.t 57)), none⟩]) (.seq (.reg [.op ⟨(some 59), (.fa 5 (.t 5)), none⟩,
    .op ⟨none, (.store 1 (.t 59) (.c .nils)), none⟩]) (.seq (.reg [.op ⟨(some 60), (.fa 1 (.t 5)), none⟩,
    .op ⟨(some 61), (.load false 1 (.t 60)), none⟩,
    .op ⟨(some 62), (.fa 1 (.t 5)), none⟩,
    .op ⟨(some 63), (.load false 1 (.t 62)), none⟩,
    .op ⟨(some 64), (.len false (.t 63)), none⟩,
    .op ⟨(some 65), (.mm false (.t 64) [(.c (.int .i64 70))]), none⟩,
    .op ⟨(some 66), (.slc 6 (.t 61) none (some (.t 65))), none⟩,
    .op ⟨(some 67), (.fa 1 (.t 5)), none⟩,
    .op ⟨none, (.store 1 (.t 67) (.t 66)), none⟩]) (.seq (.reg [.op ⟨(some 68), (.fa 2 (.t 5)), none⟩,
    .op ⟨(some 69), (.load false 1 (.t 68)), none⟩,
    .op ⟨(some 70), (.fa 2 (.t 5)), none⟩,
    .op ⟨(some 71), (.load false 1 (.t 70)), none⟩,
    .op ⟨(some 72), (.len false (.t 71)), none⟩,
    .op ⟨(some 73), (.mm false (.t 72) [(.c (.int .i64 70))]), none⟩,
    .op ⟨(some 74), (.slc 6 (.t 69) none (some (.t 73))), none⟩,
    .op ⟨(some 75), (.fa 2 (.t 5)), none⟩,
    .op ⟨none, (.store 1 (.t 75) (.t 74)), none⟩]) (.seq (.reg [.op ⟨(some 76), (.fa 3 (.t 5)), none⟩,
    .op ⟨(some 77), (.load false 1 (.t 76)), none⟩,
    .op ⟨(some 78), (.fa 3 (.t 5)), none⟩,
    .op ⟨(some 79), (.load false 1 (.t 78)), none⟩,
    .op ⟨(some 80), (.len false (.t 79)), none⟩,
    .op ⟨(some 81), (.mm false (.t 80) [(.c (.int .i64 70))]), none⟩,
    .op ⟨(some 82), (.slc 6 (.t 77) none (some (.t 81))), none⟩,
    .op ⟨(some 83), (.fa 3 (.t 5)), none⟩,
    .op ⟨none, (.store 1 (.t 83) (.t 82)), none⟩]) (.reg [.op ⟨(some 84), (.mv (.t 3)), none⟩,
    .op ⟨(some 85), (.load true 6 (.t 5)), none⟩,
    .op ⟨(some 86), (.bsl 6 [(.t 85)]), none⟩,
    .op ⟨(some 87), (.app 6 136 (.t 84) (.t 86)), none⟩,
    .op ⟨(some 3), (.mv (.t 87)), none⟩]))))))))))) (.seq (.reg [.op ⟨(some 16), (.mv (.t 4)), none⟩,
    .op ⟨(some 17), (.bin .add (.t 16) (.c (.int .i64 1))), none⟩,
    .op ⟨(some 4), (.mv (.t 17)), none⟩]) (.view [.sel [0, 3, 4] [0]])))
theorem ok_ddilaw25_few_L8 : AC.ok Tryd.prog (TIof Tryd.prog) 89 0 (kret [(.t 2)] dec_ddilaw25_few) a_ddilaw25_few_L8 := (And.intro (And.intro True.intro (And.intro True.intro (And.intro True.intro True.intro))) (And.intro (And.intro True.intro (And.intro True.intro (And.intro True.intro (And.intro (And.intro True.intro (And.intro True.intro o_ddilaw25_few_L27)) (And.intro True.intro (And.intro True.intro (And.intro True.intro (And.intro True.intro (And.intro True.intro True.intro))))))))) (And.intro True.intro True.intro)))
theorem t_ddilaw25_few_L8_b (v0 : List AV) (v4 : Int) (a0 : List AV) (K : Ex → Env → Mem → Option (List AV)) : den 0 (kret [(.t 2)] dec_ddilaw25_few) a_ddilaw25_few_L8 (envOf [(0, (.sl 6 v0)), (3, (.own 0 a0.length)), (4, (.int .i64 v4))]) (memOf [(some (.arr true 6 a0))]) K = ddilaw25_few_L8_b v0 v4 a0 (fun z_v4 z_a0 => K .norm (envOf [(0, (.sl 6 v0)), (3, (.own 0 z_a0.length)), (4, (.int .i64 z_v4))]) (memOf [(some (.arr true 6 z_a0))])) (fun z_a0 => K (.exit 0) (envOf [(3, (.own 0 z_a0.length))]) (memOf [(some (.arr true 6 z_a0))])) := by kernel_rfl
theorem t_ddilaw25_few_L8 (v0 : List AV) (K : Ex → Env → Mem → Option (List AV)) : ∀ (n : Nat) (v4 : Int) (a0 : List AV), iterD (den 0 (kret [(.t 2)] dec_ddilaw25_few) a_ddilaw25_few_L8) n (envOf [(0, (.sl 6 v0)), (3, (.own 0 a0.length)), (4, (.int .i64 v4))]) (memOf [(some (.arr true 6 a0))]) K = ddilaw25_few_L8 v0 (fun z_a0 => K (.exit 0) (envOf [(3, (.own 0 z_a0.length))]) (memOf [(some (.arr true 6 z_a0))])) n v4 a0 := by
  rw [ddilaw25_few_L8_eq]
  intro n
  induction n with
  | zero => intros; rfl
  | succ n ih =>
    intro v4 a0
    exact (t_ddilaw25_few_L8_b v0 v4 a0 (itK (den 0 (kret [(.t 2)] dec_ddilaw25_few) a_ddilaw25_few_L8) n K)).trans (congrArg (fun q => ddilaw25_few_L8_b v0 v4 a0 q (fun z_a0 => K (.exit 0) (envOf [(3, (.own 0 z_a0.length))]) (memOf [(some (.arr true 6 z_a0))]))) (funext fun v4 => funext fun a0 => ih v4 a0))
noncomputable def s_ddilaw25_few_L8 : Env → Mem → (Ex → Env → Mem → Option (List AV)) → Option (List AV) := fun t m K => chk (fitS0 shp_ddilaw25_few_L8 t m) (cond (hdS shp_ddilaw25_few_L8 t m) (ddilaw25_few_L8 (gL [t 0] 0) (fun z_a0 => K (.exit 0) (envOf [(3, (.own 0 z_a0.length))]) (memOf [(some (.arr true 6 z_a0))])) FU (gI [t 4] 0) (arL (m.s 0))) none)
theorem o_ddilaw25_few_L8 : SubOk Tryd.prog (TIof Tryd.prog) 89 0 (kret [(.t 2)] dec_ddilaw25_few) (.loop (scOf a_ddilaw25_few_L8)) s_ddilaw25_few_L8 :=
  loop_of tabOk follows ok_ddilaw25_few_L8 (er_of (by kernel_rfl)) shp_ddilaw25_few_L8 (fun t m K => congrArg (fun z => chk (fitS0 shp_ddilaw25_few_L8 t m) (cond (hdS shp_ddilaw25_few_L8 t m) z none)) (t_ddilaw25_few_L8 (gL [t 0] 0) K FU (gI [t 4] 0) (arL (m.s 0))).symm)
def shp_ddilaw25_few : Shp := ⟨[(0, .one (.l (.sl 6)))], []⟩
noncomputable def ddilaw25_few_i (v0 : List AV) : Option (List AV) :=
  (bif (hd ([] : List AV) (([] : List AV).length) && true) then (ddilaw25_few_L8 v0 (fun a0q1 => (bif hd a0q1 a0q1.length then (some a0q1) else none)) FU (0 : Int) ([] : List AV)) else none)
noncomputable def ddilaw25_few := hull ddilaw25_few_i
theorem ddilaw25_few_eq : ddilaw25_few = ddilaw25_few_i := hull_eq _
noncomputable def a_ddilaw25_few : AC (List AV) :=
  .seq (.reg [.op ⟨(some 2), (.mv (.c .nils)), none⟩]) (.seq (.reg [.op ⟨(some 3), (.mv (.c .nils)), none⟩]) (.seq (.seq (.reg [.op ⟨(some 4), (.mv (.c (.int .i64 0))), none⟩]) (.block 0 (.seq (.view [.own 3 6, .sel [0, 3, 4] [0]]) (.sub (.loop (scOf a_ddilaw25_few_L8)) s_ddilaw25_few_L8)))) (.seq (.reg [.op ⟨(some 88), (.mv (.t 3)), none⟩,
    .op ⟨(some 2), (.mv (.t 88)), none⟩]) (.ret))))
theorem ok_ddilaw25_few : AC.ok Tryd.prog (TIof Tryd.prog) 89 0 (kret [(.t 2)] dec_ddilaw25_few) a_ddilaw25_few := (And.intro True.intro (And.intro True.intro (And.intro (And.intro True.intro (And.intro True.intro o_ddilaw25_few_L8)) (And.intro True.intro True.intro))))
theorem t_ddilaw25_few (v0 : List AV) : den 0 (kret [(.t 2)] dec_ddilaw25_few) a_ddilaw25_few (envOf [(0, (.sl 6 v0))]) (memOf []) (kend (kret [(.t 2)] dec_ddilaw25_few)) = ddilaw25_few v0 := by
  rw [ddilaw25_few_eq]; kernel_rfl
theorem c_ddilaw25_few : cFn (TIof Tryd.prog) Tryd.f12 = some ⟨89, [(.t 2)], scOf a_ddilaw25_few⟩ := by kernel_rfl
noncomputable def ent_ddilaw25_few {R : Type} (xs : List AV) (K : AV → Option R) : Option R := chk (fitS shp_ddilaw25_few (entry xs) Mem.none) (oB (ddilaw25_few (gL [(entry xs) 0] 0)) fun r => K (enc_ddilaw25_few r))
theorem k_ddilaw25_few {R : Type} : EntOkB Tryd.prog 12 (ent_ddilaw25_few (R := R)) :=
  ent_of (F := fun xs => ddilaw25_few (gL [(entry xs) 0] 0)) (enc := enc_ddilaw25_few) tabOk follows Tryd.func12 (by kernel_rfl) c_ddilaw25_few (fun z r h => by
    obtain ⟨h1, h2⟩ := cond_some h
    cases h2
    exact (etaRV_eq h1).symm) ok_ddilaw25_few (er_of (by kernel_rfl)) shp_ddilaw25_few (fun xs => t_ddilaw25_few (gL [(entry xs) 0] 0)) (fun xs K r h => by
    unfold ent_ddilaw25_few at h
    exact ⟨(chk_some h).1, oB_some (chk_some h).2⟩)

def X_api_View : List LT := [.s, .op, .op, .op, .op, .op]

/-! ddi/ddiref25.isName -/
def dec_ddiref25_isName (z : AV) : Option Bool := cond (fitRV (.one .b) z) (some (aB z)) none
def enc_ddiref25_isName (r : Bool) : AV := .bool r
def shp_ddiref25_isName_J26 : Shp := ⟨[(0, .one (.l .s)), (3, .one (.l (.i .i64))), (4, .one (.l (.i .u8)))], []⟩
noncomputable def ddiref25_isName_J26_i  (v0 : List UInt8) (v3 : Int) (v4 : Int) (kn : Bool → Option Bool) : Option Bool :=
  (bif ((decide (v4 ≥ (97 : Int))) && (decide (v4 ≤ (122 : Int)))) then (kn false) else (bif (decide (v4 ≥ (48 : Int))) then (kn (!((decide (v4 ≤ (57 : Int))) || (v4 == (45 : Int))))) else (kn (!(v4 == (45 : Int))))))
noncomputable def ddiref25_isName_J26 := hull (ddiref25_isName_J26_i)
theorem ddiref25_isName_J26_eq : ddiref25_isName_J26 = ddiref25_isName_J26_i := hull_eq _
noncomputable def a_ddiref25_isName_J26 : AC Bool :=
  .seq (.reg [.op ⟨(some 22), (.mv (.t 4)), none⟩,
    .op ⟨(some 23), (.bin .geq (.t 22) (.c (.int .u8 97))), none⟩,
    .op ⟨(some 24), (.mv (.t 23)), none⟩,
    .grp 24 true [⟨(some 25), (.mv (.t 4)), (some (24, true))⟩, ⟨(some 26), (.bin .leq (.t 25) (.c (.int .u8 122))), (some (24, true))⟩] 27 (.t 26),
    .op ⟨(some 28), (.mv (.t 27)), none⟩,
    .op ⟨(some 29), (.mv (.t 4)), (some (28, false))⟩,
    .op ⟨(some 30), (.bin .geq (.t 29) (.c (.int .u8 48))), (some (28, false))⟩,
    .op ⟨(some 31), (.mv (.t 30)), (some (28, false))⟩,
    .op ⟨(some 32), (.mv (.t 4)), (some (31, true))⟩,
    .op ⟨(some 33), (.bin .leq (.t 32) (.c (.int .u8 57))), (some (31, true))⟩,
    .op ⟨(some 34), (.pick (.t 31) (.t 33) (.c (.bool false))), (some (28, false))⟩,
    .op ⟨(some 35), (.pick (.t 28) (.c (.bool true)) (.t 34)), none⟩,
    .op ⟨(some 36), (.mv (.t 35)), none⟩,
    .grp 36 false [⟨(some 37), (.mv (.t 4)), (some (36, false))⟩, ⟨(some 38), (.bin .eql (.t 37) (.c (.int .u8 45))), (some (36, false))⟩] 39 (.t 38),
    .op ⟨(some 40), (.un .not (.t 39)), none⟩]) (.view [.sel [0, 3, 40] []])
theorem ok_ddiref25_isName_J26 : AC.ok Tryd.prog (TIof Tryd.prog) 41 0 (kret [(.t 2)] dec_ddiref25_isName) a_ddiref25_isName_J26 := (And.intro True.intro True.intro)
theorem t_ddiref25_isName_J26 (v0 : List UInt8) (v3 : Int) (v4 : Int) (K : Ex → Env → Mem → Option Bool) : den 0 (kret [(.t 2)] dec_ddiref25_isName) a_ddiref25_isName_J26 (envOf [(0, (.str v0)), (3, (.int .i64 v3)), (4, (.int .u8 v4))]) (memOf []) K = ddiref25_isName_J26 v0 v3 v4 (fun z_v40 => K .norm (envOf [(0, (.str v0)), (3, (.int .i64 v3)), (40, (.bool z_v40))]) (memOf [])) := by
  rw [ddiref25_isName_J26_eq]; kernel_rfl
noncomputable def s_ddiref25_isName_J26 : Env → Mem → (Ex → Env → Mem → Option Bool) → Option Bool := fun t m K => chk (fitS0 shp_ddiref25_isName_J26 t m) (cond (hdS shp_ddiref25_isName_J26 t m) (ddiref25_isName_J26 (gS [t 0] 0) (gI [t 3] 0) (gI [t 4] 0) (fun z_v40 => K .norm (envOf [(0, (.str (gS [t 0] 0))), (3, (.int .i64 (gI [t 3] 0))), (40, (.bool z_v40))]) (memOf []))) none)
theorem o_ddiref25_isName_J26 : SubOk Tryd.prog (TIof Tryd.prog) 41 0 (kret [(.t 2)] dec_ddiref25_isName) (scOf a_ddiref25_isName_J26) s_ddiref25_isName_J26 :=
  sub_of tabOk follows ok_ddiref25_isName_J26 (er_of (by kernel_rfl)) shp_ddiref25_isName_J26 (fun t m K => congrArg (fun z => chk (fitS0 shp_ddiref25_isName_J26 t m) (cond (hdS shp_ddiref25_isName_J26 t m) z none)) (t_ddiref25_isName_J26 (gS [t 0] 0) (gI [t 3] 0) (gI [t 4] 0) K).symm)
def shp_ddiref25_isName_L14 : Shp := ⟨[(0, .one (.l .s)), (3, .one (.l (.i .i64)))], []⟩
noncomputable def ddiref25_isName_L14_b  (v0 : List UInt8) (v3 : Int) (next : Int → Option Bool) (kx0 : Unit → Option Bool) : Option Bool :=
  (bif (decide (v3 < (v0.length : Int))) then (oB (ixB v0 v3) fun c1 => (ddiref25_isName_J26 v0 v3 (c1.toNat : Int) (fun v40q2 => (bif v40q2 then (some false) else (next (IntKind.i64.wrap (v3 + (1 : Int)))))))) else (kx0 ()))
noncomputable def ddiref25_isName_L14_i  (v0 : List UInt8) (kx0 : Unit → Option Bool) : Nat → Int → Option Bool
  | 0 => (fun _ => none)
  | n + 1 => (fun v3 => ddiref25_isName_L14_b v0 v3 (ddiref25_isName_L14_i v0 kx0 n) kx0)
noncomputable def ddiref25_isName_L14 := hull (ddiref25_isName_L14_i)
theorem ddiref25_isName_L14_eq : ddiref25_isName_L14 = ddiref25_isName_L14_i := hull_eq _
noncomputable def a_ddiref25_isName_L14 : AC Bool :=
  .seq (.seq (.reg [.op ⟨(some 13), (.mv (.t 3)), none⟩,
    .op ⟨(some 14), (.mv (.t 0)), none⟩,
    .op ⟨(some 15), (.len true (.t 14)), none⟩,
    .op ⟨(some 16), (.bin .lss (.t 13) (.t 15)), none⟩]) (.cond (.t 16) (.skip) (.seq (.view [.sel [] []]) (.exit 0)))) (.seq (.block 1 (.seq (.reg [.op ⟨(some 19), (.mv (.t 0)), none⟩,
    .op ⟨(some 20), (.mv (.t 3)), none⟩,
    .op ⟨(some 21), (.ixs (.t 19) (.t 20)), none⟩,
    .op ⟨(some 4), (.mv (.t 21)), none⟩]) (.seq (.seq (.view [.sel [0, 3, 4] []]) (.sub (scOf a_ddiref25_isName_J26) s_ddiref25_isName_J26)) (.cond (.t 40) (.seq (.reg [.op ⟨(some 2), (.mv (.c (.bool false))), none⟩]) (.ret)) (.skip))))) (.seq (.reg [.op ⟨(some 17), (.mv (.t 3)), none⟩,
    .op ⟨(some 18), (.bin .add (.t 17) (.c (.int .i64 1))), none⟩,
    .op ⟨(some 3), (.mv (.t 18)), none⟩]) (.view [.sel [0, 3] []])))
theorem ok_ddiref25_isName_L14 : AC.ok Tryd.prog (TIof Tryd.prog) 41 0 (kret [(.t 2)] dec_ddiref25_isName) a_ddiref25_isName_L14 := (And.intro (And.intro True.intro (And.intro True.intro (And.intro True.intro True.intro))) (And.intro (And.intro True.intro (And.intro (And.intro True.intro o_ddiref25_isName_J26) (And.intro (And.intro True.intro True.intro) True.intro))) (And.intro True.intro True.intro)))
theorem t_ddiref25_isName_L14_b (v0 : List UInt8) (v3 : Int) (K : Ex → Env → Mem → Option Bool) : den 0 (kret [(.t 2)] dec_ddiref25_isName) a_ddiref25_isName_L14 (envOf [(0, (.str v0)), (3, (.int .i64 v3))]) (memOf []) K = ddiref25_isName_L14_b v0 v3 (fun z_v3 => K .norm (envOf [(0, (.str v0)), (3, (.int .i64 z_v3))]) (memOf [])) (fun _ => K (.exit 0) (envOf []) (memOf [])) := by kernel_rfl
theorem t_ddiref25_isName_L14 (v0 : List UInt8) (K : Ex → Env → Mem → Option Bool) : ∀ (n : Nat) (v3 : Int), iterD (den 0 (kret [(.t 2)] dec_ddiref25_isName) a_ddiref25_isName_L14) n (envOf [(0, (.str v0)), (3, (.int .i64 v3))]) (memOf []) K = ddiref25_isName_L14 v0 (fun _ => K (.exit 0) (envOf []) (memOf [])) n v3 := by
  rw [ddiref25_isName_L14_eq]
  intro n
  induction n with
  | zero => intros; rfl
  | succ n ih =>
    intro v3
    exact (t_ddiref25_isName_L14_b v0 v3 (itK (den 0 (kret [(.t 2)] dec_ddiref25_isName) a_ddiref25_isName_L14) n K)).trans (congrArg (fun q => ddiref25_isName_L14_b v0 v3 q (fun _ => K (.exit 0) (envOf []) (memOf []))) (funext fun v3 => ih v3))
noncomputable def s_ddiref25_isName_L14 : Env → Mem → (Ex → Env → Mem → Option Bool) → Option Bool := fun t m K => chk (fitS0 shp_ddiref25_isName_L14 t m) (cond (hdS shp_ddiref25_isName_L14 t m) (ddiref25_isName_L14 (gS [t 0] 0) (fun _ => K (.exit 0) (envOf []) (memOf [])) FU (gI [t 3] 0)) none)
theorem o_ddiref25_isName_L14 : SubOk Tryd.prog (TIof Tryd.prog) 41 0 (kret [(.t 2)] dec_ddiref25_isName) (.loop (scOf a_ddiref25_isName_L14)) s_ddiref25_isName_L14 :=
  loop_of tabOk follows ok_ddiref25_isName_L14 (er_of (by kernel_rfl)) shp_ddiref25_isName_L14 (fun t m K => congrArg (fun z => chk (fitS0 shp_ddiref25_isName_L14 t m) (cond (hdS shp_ddiref25_isName_L14 t m) z none)) (t_ddiref25_isName_L14 (gS [t 0] 0) K FU (gI [t 3] 0)).symm)
def shp_ddiref25_isName : Shp := ⟨[(0, .one (.l .s))], []⟩
noncomputable def ddiref25_isName_i (v0 : List UInt8) : Option Bool :=
  (bif ((decide ((v0.length : Int) < (1 : Int))) || (decide ((v0.length : Int) > (63 : Int)))) then (some false) else (ddiref25_isName_L14 v0 (fun (_ : Unit) => (some true)) FU (0 : Int)))
noncomputable def ddiref25_isName := hull ddiref25_isName_i
theorem ddiref25_isName_eq : ddiref25_isName = ddiref25_isName_i := hull_eq _
noncomputable def a_ddiref25_isName : AC Bool :=
  .seq (.reg [.op ⟨(some 2), (.mv (.c (.bool false))), none⟩]) (.seq (.seq (.reg [.op ⟨(some 5), (.mv (.t 0)), none⟩,
    .op ⟨(some 6), (.len true (.t 5)), none⟩,
    .op ⟨(some 7), (.bin .lss (.t 6) (.c (.int .i64 1))), none⟩,
    .op ⟨(some 8), (.mv (.t 7)), none⟩,
    .grp 8 false [⟨(some 9), (.mv (.t 0)), (some (8, false))⟩, ⟨(some 10), (.len true (.t 9)), (some (8, false))⟩, ⟨(some 11), (.bin .gtr (.t 10) (.c (.int .i64 63))), (some (8, false))⟩] 12 (.t 11)]) (.cond (.t 12) (.seq (.reg [.op ⟨(some 2), (.mv (.c (.bool false))), none⟩]) (.ret)) (.skip))) (.seq (.seq (.reg [.op ⟨(some 3), (.mv (.c (.int .i64 0))), none⟩]) (.block 0 (.seq (.view [.sel [0, 3] []]) (.sub (.loop (scOf a_ddiref25_isName_L14)) s_ddiref25_isName_L14)))) (.seq (.reg [.op ⟨(some 2), (.mv (.c (.bool true))), none⟩]) (.ret))))
theorem ok_ddiref25_isName : AC.ok Tryd.prog (TIof Tryd.prog) 41 0 (kret [(.t 2)] dec_ddiref25_isName) a_ddiref25_isName := (And.intro True.intro (And.intro (And.intro True.intro (And.intro (And.intro True.intro True.intro) True.intro)) (And.intro (And.intro True.intro (And.intro True.intro o_ddiref25_isName_L14)) (And.intro True.intro True.intro))))
theorem t_ddiref25_isName (v0 : List UInt8) : den 0 (kret [(.t 2)] dec_ddiref25_isName) a_ddiref25_isName (envOf [(0, (.str v0))]) (memOf []) (kend (kret [(.t 2)] dec_ddiref25_isName)) = ddiref25_isName v0 := by
  rw [ddiref25_isName_eq]; kernel_rfl
theorem c_ddiref25_isName : cFn (TIof Tryd.prog) Tryd.f39 = some ⟨41, [(.t 2)], scOf a_ddiref25_isName⟩ := by kernel_rfl
noncomputable def ent_ddiref25_isName {R : Type} (xs : List AV) (K : AV → Option R) : Option R := chk (fitS shp_ddiref25_isName (entry xs) Mem.none) (oB (ddiref25_isName (gS [(entry xs) 0] 0)) fun r => K (enc_ddiref25_isName r))
theorem k_ddiref25_isName {R : Type} : EntOkB Tryd.prog 39 (ent_ddiref25_isName (R := R)) :=
  ent_of (F := fun xs => ddiref25_isName (gS [(entry xs) 0] 0)) (enc := enc_ddiref25_isName) tabOk follows Tryd.func39 (by kernel_rfl) c_ddiref25_isName (fun z r h => by
    obtain ⟨h1, h2⟩ := cond_some h
    cases h2
    exact (etaRV_eq h1).symm) ok_ddiref25_isName (er_of (by kernel_rfl)) shp_ddiref25_isName (fun xs => t_ddiref25_isName (gS [(entry xs) 0] 0)) (fun xs K r h => by
    unfold ent_ddiref25_isName at h
    exact ⟨(chk_some h).1, oB_some (chk_some h).2⟩)

/-! ddi/ddiref01.isLabel -/
def dec_ddiref01_isLabel (z : AV) : Option Bool := cond (fitRV (.one .b) z) (some (aB z)) none
def enc_ddiref01_isLabel (r : Bool) : AV := .bool r
def shp_ddiref01_isLabel_J34 : Shp := ⟨[(0, .one (.l .s)), (3, .one (.l (.i .i64))), (4, .one (.l (.i .u8)))], []⟩
noncomputable def ddiref01_isLabel_J34_i  (v0 : List UInt8) (v3 : Int) (v4 : Int) (kn : Bool → Option Bool) : Option Bool :=
  (bif ((decide (v4 ≥ (97 : Int))) && (decide (v4 ≤ (122 : Int)))) then (kn false) else (bif (decide (v4 ≥ (48 : Int))) then (kn (!(((decide (v4 ≤ (57 : Int))) || (v4 == (45 : Int))) || (v4 == (95 : Int))))) else (kn (!((v4 == (45 : Int)) || (v4 == (95 : Int)))))))
noncomputable def ddiref01_isLabel_J34 := hull (ddiref01_isLabel_J34_i)
theorem ddiref01_isLabel_J34_eq : ddiref01_isLabel_J34 = ddiref01_isLabel_J34_i := hull_eq _
noncomputable def a_ddiref01_isLabel_J34 : AC Bool :=
  .seq (.reg [.op ⟨(some 24), (.mv (.t 4)), none⟩,
    .op ⟨(some 25), (.bin .geq (.t 24) (.c (.int .u8 97))), none⟩,
    .op ⟨(some 26), (.mv (.t 25)), none⟩,
    .grp 26 true [⟨(some 27), (.mv (.t 4)), (some (26, true))⟩, ⟨(some 28), (.bin .leq (.t 27) (.c (.int .u8 122))), (some (26, true))⟩] 29 (.t 28),
    .op ⟨(some 30), (.mv (.t 29)), none⟩,
    .op ⟨(some 31), (.mv (.t 4)), (some (30, false))⟩,
    .op ⟨(some 32), (.bin .geq (.t 31) (.c (.int .u8 48))), (some (30, false))⟩,
    .op ⟨(some 33), (.mv (.t 32)), (some (30, false))⟩,
    .op ⟨(some 34), (.mv (.t 4)), (some (33, true))⟩,
    .op ⟨(some 35), (.bin .leq (.t 34) (.c (.int .u8 57))), (some (33, true))⟩,
    .op ⟨(some 36), (.pick (.t 33) (.t 35) (.c (.bool false))), (some (30, false))⟩,
    .op ⟨(some 37), (.pick (.t 30) (.c (.bool true)) (.t 36)), none⟩,
    .op ⟨(some 38), (.mv (.t 37)), none⟩,
    .grp 38 false [⟨(some 39), (.mv (.t 4)), (some (38, false))⟩, ⟨(some 40), (.bin .eql (.t 39) (.c (.int .u8 45))), (some (38, false))⟩] 41 (.t 40),
    .op ⟨(some 42), (.mv (.t 41)), none⟩,
    .grp 42 false [⟨(some 43), (.mv (.t 4)), (some (42, false))⟩, ⟨(some 44), (.bin .eql (.t 43) (.c (.int .u8 95))), (some (42, false))⟩] 45 (.t 44),
    .op ⟨(some 46), (.un .not (.t 45)), none⟩]) (.view [.sel [0, 3, 46] []])
theorem ok_ddiref01_isLabel_J34 : AC.ok Tryd.prog (TIof Tryd.prog) 47 0 (kret [(.t 2)] dec_ddiref01_isLabel) a_ddiref01_isLabel_J34 := (And.intro True.intro True.intro)
theorem t_ddiref01_isLabel_J34 (v0 : List UInt8) (v3 : Int) (v4 : Int) (K : Ex → Env → Mem → Option Bool) : den 0 (kret [(.t 2)] dec_ddiref01_isLabel) a_ddiref01_isLabel_J34 (envOf [(0, (.str v0)), (3, (.int .i64 v3)), (4, (.int .u8 v4))]) (memOf []) K = ddiref01_isLabel_J34 v0 v3 v4 (fun z_v46 => K .norm (envOf [(0, (.str v0)), (3, (.int .i64 v3)), (46, (.bool z_v46))]) (memOf [])) := by
  rw [ddiref01_isLabel_J34_eq]; kernel_rfl
noncomputable def s_ddiref01_isLabel_J34 : Env → Mem → (Ex → Env → Mem → Option Bool) → Option Bool := fun t m K => chk (fitS0 shp_ddiref01_isLabel_J34 t m) (cond (hdS shp_ddiref01_isLabel_J34 t m) (ddiref01_isLabel_J34 (gS [t 0] 0) (gI [t 3] 0) (gI [t 4] 0) (fun z_v46 => K .norm (envOf [(0, (.str (gS [t 0] 0))), (3, (.int .i64 (gI [t 3] 0))), (46, (.bool z_v46))]) (memOf []))) none)
theorem o_ddiref01_isLabel_J34 : SubOk Tryd.prog (TIof Tryd.prog) 47 0 (kret [(.t 2)] dec_ddiref01_isLabel) (scOf a_ddiref01_isLabel_J34) s_ddiref01_isLabel_J34 :=
  sub_of tabOk follows ok_ddiref01_isLabel_J34 (er_of (by kernel_rfl)) shp_ddiref01_isLabel_J34 (fun t m K => congrArg (fun z => chk (fitS0 shp_ddiref01_isLabel_J34 t m) (cond (hdS shp_ddiref01_isLabel_J34 t m) z none)) (t_ddiref01_isLabel_J34 (gS [t 0] 0) (gI [t 3] 0) (gI [t 4] 0) K).symm)
def shp_ddiref01_isLabel_L22 : Shp := ⟨[(0, .one (.l .s)), (3, .one (.l (.i .i64)))], []⟩
noncomputable def ddiref01_isLabel_L22_b  (v0 : List UInt8) (v3 : Int) (next : Int → Option Bool) (kx0 : Unit → Option Bool) : Option Bool :=
  (bif (decide (v3 < (v0.length : Int))) then (oB (ixB v0 v3) fun c1 => (ddiref01_isLabel_J34 v0 v3 (c1.toNat : Int) (fun v46q2 => (bif v46q2 then (some false) else (next (IntKind.i64.wrap (v3 + (1 : Int)))))))) else (kx0 ()))
noncomputable def ddiref01_isLabel_L22_i  (v0 : List UInt8) (kx0 : Unit → Option Bool) : Nat → Int → Option Bool
  | 0 => (fun _ => none)
  | n + 1 => (fun v3 => ddiref01_isLabel_L22_b v0 v3 (ddiref01_isLabel_L22_i v0 kx0 n) kx0)
noncomputable def ddiref01_isLabel_L22 := hull (ddiref01_isLabel_L22_i)
theorem ddiref01_isLabel_L22_eq : ddiref01_isLabel_L22 = ddiref01_isLabel_L22_i := hull_eq _
noncomputable def a_ddiref01_isLabel_L22 : AC Bool :=
  .seq (.seq (.reg [.op ⟨(some 15), (.mv (.t 3)), none⟩,
    .op ⟨(some 16), (.mv (.t 0)), none⟩,
    .op ⟨(some 17), (.len true (.t 16)), none⟩,
    .op ⟨(some 18), (.bin .lss (.t 15) (.t 17)), none⟩]) (.cond (.t 18) (.skip) (.seq (.view [.sel [] []]) (.exit 0)))) (.seq (.block 1 (.seq (.reg [.op ⟨(some 21), (.mv (.t 0)), none⟩,
    .op ⟨(some 22), (.mv (.t 3)), none⟩,
    .op ⟨(some 23), (.ixs (.t 21) (.t 22)), none⟩,
    .op ⟨(some 4), (.mv (.t 23)), none⟩]) (.seq (.seq (.view [.sel [0, 3, 4] []]) (.sub (scOf a_ddiref01_isLabel_J34) s_ddiref01_isLabel_J34)) (.cond (.t 46) (.seq (.reg [.op ⟨(some 2), (.mv (.c (.bool false))), none⟩]) (.ret)) (.skip))))) (.seq (.reg [.op ⟨(some 19), (.mv (.t 3)), none⟩,
    .op ⟨(some 20), (.bin .add (.t 19) (.c (.int .i64 1))), none⟩,
    .op ⟨(some 3), (.mv (.t 20)), none⟩]) (.view [.sel [0, 3] []])))
theorem ok_ddiref01_isLabel_L22 : AC.ok Tryd.prog (TIof Tryd.prog) 47 0 (kret [(.t 2)] dec_ddiref01_isLabel) a_ddiref01_isLabel_L22 := (And.intro (And.intro True.intro (And.intro True.intro (And.intro True.intro True.intro))) (And.intro (And.intro True.intro (And.intro (And.intro True.intro o_ddiref01_isLabel_J34) (And.intro (And.intro True.intro True.intro) True.intro))) (And.intro True.intro True.intro)))
theorem t_ddiref01_isLabel_L22_b (v0 : List UInt8) (v3 : Int) (K : Ex → Env → Mem → Option Bool) : den 0 (kret [(.t 2)] dec_ddiref01_isLabel) a_ddiref01_isLabel_L22 (envOf [(0, (.str v0)), (3, (.int .i64 v3))]) (memOf []) K = ddiref01_isLabel_L22_b v0 v3 (fun z_v3 => K .norm (envOf [(0, (.str v0)), (3, (.int .i64 z_v3))]) (memOf [])) (fun _ => K (.exit 0) (envOf []) (memOf [])) := by kernel_rfl
theorem t_ddiref01_isLabel_L22 (v0 : List UInt8) (K : Ex → Env → Mem → Option Bool) : ∀ (n : Nat) (v3 : Int), iterD (den 0 (kret [(.t 2)] dec_ddiref01_isLabel) a_ddiref01_isLabel_L22) n (envOf [(0, (.str v0)), (3, (.int .i64 v3))]) (memOf []) K = ddiref01_isLabel_L22 v0 (fun _ => K (.exit 0) (envOf []) (memOf [])) n v3 := by
  rw [ddiref01_isLabel_L22_eq]
  intro n
  induction n with
  | zero => intros; rfl
  | succ n ih =>
    intro v3
    exact (t_ddiref01_isLabel_L22_b v0 v3 (itK (den 0 (kret [(.t 2)] dec_ddiref01_isLabel) a_ddiref01_isLabel_L22) n K)).trans (congrArg (fun q => ddiref01_isLabel_L22_b v0 v3 q (fun _ => K (.exit 0) (envOf []) (memOf []))) (funext fun v3 => ih v3))
noncomputable def s_ddiref01_isLabel_L22 : Env → Mem → (Ex → Env → Mem → Option Bool) → Option Bool := fun t m K => chk (fitS0 shp_ddiref01_isLabel_L22 t m) (cond (hdS shp_ddiref01_isLabel_L22 t m) (ddiref01_isLabel_L22 (gS [t 0] 0) (fun _ => K (.exit 0) (envOf []) (memOf [])) FU (gI [t 3] 0)) none)
theorem o_ddiref01_isLabel_L22 : SubOk Tryd.prog (TIof Tryd.prog) 47 0 (kret [(.t 2)] dec_ddiref01_isLabel) (.loop (scOf a_ddiref01_isLabel_L22)) s_ddiref01_isLabel_L22 :=
  loop_of tabOk follows ok_ddiref01_isLabel_L22 (er_of (by kernel_rfl)) shp_ddiref01_isLabel_L22 (fun t m K => congrArg (fun z => chk (fitS0 shp_ddiref01_isLabel_L22 t m) (cond (hdS shp_ddiref01_isLabel_L22 t m) z none)) (t_ddiref01_isLabel_L22 (gS [t 0] 0) K FU (gI [t 3] 0)).symm)
def shp_ddiref01_isLabel : Shp := ⟨[(0, .one (.l .s))], []⟩
noncomputable def ddiref01_isLabel_i (v0 : List UInt8) : Option Bool :=
  (bif (v0 == ([42] : List UInt8)) then (some true) else (bif ((decide ((v0.length : Int) < (1 : Int))) || (decide ((v0.length : Int) > (63 : Int)))) then (some false) else (ddiref01_isLabel_L22 v0 (fun (_ : Unit) => (some true)) FU (0 : Int))))
noncomputable def ddiref01_isLabel := hull ddiref01_isLabel_i
theorem ddiref01_isLabel_eq : ddiref01_isLabel = ddiref01_isLabel_i := hull_eq _
noncomputable def a_ddiref01_isLabel : AC Bool :=
  .seq (.reg [.op ⟨(some 2), (.mv (.c (.bool false))), none⟩]) (.seq (.seq (.reg [.op ⟨(some 5), (.mv (.t 0)), none⟩,
    .op ⟨(some 6), (.bin .eql (.t 5) (.c (.str [42]))), none⟩]) (.cond (.t 6) (.seq (.reg [.op ⟨(some 2), (.mv (.c (.bool true))), none⟩]) (.ret)) (.skip))) (.seq (.seq (.reg [.op ⟨(some 7), (.mv (.t 0)), none⟩,
    .op ⟨(some 8), (.len true (.t 7)), none⟩,
    .op ⟨(some 9), (.bin .lss (.t 8) (.c (.int .i64 1))), none⟩,
    .op ⟨(some 10), (.mv (.t 9)), none⟩,
    .grp 10 false [⟨(some 11), (.mv (.t 0)), (some (10, false))⟩, ⟨(some 12), (.len true (.t 11)), (some (10, false))⟩, ⟨(some 13), (.bin .gtr (.t 12) (.c (.int .i64 63))), (some (10, false))⟩] 14 (.t 13)]) (.cond (.t 14) (.seq (.reg [.op ⟨(some 2), (.mv (.c (.bool false))), none⟩]) (.ret)) (.skip))) (.seq (.seq (.reg [.op ⟨(some 3), (.mv (.c (.int .i64 0))), none⟩]) (.block 0 (.seq (.view [.sel [0, 3] []]) (.sub (.loop (scOf a_ddiref01_isLabel_L22)) s_ddiref01_isLabel_L22)))) (.seq (.reg [.op ⟨(some 2), (.mv (.c (.bool true))), none⟩]) (.ret)))))
theorem ok_ddiref01_isLabel : AC.ok Tryd.prog (TIof Tryd.prog) 47 0 (kret [(.t 2)] dec_ddiref01_isLabel) a_ddiref01_isLabel := (And.intro True.intro (And.intro (And.intro True.intro (And.intro (And.intro True.intro True.intro) True.intro)) (And.intro (And.intro True.intro (And.intro (And.intro True.intro True.intro) True.intro)) (And.intro (And.intro True.intro (And.intro True.intro o_ddiref01_isLabel_L22)) (And.intro True.intro True.intro)))))
theorem t_ddiref01_isLabel (v0 : List UInt8) : den 0 (kret [(.t 2)] dec_ddiref01_isLabel) a_ddiref01_isLabel (envOf [(0, (.str v0))]) (memOf []) (kend (kret [(.t 2)] dec_ddiref01_isLabel)) = ddiref01_isLabel v0 := by
  rw [ddiref01_isLabel_eq]; kernel_rfl
theorem c_ddiref01_isLabel : cFn (TIof Tryd.prog) Tryd.f55 = some ⟨47, [(.t 2)], scOf a_ddiref01_isLabel⟩ := by kernel_rfl
noncomputable def ent_ddiref01_isLabel {R : Type} (xs : List AV) (K : AV → Option R) : Option R := chk (fitS shp_ddiref01_isLabel (entry xs) Mem.none) (oB (ddiref01_isLabel (gS [(entry xs) 0] 0)) fun r => K (enc_ddiref01_isLabel r))
theorem k_ddiref01_isLabel {R : Type} : EntOkB Tryd.prog 55 (ent_ddiref01_isLabel (R := R)) :=
  ent_of (F := fun xs => ddiref01_isLabel (gS [(entry xs) 0] 0)) (enc := enc_ddiref01_isLabel) tabOk follows Tryd.func55 (by kernel_rfl) c_ddiref01_isLabel (fun z r h => by
    obtain ⟨h1, h2⟩ := cond_some h
    cases h2
    exact (etaRV_eq h1).symm) ok_ddiref01_isLabel (er_of (by kernel_rfl)) shp_ddiref01_isLabel (fun xs => t_ddiref01_isLabel (gS [(entry xs) 0] 0)) (fun xs K r h => by
    unfold ent_ddiref01_isLabel at h
    exact ⟨(chk_some h).1, oB_some (chk_some h).2⟩)

/-! ddi/ddiref01.split -/
def dec_ddiref01_split (z : AV) : Option ((List AV) × Bool) := cond (fitTup [(.one (.fr true 1)), (.one .b)] z) (some (aL (gC (tpL z) 0), aB (gC (tpL z) 1))) none
def enc_ddiref01_split (r : (List AV) × Bool) : AV := .tup [.fr true 1 r.1, .bool r.2]
def shp_ddiref01_split_J12 : Shp := ⟨[(0, .one (.l .s))], []⟩
noncomputable def ddiref01_split_J12_i  (v0 : List UInt8) (kn : Bool → Option ((List AV) × Bool)) : Option ((List AV) × Bool) :=
  (bif ((decide ((v0.length : Int) < (2 : Int))) || (decide ((v0.length : Int) > (254 : Int)))) then (kn true) else (oB (ixB v0 (IntKind.i64.wrap ((v0.length : Int) - (1 : Int)))) fun c1 => (kn ((c1.toNat : Int) != (46 : Int)))))
noncomputable def ddiref01_split_J12 := hull (ddiref01_split_J12_i)
theorem ddiref01_split_J12_eq : ddiref01_split_J12 = ddiref01_split_J12_i := hull_eq _
noncomputable def a_ddiref01_split_J12 : AC ((List AV) × Bool) :=
  .seq (.reg [.op ⟨(some 10), (.mv (.t 0)), none⟩,
    .op ⟨(some 11), (.len true (.t 10)), none⟩,
    .op ⟨(some 12), (.bin .lss (.t 11) (.c (.int .i64 2))), none⟩,
    .op ⟨(some 13), (.mv (.t 12)), none⟩,
    .grp 13 false [⟨(some 14), (.mv (.t 0)), (some (13, false))⟩, ⟨(some 15), (.len true (.t 14)), (some (13, false))⟩, ⟨(some 16), (.bin .gtr (.t 15) (.c (.int .i64 254))), (some (13, false))⟩] 17 (.t 16),
    .op ⟨(some 18), (.mv (.t 17)), none⟩,
    .op ⟨(some 19), (.mv (.t 0)), (some (18, false))⟩,
    .op ⟨(some 20), (.mv (.t 0)), (some (18, false))⟩,
    .op ⟨(some 21), (.len true (.t 20)), (some (18, false))⟩,
    .op ⟨(some 22), (.bin .sub (.t 21) (.c (.int .i64 1))), (some (18, false))⟩,
    .op ⟨(some 23), (.ixs (.t 19) (.t 22)), (some (18, false))⟩,
    .op ⟨(some 24), (.bin .neq (.t 23) (.c (.int .u8 46))), (some (18, false))⟩,
    .op ⟨(some 25), (.pick (.t 18) (.c (.bool true)) (.t 24)), none⟩]) (.view [.sel [0, 25] []])
theorem ok_ddiref01_split_J12 : AC.ok Tryd.prog (TIof Tryd.prog) 58 0 (kret [(.t 2), (.t 3)] dec_ddiref01_split) a_ddiref01_split_J12 := (And.intro True.intro True.intro)
theorem t_ddiref01_split_J12 (v0 : List UInt8) (K : Ex → Env → Mem → Option ((List AV) × Bool)) : den 0 (kret [(.t 2), (.t 3)] dec_ddiref01_split) a_ddiref01_split_J12 (envOf [(0, (.str v0))]) (memOf []) K = ddiref01_split_J12 v0 (fun z_v25 => K .norm (envOf [(0, (.str v0)), (25, (.bool z_v25))]) (memOf [])) := by
  rw [ddiref01_split_J12_eq]; kernel_rfl
noncomputable def s_ddiref01_split_J12 : Env → Mem → (Ex → Env → Mem → Option ((List AV) × Bool)) → Option ((List AV) × Bool) := fun t m K => chk (fitS0 shp_ddiref01_split_J12 t m) (cond (hdS shp_ddiref01_split_J12 t m) (ddiref01_split_J12 (gS [t 0] 0) (fun z_v25 => K .norm (envOf [(0, (.str (gS [t 0] 0))), (25, (.bool z_v25))]) (memOf []))) none)
theorem o_ddiref01_split_J12 : SubOk Tryd.prog (TIof Tryd.prog) 58 0 (kret [(.t 2), (.t 3)] dec_ddiref01_split) (scOf a_ddiref01_split_J12) s_ddiref01_split_J12 :=
  sub_of tabOk follows ok_ddiref01_split_J12 (er_of (by kernel_rfl)) shp_ddiref01_split_J12 (fun t m K => congrArg (fun z => chk (fitS0 shp_ddiref01_split_J12 t m) (cond (hdS shp_ddiref01_split_J12 t m) z none)) (t_ddiref01_split_J12 (gS [t 0] 0) K).symm)
def shp_ddiref01_split_J45 : Shp := ⟨[(0, .one (.l .s)), (4, .one (.own 0)), (5, .one (.l (.i .i64))), (6, .one (.l (.i .i64))), (7, .one (.l .s))], [.arr true 1]⟩
noncomputable def ddiref01_split_J45_i  (v0 : List UInt8) (v5 : Int) (v6 : Int) (v7 : List UInt8) (a0 : List AV) (kn : Bool → Option ((List AV) × Bool)) : Option ((List AV) × Bool) :=
  (oB (ddiref01_isLabel v7) fun r1 => (bif (!r1) then (kn true) else (bif (v7 == ([42] : List UInt8)) then (kn (decide (v5 > (0 : Int)))) else (kn false))))
noncomputable def ddiref01_split_J45 := hull (ddiref01_split_J45_i)
theorem ddiref01_split_J45_eq : ddiref01_split_J45 = ddiref01_split_J45_i := hull_eq _
noncomputable def a_ddiref01_split_J45 : AC ((List AV) × Bool) :=
  .seq (.reg [.op ⟨(some 40), (.mv (.t 7)), none⟩,
    .call ⟨(some 41), (.call 55 [(.t 40)]), none⟩ 55 ent_ddiref01_isLabel,
    .op ⟨(some 42), (.un .not (.t 41)), none⟩,
    .op ⟨(some 43), (.mv (.t 42)), none⟩,
    .op ⟨(some 44), (.mv (.t 7)), (some (43, false))⟩,
    .op ⟨(some 45), (.bin .eql (.t 44) (.c (.str [42]))), (some (43, false))⟩,
    .op ⟨(some 46), (.mv (.t 45)), (some (43, false))⟩,
    .op ⟨(some 47), (.mv (.t 5)), (some (46, true))⟩,
    .op ⟨(some 48), (.bin .gtr (.t 47) (.c (.int .i64 0))), (some (46, true))⟩,
    .op ⟨(some 49), (.pick (.t 46) (.t 48) (.c (.bool false))), (some (43, false))⟩,
    .op ⟨(some 50), (.pick (.t 43) (.c (.bool true)) (.t 49)), none⟩]) (.view [.sel [0, 4, 6, 7, 50] [0]])
theorem ok_ddiref01_split_J45 : AC.ok Tryd.prog (TIof Tryd.prog) 58 0 (kret [(.t 2), (.t 3)] dec_ddiref01_split) a_ddiref01_split_J45 := (And.intro (And.intro (EntOkB.ok k_ddiref01_isLabel) True.intro) True.intro)
theorem t_ddiref01_split_J45 (v0 : List UInt8) (v5 : Int) (v6 : Int) (v7 : List UInt8) (a0 : List AV) (K : Ex → Env → Mem → Option ((List AV) × Bool)) : den 0 (kret [(.t 2), (.t 3)] dec_ddiref01_split) a_ddiref01_split_J45 (envOf [(0, (.str v0)), (4, (.own 0 a0.length)), (5, (.int .i64 v5)), (6, (.int .i64 v6)), (7, (.str v7))]) (memOf [(some (.arr true 1 a0))]) K = ddiref01_split_J45 v0 v5 v6 v7 a0 (fun z_v50 => K .norm (envOf [(0, (.str v0)), (4, (.own 0 a0.length)), (6, (.int .i64 v6)), (7, (.str v7)), (50, (.bool z_v50))]) (memOf [(some (.arr true 1 a0))])) := by
  rw [ddiref01_split_J45_eq]; kernel_rfl
noncomputable def s_ddiref01_split_J45 : Env → Mem → (Ex → Env → Mem → Option ((List AV) × Bool)) → Option ((List AV) × Bool) := fun t m K => chk (fitS0 shp_ddiref01_split_J45 t m) (cond (hdS shp_ddiref01_split_J45 t m) (ddiref01_split_J45 (gS [t 0] 0) (gI [t 5] 0) (gI [t 6] 0) (gS [t 7] 0) (arL (m.s 0)) (fun z_v50 => K .norm (envOf [(0, (.str (gS [t 0] 0))), (4, (.own 0 ((arL (m.s 0)).length))), (6, (.int .i64 (gI [t 6] 0))), (7, (.str (gS [t 7] 0))), (50, (.bool z_v50))]) (memOf [(some (.arr true 1 (arL (m.s 0))))]))) none)
theorem o_ddiref01_split_J45 : SubOk Tryd.prog (TIof Tryd.prog) 58 0 (kret [(.t 2), (.t 3)] dec_ddiref01_split) (scOf a_ddiref01_split_J45) s_ddiref01_split_J45 :=
  sub_of tabOk follows ok_ddiref01_split_J45 (er_of (by kernel_rfl)) shp_ddiref01_split_J45 (fun t m K => congrArg (fun z => chk (fitS0 shp_ddiref01_split_J45 t m) (cond (hdS shp_ddiref01_split_J45 t m) z none)) (t_ddiref01_split_J45 (gS [t 0] 0) (gI [t 5] 0) (gI [t 6] 0) (gS [t 7] 0) (arL (m.s 0)) K).symm)
def shp_ddiref01_split_L26 : Shp := ⟨[(0, .one (.l .s)), (4, .one (.own 0)), (5, .one (.l (.i .i64))), (6, .one (.l (.i .i64)))], [.arr true 1]⟩
noncomputable def ddiref01_split_L26_b  (v0 : List UInt8) (v5 : Int) (v6 : Int) (a0 : List AV) (next : Int → Int → (List AV) → Option ((List AV) × Bool)) (kx0 : (List AV) → Option ((List AV) × Bool)) : Option ((List AV) × Bool) :=
  (bif (decide (v6 < (v0.length : Int))) then (oB (ixB v0 v6) fun c1 => (bif ((c1.toNat : Int) != (46 : Int)) then (next v5 (IntKind.i64.wrap (v6 + (1 : Int))) a0) else (oB (cutI v0 (some v5) (some v6)) fun s2 => (bif (hd a0 (a0.length) && true) then (ddiref01_split_J45 v0 v5 v6 s2 a0 (fun v50q3 => (bif v50q3 then (bif hd ([] : List AV) (([] : List AV).length) then (some (([] : List AV), false)) else none) else (bif hd a0 a0.length then (bif hd ([(.str s2)] : List AV) (([(.str s2)] : List AV).length) then (bif decide ((a0.length + ([(.str s2)] : List AV).length) * 16 ≤ 140737488355328) then (next (IntKind.i64.wrap (v6 + (1 : Int))) (IntKind.i64.wrap (v6 + (1 : Int))) (a0 ++ ([(.str s2)] : List AV))) else none) else none) else none)))) else none)))) else (kx0 a0))
noncomputable def ddiref01_split_L26_i  (v0 : List UInt8) (kx0 : (List AV) → Option ((List AV) × Bool)) : Nat → Int → Int → (List AV) → Option ((List AV) × Bool)
  | 0 => (fun _ _ _ => none)
  | n + 1 => (fun v5 v6 a0 => ddiref01_split_L26_b v0 v5 v6 a0 (ddiref01_split_L26_i v0 kx0 n) kx0)
noncomputable def ddiref01_split_L26 := hull (ddiref01_split_L26_i)
theorem ddiref01_split_L26_eq : ddiref01_split_L26 = ddiref01_split_L26_i := hull_eq _
noncomputable def a_ddiref01_split_L26 : AC ((List AV) × Bool) :=
  .seq (.seq (.reg [.op ⟨(some 26), (.mv (.t 6)), none⟩,
    .op ⟨(some 27), (.mv (.t 0)), none⟩,
    .op ⟨(some 28), (.len true (.t 27)), none⟩,
    .op ⟨(some 29), (.bin .lss (.t 26) (.t 28)), none⟩]) (.cond (.t 29) (.skip) (.seq (.view [.sel [4] [0]]) (.exit 0)))) (.seq (.block 1 (.seq (.seq (.reg [.op ⟨(some 32), (.mv (.t 0)), none⟩,
    .op ⟨(some 33), (.mv (.t 6)), none⟩,
    .op ⟨(some 34), (.ixs (.t 32) (.t 33)), none⟩,
    .op ⟨(some 35), (.bin .neq (.t 34) (.c (.int .u8 46))), none⟩]) (.cond (.t 35) (.exit 1) (.skip))) (.seq (.reg [.op ⟨(some 36), (.mv (.t 0)), none⟩,
    .op ⟨(some 37), (.mv (.t 5)), none⟩,
    .op ⟨(some 38), (.mv (.t 6)), none⟩,
    .op ⟨(some 39), (.slcs (.t 36) (some (.t 37)) (some (.t 38))), none⟩,
    .op ⟨(some 7), (.mv (.t 39)), none⟩]) (.seq (.seq (.seq (.view [.sel [0, 4, 5, 6, 7] [0]]) (.sub (scOf a_ddiref01_split_J45) s_ddiref01_split_J45)) (.cond (.t 50) (.seq (.reg [.op ⟨(some 2), (.mv (.c .nils)), none⟩,
    .op ⟨(some 3), (.mv (.c (.bool false))), none⟩]) (.seq (.view [.own 2 1]) (.ret))) (.skip))) (.seq (.reg [.op ⟨(some 51), (.mv (.t 4)), none⟩,
    .op ⟨(some 52), (.mv (.t 7)), none⟩,
    .op ⟨(some 53), (.bsl 1 [(.t 52)]), none⟩,
    .op ⟨(some 54), (.app 1 16 (.t 51) (.t 53)), none⟩,
    .op ⟨(some 4), (.mv (.t 54)), none⟩]) (.reg [.op ⟨(some 55), (.mv (.t 6)), none⟩,
    .op ⟨(some 56), (.bin .add (.t 55) (.c (.int .i64 1))), none⟩,
    .op ⟨(some 5), (.mv (.t 56)), none⟩])))))) (.seq (.reg [.op ⟨(some 30), (.mv (.t 6)), none⟩,
    .op ⟨(some 31), (.bin .add (.t 30) (.c (.int .i64 1))), none⟩,
    .op ⟨(some 6), (.mv (.t 31)), none⟩]) (.view [.sel [0, 4, 5, 6] [0]])))
theorem ok_ddiref01_split_L26 : AC.ok Tryd.prog (TIof Tryd.prog) 58 0 (kret [(.t 2), (.t 3)] dec_ddiref01_split) a_ddiref01_split_L26 := (And.intro (And.intro True.intro (And.intro True.intro (And.intro True.intro True.intro))) (And.intro (And.intro (And.intro True.intro (And.intro True.intro True.intro)) (And.intro True.intro (And.intro (And.intro (And.intro True.intro o_ddiref01_split_J45) (And.intro (And.intro True.intro (And.intro True.intro True.intro)) True.intro)) (And.intro True.intro True.intro)))) (And.intro True.intro True.intro)))
theorem t_ddiref01_split_L26_b (v0 : List UInt8) (v5 : Int) (v6 : Int) (a0 : List AV) (K : Ex → Env → Mem → Option ((List AV) × Bool)) : den 0 (kret [(.t 2), (.t 3)] dec_ddiref01_split) a_ddiref01_split_L26 (envOf [(0, (.str v0)), (4, (.own 0 a0.length)), (5, (.int .i64 v5)), (6, (.int .i64 v6))]) (memOf [(some (.arr true 1 a0))]) K = ddiref01_split_L26_b v0 v5 v6 a0 (fun z_v5 z_v6 z_a0 => K .norm (envOf [(0, (.str v0)), (4, (.own 0 z_a0.length)), (5, (.int .i64 z_v5)), (6, (.int .i64 z_v6))]) (memOf [(some (.arr true 1 z_a0))])) (fun z_a0 => K (.exit 0) (envOf [(4, (.own 0 z_a0.length))]) (memOf [(some (.arr true 1 z_a0))])) := by kernel_rfl
theorem t_ddiref01_split_L26 (v0 : List UInt8) (K : Ex → Env → Mem → Option ((List AV) × Bool)) : ∀ (n : Nat) (v5 : Int) (v6 : Int) (a0 : List AV), iterD (den 0 (kret [(.t 2), (.t 3)] dec_ddiref01_split) a_ddiref01_split_L26) n (envOf [(0, (.str v0)), (4, (.own 0 a0.length)), (5, (.int .i64 v5)), (6, (.int .i64 v6))]) (memOf [(some (.arr true 1 a0))]) K = ddiref01_split_L26 v0 (fun z_a0 => K (.exit 0) (envOf [(4, (.own 0 z_a0.length))]) (memOf [(some (.arr true 1 z_a0))])) n v5 v6 a0 := by
  rw [ddiref01_split_L26_eq]
  intro n
  induction n with
  | zero => intros; rfl
  | succ n ih =>
    intro v5 v6 a0
    exact (t_ddiref01_split_L26_b v0 v5 v6 a0 (itK (den 0 (kret [(.t 2), (.t 3)] dec_ddiref01_split) a_ddiref01_split_L26) n K)).trans (congrArg (fun q => ddiref01_split_L26_b v0 v5 v6 a0 q (fun z_a0 => K (.exit 0) (envOf [(4, (.own 0 z_a0.length))]) (memOf [(some (.arr true 1 z_a0))]))) (funext fun v5 => funext fun v6 => funext fun a0 => ih v5 v6 a0))
noncomputable def s_ddiref01_split_L26 : Env → Mem → (Ex → Env → Mem → Option ((List AV) × Bool)) → Option ((List AV) × Bool) := fun t m K => chk (fitS0 shp_ddiref01_split_L26 t m) (cond (hdS shp_ddiref01_split_L26 t m) (ddiref01_split_L26 (gS [t 0] 0) (fun z_a0 => K (.exit 0) (envOf [(4, (.own 0 z_a0.length))]) (memOf [(some (.arr true 1 z_a0))])) FU (gI [t 5] 0) (gI [t 6] 0) (arL (m.s 0))) none)
theorem o_ddiref01_split_L26 : SubOk Tryd.prog (TIof Tryd.prog) 58 0 (kret [(.t 2), (.t 3)] dec_ddiref01_split) (.loop (scOf a_ddiref01_split_L26)) s_ddiref01_split_L26 :=
  loop_of tabOk follows ok_ddiref01_split_L26 (er_of (by kernel_rfl)) shp_ddiref01_split_L26 (fun t m K => congrArg (fun z => chk (fitS0 shp_ddiref01_split_L26 t m) (cond (hdS shp_ddiref01_split_L26 t m) z none)) (t_ddiref01_split_L26 (gS [t 0] 0) K FU (gI [t 5] 0) (gI [t 6] 0) (arL (m.s 0))).symm)
def shp_ddiref01_split : Shp := ⟨[(0, .one (.l .s))], []⟩
noncomputable def ddiref01_split_i (v0 : List UInt8) : Option ((List AV) × Bool) :=
  (bif (v0 == ([46] : List UInt8)) then (bif hd ([] : List AV) (([] : List AV).length) then (some (([] : List AV), true)) else none) else (ddiref01_split_J12 v0 (fun v25q1 => (bif v25q1 then (bif hd ([] : List AV) (([] : List AV).length) then (some (([] : List AV), false)) else none) else (bif (hd ([] : List AV) (([] : List AV).length) && true) then (ddiref01_split_L26 v0 (fun a0q2 => (bif hd a0q2 a0q2.length then (some (a0q2, true)) else none)) FU (0 : Int) (0 : Int) ([] : List AV)) else none)))))
noncomputable def ddiref01_split := hull ddiref01_split_i
theorem ddiref01_split_eq : ddiref01_split = ddiref01_split_i := hull_eq _
noncomputable def a_ddiref01_split : AC ((List AV) × Bool) :=
  .seq (.reg [.op ⟨(some 2), (.mv (.c .nils)), none⟩,
    .op ⟨(some 3), (.mv (.c (.bool false))), none⟩]) (.seq (.seq (.reg [.op ⟨(some 8), (.mv (.t 0)), none⟩,
    .op ⟨(some 9), (.bin .eql (.t 8) (.c (.str [46]))), none⟩]) (.cond (.t 9) (.seq (.reg [.op ⟨(some 2), (.mv (.c .nils)), none⟩,
    .op ⟨(some 3), (.mv (.c (.bool true))), none⟩]) (.seq (.view [.own 2 1]) (.ret))) (.skip))) (.seq (.seq (.seq (.view [.sel [0] []]) (.sub (scOf a_ddiref01_split_J12) s_ddiref01_split_J12)) (.cond (.t 25) (.seq (.reg [.op ⟨(some 2), (.mv (.c .nils)), none⟩,
    .op ⟨(some 3), (.mv (.c (.bool false))), none⟩]) (.seq (.view [.own 2 1]) (.ret))) (.skip))) (.seq (.reg [.op ⟨(some 4), (.mv (.c .nils)), none⟩]) (.seq (.reg [.op ⟨(some 5), (.mv (.c (.int .i64 0))), none⟩]) (.seq (.seq (.reg [.op ⟨(some 6), (.mv (.c (.int .i64 0))), none⟩]) (.block 0 (.seq (.view [.own 4 1, .sel [0, 4, 5, 6] [0]]) (.sub (.loop (scOf a_ddiref01_split_L26)) s_ddiref01_split_L26)))) (.seq (.reg [.op ⟨(some 57), (.mv (.t 4)), none⟩,
    .op ⟨(some 2), (.mv (.t 57)), none⟩,
    .op ⟨(some 3), (.mv (.c (.bool true))), none⟩]) (.ret)))))))
theorem ok_ddiref01_split : AC.ok Tryd.prog (TIof Tryd.prog) 58 0 (kret [(.t 2), (.t 3)] dec_ddiref01_split) a_ddiref01_split := (And.intro True.intro (And.intro (And.intro True.intro (And.intro (And.intro True.intro (And.intro True.intro True.intro)) True.intro)) (And.intro (And.intro (And.intro True.intro o_ddiref01_split_J12) (And.intro (And.intro True.intro (And.intro True.intro True.intro)) True.intro)) (And.intro True.intro (And.intro True.intro (And.intro (And.intro True.intro (And.intro True.intro o_ddiref01_split_L26)) (And.intro True.intro True.intro)))))))
theorem t_ddiref01_split (v0 : List UInt8) : den 0 (kret [(.t 2), (.t 3)] dec_ddiref01_split) a_ddiref01_split (envOf [(0, (.str v0))]) (memOf []) (kend (kret [(.t 2), (.t 3)] dec_ddiref01_split)) = ddiref01_split v0 := by
  rw [ddiref01_split_eq]; kernel_rfl
theorem c_ddiref01_split : cFn (TIof Tryd.prog) Tryd.f43 = some ⟨58, [(.t 2), (.t 3)], scOf a_ddiref01_split⟩ := by kernel_rfl
noncomputable def ent_ddiref01_split {R : Type} (xs : List AV) (K : AV → Option R) : Option R := chk (fitS shp_ddiref01_split (entry xs) Mem.none) (oB (ddiref01_split (gS [(entry xs) 0] 0)) fun r => K (enc_ddiref01_split r))
theorem k_ddiref01_split {R : Type} : EntOkB Tryd.prog 43 (ent_ddiref01_split (R := R)) :=
  ent_of (F := fun xs => ddiref01_split (gS [(entry xs) 0] 0)) (enc := enc_ddiref01_split) tabOk follows Tryd.func43 (by kernel_rfl) c_ddiref01_split (fun z r h => by
    obtain ⟨h1, h2⟩ := cond_some h
    cases h2
    exact (fitTup_eq h1).symm) ok_ddiref01_split (er_of (by kernel_rfl)) shp_ddiref01_split (fun xs => t_ddiref01_split (gS [(entry xs) 0] 0)) (fun xs K r h => by
    unfold ent_ddiref01_split at h
    exact ⟨(chk_some h).1, oB_some (chk_some h).2⟩)

/-! ddi/ddiref01.Labels -/
def dec_ddiref01_Labels (z : AV) : Option (List AV) := cond (fitRV (.one (.sl 1)) z) (some (aL z)) none
def enc_ddiref01_Labels (r : (List AV)) : AV := .sl 1 r
def shp_ddiref01_Labels : Shp := ⟨[(0, .one (.l .s))], []⟩
noncomputable def ddiref01_Labels_i (v0 : List UInt8) : Option (List AV) :=
  (oB (ddiref01_split v0) fun r1 => (some r1.1))
noncomputable def ddiref01_Labels := hull ddiref01_Labels_i
theorem ddiref01_Labels_eq : ddiref01_Labels = ddiref01_Labels_i := hull_eq _
noncomputable def a_ddiref01_Labels : AC (List AV) :=
  .seq (.reg [.op ⟨(some 2), (.mv (.c .nils)), none⟩]) (.seq (.reg [.op ⟨(some 6), (.mv (.t 0)), none⟩,
    .callc ⟨(some 7), (.call 43 [(.t 6)]), none⟩ 43 ent_ddiref01_split,
    .op ⟨(some 5), (.mv (.t 7)), none⟩,
    .op ⟨(some 8), (.ext (.t 5) 0), none⟩,
    .op ⟨(some 9), (.ext (.t 5) 1), none⟩,
    .op ⟨(some 3), (.mv (.t 8)), none⟩,
    .op ⟨(some 4), (.mv (.t 9)), none⟩]) (.seq (.reg [.op ⟨(some 10), (.mv (.t 3)), none⟩,
    .op ⟨(some 2), (.mv (.t 10)), none⟩]) (.ret)))
theorem ok_ddiref01_Labels : AC.ok Tryd.prog (TIof Tryd.prog) 11 0 (kret [(.t 2)] dec_ddiref01_Labels) a_ddiref01_Labels := (And.intro True.intro (And.intro (And.intro (EntOkB.ok k_ddiref01_split) True.intro) (And.intro True.intro True.intro)))
theorem t_ddiref01_Labels (v0 : List UInt8) : den 0 (kret [(.t 2)] dec_ddiref01_Labels) a_ddiref01_Labels (envOf [(0, (.str v0))]) (memOf []) (kend (kret [(.t 2)] dec_ddiref01_Labels)) = ddiref01_Labels v0 := by
  rw [ddiref01_Labels_eq]; kernel_rfl
theorem c_ddiref01_Labels : cFn (TIof Tryd.prog) Tryd.f26 = some ⟨11, [(.t 2)], scOf a_ddiref01_Labels⟩ := by kernel_rfl
noncomputable def ent_ddiref01_Labels {R : Type} (xs : List AV) (K : AV → Option R) : Option R := chk (fitS shp_ddiref01_Labels (entry xs) Mem.none) (oB (ddiref01_Labels (gS [(entry xs) 0] 0)) fun r => K (enc_ddiref01_Labels r))
theorem k_ddiref01_Labels {R : Type} : EntOkB Tryd.prog 26 (ent_ddiref01_Labels (R := R)) :=
  ent_of (F := fun xs => ddiref01_Labels (gS [(entry xs) 0] 0)) (enc := enc_ddiref01_Labels) tabOk follows Tryd.func26 (by kernel_rfl) c_ddiref01_Labels (fun z r h => by
    obtain ⟨h1, h2⟩ := cond_some h
    cases h2
    exact (etaRV_eq h1).symm) ok_ddiref01_Labels (er_of (by kernel_rfl)) shp_ddiref01_Labels (fun xs => t_ddiref01_Labels (gS [(entry xs) 0] 0)) (fun xs K r h => by
    unfold ent_ddiref01_Labels at h
    exact ⟨(chk_some h).1, oB_some (chk_some h).2⟩)

/-! ddi/ddiref01.Valid -/
def dec_ddiref01_Valid (z : AV) : Option Bool := cond (fitRV (.one .b) z) (some (aB z)) none
def enc_ddiref01_Valid (r : Bool) : AV := .bool r
def shp_ddiref01_Valid : Shp := ⟨[(0, .one (.l .s))], []⟩
noncomputable def ddiref01_Valid_i (v0 : List UInt8) : Option Bool :=
  (oB (ddiref01_split v0) fun r1 => (some r1.2))
noncomputable def ddiref01_Valid := hull ddiref01_Valid_i
theorem ddiref01_Valid_eq : ddiref01_Valid = ddiref01_Valid_i := hull_eq _
noncomputable def a_ddiref01_Valid : AC Bool :=
  .seq (.reg [.op ⟨(some 2), (.mv (.c (.bool false))), none⟩]) (.seq (.reg [.op ⟨(some 6), (.mv (.t 0)), none⟩,
    .callc ⟨(some 7), (.call 43 [(.t 6)]), none⟩ 43 ent_ddiref01_split,
    .op ⟨(some 5), (.mv (.t 7)), none⟩,
    .op ⟨(some 8), (.ext (.t 5) 0), none⟩,
    .op ⟨(some 9), (.ext (.t 5) 1), none⟩,
    .op ⟨(some 3), (.mv (.t 8)), none⟩,
    .op ⟨(some 4), (.mv (.t 9)), none⟩]) (.seq (.reg [.op ⟨(some 10), (.mv (.t 4)), none⟩,
    .op ⟨(some 2), (.mv (.t 10)), none⟩]) (.ret)))
theorem ok_ddiref01_Valid : AC.ok Tryd.prog (TIof Tryd.prog) 11 0 (kret [(.t 2)] dec_ddiref01_Valid) a_ddiref01_Valid := (And.intro True.intro (And.intro (And.intro (EntOkB.ok k_ddiref01_split) True.intro) (And.intro True.intro True.intro)))
theorem t_ddiref01_Valid (v0 : List UInt8) : den 0 (kret [(.t 2)] dec_ddiref01_Valid) a_ddiref01_Valid (envOf [(0, (.str v0))]) (memOf []) (kend (kret [(.t 2)] dec_ddiref01_Valid)) = ddiref01_Valid v0 := by
  rw [ddiref01_Valid_eq]; kernel_rfl
theorem c_ddiref01_Valid : cFn (TIof Tryd.prog) Tryd.f40 = some ⟨11, [(.t 2)], scOf a_ddiref01_Valid⟩ := by kernel_rfl
noncomputable def ent_ddiref01_Valid {R : Type} (xs : List AV) (K : AV → Option R) : Option R := chk (fitS shp_ddiref01_Valid (entry xs) Mem.none) (oB (ddiref01_Valid (gS [(entry xs) 0] 0)) fun r => K (enc_ddiref01_Valid r))
theorem k_ddiref01_Valid {R : Type} : EntOkB Tryd.prog 40 (ent_ddiref01_Valid (R := R)) :=
  ent_of (F := fun xs => ddiref01_Valid (gS [(entry xs) 0] 0)) (enc := enc_ddiref01_Valid) tabOk follows Tryd.func40 (by kernel_rfl) c_ddiref01_Valid (fun z r h => by
    obtain ⟨h1, h2⟩ := cond_some h
    cases h2
    exact (etaRV_eq h1).symm) ok_ddiref01_Valid (er_of (by kernel_rfl)) shp_ddiref01_Valid (fun xs => t_ddiref01_Valid (gS [(entry xs) 0] 0)) (fun xs K r h => by
    unfold ent_ddiref01_Valid at h
    exact ⟨(chk_some h).1, oB_some (chk_some h).2⟩)

/-! ddi/ddiref25.list -/
def dec_ddiref25_list (z : AV) : Option Bool := cond (fitRV (.one .b) z) (some (aB z)) none
def enc_ddiref25_list (r : Bool) : AV := .bool r
def shp_ddiref25_list_J16 : Shp := ⟨[(0, .one (.l (.sl 6))), (3, .one (.l (.i .i64)))], []⟩
noncomputable def ddiref25_list_J16_i  (v0 : List AV) (v3 : Int) (kn : Bool → Option Bool) : Option Bool :=
  (oB (ixB v0 v3) fun y1 => (bif fitC T_api_Match y1.cells then (bif (gB y1.cells 4) then (oB (ixB v0 v3) fun y2 => (bif fitC T_api_Match y2.cells then (bif (!(((gB y2.cells 0) == false) && (((gI y2.cells 1) == (0 : Int)) && (((gI y2.cells 2) == (0 : Int)) && (((gI y2.cells 3) == (0 : Int)) && true))))) then (kn true) else (oB (ixB v0 v3) fun y3 => (bif fitC T_api_Match y3.cells then (bif (!(gB y3.cells 4)) then (oB (ixB v0 v3) fun y4 => (bif fitC T_api_Match y4.cells then (oB (ddiref03_Valid (gB y4.cells 0) (gI y4.cells 1) (gI y4.cells 2) (gI y4.cells 3)) fun r5 => (kn (!r5))) else none)) else (kn false)) else none))) else none)) else (oB (ixB v0 v3) fun y6 => (bif fitC T_api_Match y6.cells then (bif (!(gB y6.cells 4)) then (oB (ixB v0 v3) fun y7 => (bif fitC T_api_Match y7.cells then (oB (ddiref03_Valid (gB y7.cells 0) (gI y7.cells 1) (gI y7.cells 2) (gI y7.cells 3)) fun r8 => (kn (!r8))) else none)) else (kn false)) else none))) else none))
noncomputable def ddiref25_list_J16 := hull (ddiref25_list_J16_i)
theorem ddiref25_list_J16_eq : ddiref25_list_J16 = ddiref25_list_J16_i := hull_eq _
noncomputable def a_ddiref25_list_J16 : AC Bool :=
  .seq (.reg [.op ⟨(some 10), (.mv (.t 0)), none⟩,
    .op ⟨(some 11), (.mv (.t 3)), none⟩,
    .op ⟨(some 12), (.ia 6 (.t 10) (.t 11)), none⟩,
    .st (.etac 12 T_api_Match),
    .op ⟨(some 13), (.fa 4 (.t 12)), none⟩,
    .op ⟨(some 14), (.load false 1 (.t 13)), none⟩,
    .op ⟨(some 15), (.mv (.t 14)), none⟩,
    .op ⟨(some 16), (.mv (.t 0)), (some (15, true))⟩,
    .op ⟨(some 17), (.mv (.t 3)), (some (15, true))⟩,
    .op ⟨(some 18), (.ia 6 (.t 16) (.t 17)), (some (15, true))⟩,
    .stg 15 true (.etac 18 T_api_Match),
    .op ⟨(some 19), (.fa 0 (.t 18)), (some (15, true))⟩,
    .op ⟨(some 20), (.load true 4 (.t 19)), (some (15, true))⟩,
    .op ⟨(some 21), (.build [(.bool false), (.int .u64 0), (.int .u64 0), (.int .i64 0)] []), (some (15, true))⟩,
    .op ⟨(some 22), (.eq true true [.b, (.i .u64), (.i .u64), (.i .i64)] (.t 20) (.t 21)), (some (15, true))⟩,
    .op ⟨(some 23), (.pick (.t 15) (.t 22) (.c (.bool false))), none⟩,
    .op ⟨(some 24), (.mv (.t 23)), none⟩,
    .op ⟨(some 25), (.mv (.t 0)), (some (24, false))⟩,
    .op ⟨(some 26), (.mv (.t 3)), (some (24, false))⟩,
    .op ⟨(some 27), (.ia 6 (.t 25) (.t 26)), (some (24, false))⟩,
    .stg 24 false (.etac 27 T_api_Match),
    .op ⟨(some 28), (.fa 4 (.t 27)), (some (24, false))⟩,
    .op ⟨(some 29), (.load false 1 (.t 28)), (some (24, false))⟩,
    .op ⟨(some 30), (.un .not (.t 29)), (some (24, false))⟩,
    .op ⟨(some 31), (.mv (.t 30)), (some (24, false))⟩,
    .op ⟨(some 32), (.mv (.t 0)), (some (31, true))⟩,
    .op ⟨(some 33), (.mv (.t 3)), (some (31, true))⟩,
    .op ⟨(some 34), (.ia 6 (.t 32) (.t 33)), (some (31, true))⟩,
    .stg 31 true (.etac 34 T_api_Match),
    .op ⟨(some 35), (.fa 0 (.t 34)), (some (31, true))⟩,
    .op ⟨(some 36), (.load true 4 (.t 35)), (some (31, true))⟩,
    .call ⟨(some 37), (.call 31 [(.t 36)]), (some (31, true))⟩ 31 ent_ddiref03_Valid,
    .op ⟨(some 38), (.un .not (.t 37)), (some (31, true))⟩,
    .op ⟨(some 39), (.pick (.t 31) (.t 38) (.c (.bool false))), (some (24, false))⟩,
    .op ⟨(some 40), (.pick (.t 24) (.c (.bool true)) (.t 39)), none⟩]) (.view [.sel [0, 3, 40] []])
theorem ok_ddiref25_list_J16 : AC.ok Tryd.prog (TIof Tryd.prog) 41 0 (kret [(.t 2)] dec_ddiref25_list) a_ddiref25_list_J16 := (And.intro (And.intro (EntOkB.ok k_ddiref03_Valid) True.intro) True.intro)
theorem t_ddiref25_list_J16 (v0 : List AV) (v3 : Int) (K : Ex → Env → Mem → Option Bool) : den 0 (kret [(.t 2)] dec_ddiref25_list) a_ddiref25_list_J16 (envOf [(0, (.sl 6 v0)), (3, (.int .i64 v3))]) (memOf []) K = ddiref25_list_J16 v0 v3 (fun z_v40 => K .norm (envOf [(0, (.sl 6 v0)), (3, (.int .i64 v3)), (40, (.bool z_v40))]) (memOf [])) := by
  rw [ddiref25_list_J16_eq]; kernel_rfl
noncomputable def s_ddiref25_list_J16 : Env → Mem → (Ex → Env → Mem → Option Bool) → Option Bool := fun t m K => chk (fitS0 shp_ddiref25_list_J16 t m) (cond (hdS shp_ddiref25_list_J16 t m) (ddiref25_list_J16 (gL [t 0] 0) (gI [t 3] 0) (fun z_v40 => K .norm (envOf [(0, (.sl 6 (gL [t 0] 0))), (3, (.int .i64 (gI [t 3] 0))), (40, (.bool z_v40))]) (memOf []))) none)
theorem o_ddiref25_list_J16 : SubOk Tryd.prog (TIof Tryd.prog) 41 0 (kret [(.t 2)] dec_ddiref25_list) (scOf a_ddiref25_list_J16) s_ddiref25_list_J16 :=
  sub_of tabOk follows ok_ddiref25_list_J16 (er_of (by kernel_rfl)) shp_ddiref25_list_J16 (fun t m K => congrArg (fun z => chk (fitS0 shp_ddiref25_list_J16 t m) (cond (hdS shp_ddiref25_list_J16 t m) z none)) (t_ddiref25_list_J16 (gL [t 0] 0) (gI [t 3] 0) K).symm)
def shp_ddiref25_list_L6 : Shp := ⟨[(0, .one (.l (.sl 6))), (3, .one (.l (.i .i64)))], []⟩
noncomputable def ddiref25_list_L6_b  (v0 : List AV) (v3 : Int) (next : Int → Option Bool) (kx0 : Unit → Option Bool) : Option Bool :=
  (bif (decide (v3 < (v0.length : Int))) then (ddiref25_list_J16 v0 v3 (fun v40q1 => (bif v40q1 then (some false) else (next (IntKind.i64.wrap (v3 + (1 : Int))))))) else (kx0 ()))
noncomputable def ddiref25_list_L6_i  (v0 : List AV) (kx0 : Unit → Option Bool) : Nat → Int → Option Bool
  | 0 => (fun _ => none)
  | n + 1 => (fun v3 => ddiref25_list_L6_b v0 v3 (ddiref25_list_L6_i v0 kx0 n) kx0)
noncomputable def ddiref25_list_L6 := hull (ddiref25_list_L6_i)
theorem ddiref25_list_L6_eq : ddiref25_list_L6 = ddiref25_list_L6_i := hull_eq _
noncomputable def a_ddiref25_list_L6 : AC Bool :=
  .seq (.seq (.reg [.op ⟨(some 4), (.mv (.t 3)), none⟩,
    .op ⟨(some 5), (.mv (.t 0)), none⟩,
    .op ⟨(some 6), (.len false (.t 5)), none⟩,
    .op ⟨(some 7), (.bin .lss (.t 4) (.t 6)), none⟩]) (.cond (.t 7) (.skip) (.seq (.view [.sel [] []]) (.exit 0)))) (.seq (.block 1 (.seq (.seq (.view [.sel [0, 3] []]) (.sub (scOf a_ddiref25_list_J16) s_ddiref25_list_J16)) (.cond (.t 40) (.seq (.reg [.op ⟨(some 2), (.mv (.c (.bool false))), none⟩]) (.ret)) (.skip)))) (.seq (.reg [.op ⟨(some 8), (.mv (.t 3)), none⟩,
    .op ⟨(some 9), (.bin .add (.t 8) (.c (.int .i64 1))), none⟩,
    .op ⟨(some 3), (.mv (.t 9)), none⟩]) (.view [.sel [0, 3] []])))
theorem ok_ddiref25_list_L6 : AC.ok Tryd.prog (TIof Tryd.prog) 41 0 (kret [(.t 2)] dec_ddiref25_list) a_ddiref25_list_L6 := (And.intro (And.intro True.intro (And.intro True.intro (And.intro True.intro True.intro))) (And.intro (And.intro (And.intro True.intro o_ddiref25_list_J16) (And.intro (And.intro True.intro True.intro) True.intro)) (And.intro True.intro True.intro)))
theorem t_ddiref25_list_L6_b (v0 : List AV) (v3 : Int) (K : Ex → Env → Mem → Option Bool) : den 0 (kret [(.t 2)] dec_ddiref25_list) a_ddiref25_list_L6 (envOf [(0, (.sl 6 v0)), (3, (.int .i64 v3))]) (memOf []) K = ddiref25_list_L6_b v0 v3 (fun z_v3 => K .norm (envOf [(0, (.sl 6 v0)), (3, (.int .i64 z_v3))]) (memOf [])) (fun _ => K (.exit 0) (envOf []) (memOf [])) := by kernel_rfl
theorem t_ddiref25_list_L6 (v0 : List AV) (K : Ex → Env → Mem → Option Bool) : ∀ (n : Nat) (v3 : Int), iterD (den 0 (kret [(.t 2)] dec_ddiref25_list) a_ddiref25_list_L6) n (envOf [(0, (.sl 6 v0)), (3, (.int .i64 v3))]) (memOf []) K = ddiref25_list_L6 v0 (fun _ => K (.exit 0) (envOf []) (memOf [])) n v3 := by
  rw [ddiref25_list_L6_eq]
  intro n
  induction n with
  | zero => intros; rfl
  | succ n ih =>
    intro v3
    exact (t_ddiref25_list_L6_b v0 v3 (itK (den 0 (kret [(.t 2)] dec_ddiref25_list) a_ddiref25_list_L6) n K)).trans (congrArg (fun q => ddiref25_list_L6_b v0 v3 q (fun _ => K (.exit 0) (envOf []) (memOf []))) (funext fun v3 => ih v3))
noncomputable def s_ddiref25_list_L6 : Env → Mem → (Ex → Env → Mem → Option Bool) → Option Bool := fun t m K => chk (fitS0 shp_ddiref25_list_L6 t m) (cond (hdS shp_ddiref25_list_L6 t m) (ddiref25_list_L6 (gL [t 0] 0) (fun _ => K (.exit 0) (envOf []) (memOf [])) FU (gI [t 3] 0)) none)
theorem o_ddiref25_list_L6 : SubOk Tryd.prog (TIof Tryd.prog) 41 0 (kret [(.t 2)] dec_ddiref25_list) (.loop (scOf a_ddiref25_list_L6)) s_ddiref25_list_L6 :=
  loop_of tabOk follows ok_ddiref25_list_L6 (er_of (by kernel_rfl)) shp_ddiref25_list_L6 (fun t m K => congrArg (fun z => chk (fitS0 shp_ddiref25_list_L6 t m) (cond (hdS shp_ddiref25_list_L6 t m) z none)) (t_ddiref25_list_L6 (gL [t 0] 0) K FU (gI [t 3] 0)).symm)
def shp_ddiref25_list : Shp := ⟨[(0, .one (.l (.sl 6)))], []⟩
noncomputable def ddiref25_list_i (v0 : List AV) : Option Bool :=
  (ddiref25_list_L6 v0 (fun (_ : Unit) => (some true)) FU (0 : Int))
noncomputable def ddiref25_list := hull ddiref25_list_i
theorem ddiref25_list_eq : ddiref25_list = ddiref25_list_i := hull_eq _
noncomputable def a_ddiref25_list : AC Bool :=
  .seq (.reg [.op ⟨(some 2), (.mv (.c (.bool false))), none⟩]) (.seq (.seq (.reg [.op ⟨(some 3), (.mv (.c (.int .i64 0))), none⟩]) (.block 0 (.seq (.view [.sel [0, 3] []]) (.sub (.loop (scOf a_ddiref25_list_L6)) s_ddiref25_list_L6)))) (.seq (.reg [.op ⟨(some 2), (.mv (.c (.bool true))), none⟩]) (.ret)))
theorem ok_ddiref25_list : AC.ok Tryd.prog (TIof Tryd.prog) 41 0 (kret [(.t 2)] dec_ddiref25_list) a_ddiref25_list := (And.intro True.intro (And.intro (And.intro True.intro (And.intro True.intro o_ddiref25_list_L6)) (And.intro True.intro True.intro)))
theorem t_ddiref25_list (v0 : List AV) : den 0 (kret [(.t 2)] dec_ddiref25_list) a_ddiref25_list (envOf [(0, (.sl 6 v0))]) (memOf []) (kend (kret [(.t 2)] dec_ddiref25_list)) = ddiref25_list v0 := by
  rw [ddiref25_list_eq]; kernel_rfl
theorem c_ddiref25_list : cFn (TIof Tryd.prog) Tryd.f41 = some ⟨41, [(.t 2)], scOf a_ddiref25_list⟩ := by kernel_rfl
noncomputable def ent_ddiref25_list {R : Type} (xs : List AV) (K : AV → Option R) : Option R := chk (fitS shp_ddiref25_list (entry xs) Mem.none) (oB (ddiref25_list (gL [(entry xs) 0] 0)) fun r => K (enc_ddiref25_list r))
theorem k_ddiref25_list {R : Type} : EntOkB Tryd.prog 41 (ent_ddiref25_list (R := R)) :=
  ent_of (F := fun xs => ddiref25_list (gL [(entry xs) 0] 0)) (enc := enc_ddiref25_list) tabOk follows Tryd.func41 (by kernel_rfl) c_ddiref25_list (fun z r h => by
    obtain ⟨h1, h2⟩ := cond_some h
    cases h2
    exact (etaRV_eq h1).symm) ok_ddiref25_list (er_of (by kernel_rfl)) shp_ddiref25_list (fun xs => t_ddiref25_list (gL [(entry xs) 0] 0)) (fun xs K r h => by
    unfold ent_ddiref25_list at h
    exact ⟨(chk_some h).1, oB_some (chk_some h).2⟩)

/-! ddi/ddiref25.one -/
def dec_ddiref25_one (z : AV) : Option Int := cond (fitRV (.one (.i .i64)) z) (some (aI z)) none
def enc_ddiref25_one (r : Int) : AV := .int .i64 r
def shp_ddiref25_one_J34 : Shp := ⟨[(1, .one (.l (.sl 6))), (2, .one (.ptr 0 0)), (5, .one (.l (.i .i64))), (6, .one (.l (.sl 1)))], [.box true [(.l .s), (.l (.sl 6)), (.l (.sl 6)), (.l (.sl 6)), (.l (.sl 1)), (.l (.sl 8))]]⟩
noncomputable def ddiref25_one_J34_i  (v1 : List AV) (v5 : Int) (v6 : List AV) (b0_0 : List UInt8) (b0_1 : List AV) (b0_2 : List AV) (b0_3 : List AV) (b0_4 : List AV) (b0_5 : List AV) (kn : Bool → Option Int) : Option Int :=
  (oB (ixB b0_4 v5) fun y1 => (bif fitC [.s] y1.cells then (oB (ddiref01_Valid (gS y1.cells 0)) fun r2 => (bif (!r2) then (kn true) else (bif (decide ((v6.length : Int) > (0 : Int))) then (oB (ixB v6 (0 : Int)) fun y3 => (bif fitC [.s] y3.cells then (kn ((gS y3.cells 0) == ([42] : List UInt8))) else none)) else (kn false)))) else none))
noncomputable def ddiref25_one_J34 := hull (ddiref25_one_J34_i)
theorem ddiref25_one_J34_eq : ddiref25_one_J34 = ddiref25_one_J34_i := hull_eq _
noncomputable def a_ddiref25_one_J34 : AC Int :=
  .seq (.reg [.op ⟨(some 49), (.fa 4 (.t 2)), none⟩,
    .op ⟨(some 50), (.load false 1 (.t 49)), none⟩,
    .op ⟨(some 51), (.mv (.t 5)), none⟩,
    .op ⟨(some 52), (.ia 1 (.t 50) (.t 51)), none⟩,
    .st (.etac 52 [.s]),
    .op ⟨(some 53), (.load false 1 (.t 52)), none⟩,
    .call ⟨(some 54), (.call 40 [(.t 53)]), none⟩ 40 ent_ddiref01_Valid,
    .op ⟨(some 55), (.un .not (.t 54)), none⟩,
    .op ⟨(some 56), (.mv (.t 55)), none⟩,
    .op ⟨(some 57), (.mv (.t 6)), (some (56, false))⟩,
    .op ⟨(some 58), (.len false (.t 57)), (some (56, false))⟩,
    .op ⟨(some 59), (.bin .gtr (.t 58) (.c (.int .i64 0))), (some (56, false))⟩,
    .op ⟨(some 60), (.mv (.t 59)), (some (56, false))⟩,
    .op ⟨(some 61), (.mv (.t 6)), (some (60, true))⟩,
    .op ⟨(some 62), (.ia 1 (.t 61) (.c (.int .i64 0))), (some (60, true))⟩,
    .stg 60 true (.etac 62 [.s]),
    .op ⟨(some 63), (.load false 1 (.t 62)), (some (60, true))⟩,
    .op ⟨(some 64), (.bin .eql (.t 63) (.c (.str [42]))), (some (60, true))⟩,
    .op ⟨(some 65), (.pick (.t 60) (.t 64) (.c (.bool false))), (some (56, false))⟩,
    .op ⟨(some 66), (.pick (.t 56) (.c (.bool true)) (.t 65)), none⟩]) (.view [.sel [1, 2, 5, 66] [0]])
theorem ok_ddiref25_one_J34 : AC.ok Tryd.prog (TIof Tryd.prog) 120 0 (kret [(.t 4)] dec_ddiref25_one) a_ddiref25_one_J34 := (And.intro (And.intro (EntOkB.ok k_ddiref01_Valid) True.intro) True.intro)
theorem t_ddiref25_one_J34 (v1 : List AV) (v5 : Int) (v6 : List AV) (b0_0 : List UInt8) (b0_1 : List AV) (b0_2 : List AV) (b0_3 : List AV) (b0_4 : List AV) (b0_5 : List AV) (K : Ex → Env → Mem → Option Int) : den 0 (kret [(.t 4)] dec_ddiref25_one) a_ddiref25_one_J34 (envOf [(1, (.sl 6 v1)), (2, (.ptr 0 0)), (5, (.int .i64 v5)), (6, (.sl 1 v6))]) (memOf [(some (.box true [(.str b0_0), (.sl 6 b0_1), (.sl 6 b0_2), (.sl 6 b0_3), (.sl 1 b0_4), (.sl 8 b0_5)]))]) K = ddiref25_one_J34 v1 v5 v6 b0_0 b0_1 b0_2 b0_3 b0_4 b0_5 (fun z_v66 => K .norm (envOf [(1, (.sl 6 v1)), (2, (.ptr 0 0)), (5, (.int .i64 v5)), (66, (.bool z_v66))]) (memOf [(some (.box true [(.str b0_0), (.sl 6 b0_1), (.sl 6 b0_2), (.sl 6 b0_3), (.sl 1 b0_4), (.sl 8 b0_5)]))])) := by
  rw [ddiref25_one_J34_eq]; kernel_rfl
noncomputable def s_ddiref25_one_J34 : Env → Mem → (Ex → Env → Mem → Option Int) → Option Int := fun t m K => chk (fitS0 shp_ddiref25_one_J34 t m) (cond (hdS shp_ddiref25_one_J34 t m) (ddiref25_one_J34 (gL [t 1] 0) (gI [t 5] 0) (gL [t 6] 0) (gS (bxC (m.s 0)) 0) (gL (bxC (m.s 0)) 1) (gL (bxC (m.s 0)) 2) (gL (bxC (m.s 0)) 3) (gL (bxC (m.s 0)) 4) (gL (bxC (m.s 0)) 5) (fun z_v66 => K .norm (envOf [(1, (.sl 6 (gL [t 1] 0))), (2, (.ptr 0 0)), (5, (.int .i64 (gI [t 5] 0))), (66, (.bool z_v66))]) (memOf [(some (.box true [(.str (gS (bxC (m.s 0)) 0)), (.sl 6 (gL (bxC (m.s 0)) 1)), (.sl 6 (gL (bxC (m.s 0)) 2)), (.sl 6 (gL (bxC (m.s 0)) 3)), (.sl 1 (gL (bxC (m.s 0)) 4)), (.sl 8 (gL (bxC (m.s 0)) 5))]))]))) none)
theorem o_ddiref25_one_J34 : SubOk Tryd.prog (TIof Tryd.prog) 120 0 (kret [(.t 4)] dec_ddiref25_one) (scOf a_ddiref25_one_J34) s_ddiref25_one_J34 :=
  sub_of tabOk follows ok_ddiref25_one_J34 (er_of (by kernel_rfl)) shp_ddiref25_one_J34 (fun t m K => congrArg (fun z => chk (fitS0 shp_ddiref25_one_J34 t m) (cond (hdS shp_ddiref25_one_J34 t m) z none)) (t_ddiref25_one_J34 (gL [t 1] 0) (gI [t 5] 0) (gL [t 6] 0) (gS (bxC (m.s 0)) 0) (gL (bxC (m.s 0)) 1) (gL (bxC (m.s 0)) 2) (gL (bxC (m.s 0)) 3) (gL (bxC (m.s 0)) 4) (gL (bxC (m.s 0)) 5) K).symm)
def shp_ddiref25_one_L22 : Shp := ⟨[(1, .one (.l (.sl 6))), (2, .one (.ptr 0 0)), (5, .one (.l (.i .i64)))], [.box true [(.l .s), (.l (.sl 6)), (.l (.sl 6)), (.l (.sl 6)), (.l (.sl 1)), (.l (.sl 8))]]⟩
noncomputable def ddiref25_one_L22_b  (v1 : List AV) (v5 : Int) (b0_0 : List UInt8) (b0_1 : List AV) (b0_2 : List AV) (b0_3 : List AV) (b0_4 : List AV) (b0_5 : List AV) (next : Int → Option Int) (kx0 : Unit → Option Int) : Option Int :=
  (bif (decide (v5 < (b0_4.length : Int))) then (oB (ixB b0_4 v5) fun y1 => (bif fitC [.s] y1.cells then (oB (ddiref01_Labels (gS y1.cells 0)) fun r2 => (ddiref25_one_J34 v1 v5 r2 b0_0 b0_1 b0_2 b0_3 b0_4 b0_5 (fun v66q3 => (bif v66q3 then (some (2 : Int)) else (next (IntKind.i64.wrap (v5 + (1 : Int)))))))) else none)) else (kx0 ()))
noncomputable def ddiref25_one_L22_i  (v1 : List AV) (b0_0 : List UInt8) (b0_1 : List AV) (b0_2 : List AV) (b0_3 : List AV) (b0_4 : List AV) (b0_5 : List AV) (kx0 : Unit → Option Int) : Nat → Int → Option Int
  | 0 => (fun _ => none)
  | n + 1 => (fun v5 => ddiref25_one_L22_b v1 v5 b0_0 b0_1 b0_2 b0_3 b0_4 b0_5 (ddiref25_one_L22_i v1 b0_0 b0_1 b0_2 b0_3 b0_4 b0_5 kx0 n) kx0)
noncomputable def ddiref25_one_L22 := hull (ddiref25_one_L22_i)
theorem ddiref25_one_L22_eq : ddiref25_one_L22 = ddiref25_one_L22_i := hull_eq _
noncomputable def a_ddiref25_one_L22 : AC Int :=
  .seq (.seq (.reg [.op ⟨(some 36), (.mv (.t 5)), none⟩,
    .op ⟨(some 37), (.fa 4 (.t 2)), none⟩,
    .op ⟨(some 38), (.load false 1 (.t 37)), none⟩,
    .op ⟨(some 39), (.len false (.t 38)), none⟩,
    .op ⟨(some 40), (.bin .lss (.t 36) (.t 39)), none⟩]) (.cond (.t 40) (.skip) (.seq (.view [.sel [1, 2] [0]]) (.exit 0)))) (.seq (.block 1 (.seq (.reg [.op ⟨(some 43), (.fa 4 (.t 2)), none⟩,
    .op ⟨(some 44), (.load false 1 (.t 43)), none⟩,
    .op ⟨(some 45), (.mv (.t 5)), none⟩,
    .op ⟨(some 46), (.ia 1 (.t 44) (.t 45)), none⟩,
    .st (.etac 46 [.s]),
    .op ⟨(some 47), (.load false 1 (.t 46)), none⟩,
    .callc ⟨(some 48), (.call 26 [(.t 47)]), none⟩ 26 ent_ddiref01_Labels,
    .op ⟨(some 6), (.mv (.t 48)), none⟩]) (.seq (.seq (.view [.sel [1, 2, 5, 6] [0]]) (.sub (scOf a_ddiref25_one_J34) s_ddiref25_one_J34)) (.cond (.t 66) (.seq (.reg [.op ⟨(some 4), (.mv (.c (.int .i64 2))), none⟩]) (.ret)) (.skip))))) (.seq (.reg [.op ⟨(some 41), (.mv (.t 5)), none⟩,
    .op ⟨(some 42), (.bin .add (.t 41) (.c (.int .i64 1))), none⟩,
    .op ⟨(some 5), (.mv (.t 42)), none⟩]) (.view [.sel [1, 2, 5] [0]])))
theorem ok_ddiref25_one_L22 : AC.ok Tryd.prog (TIof Tryd.prog) 120 0 (kret [(.t 4)] dec_ddiref25_one) a_ddiref25_one_L22 := (And.intro (And.intro True.intro (And.intro True.intro (And.intro True.intro True.intro))) (And.intro (And.intro (And.intro (EntOkB.ok k_ddiref01_Labels) True.intro) (And.intro (And.intro True.intro o_ddiref25_one_J34) (And.intro (And.intro True.intro True.intro) True.intro))) (And.intro True.intro True.intro)))
theorem t_ddiref25_one_L22_b (v1 : List AV) (v5 : Int) (b0_0 : List UInt8) (b0_1 : List AV) (b0_2 : List AV) (b0_3 : List AV) (b0_4 : List AV) (b0_5 : List AV) (K : Ex → Env → Mem → Option Int) : den 0 (kret [(.t 4)] dec_ddiref25_one) a_ddiref25_one_L22 (envOf [(1, (.sl 6 v1)), (2, (.ptr 0 0)), (5, (.int .i64 v5))]) (memOf [(some (.box true [(.str b0_0), (.sl 6 b0_1), (.sl 6 b0_2), (.sl 6 b0_3), (.sl 1 b0_4), (.sl 8 b0_5)]))]) K = ddiref25_one_L22_b v1 v5 b0_0 b0_1 b0_2 b0_3 b0_4 b0_5 (fun z_v5 => K .norm (envOf [(1, (.sl 6 v1)), (2, (.ptr 0 0)), (5, (.int .i64 z_v5))]) (memOf [(some (.box true [(.str b0_0), (.sl 6 b0_1), (.sl 6 b0_2), (.sl 6 b0_3), (.sl 1 b0_4), (.sl 8 b0_5)]))])) (fun _ => K (.exit 0) (envOf [(1, (.sl 6 v1)), (2, (.ptr 0 0))]) (memOf [(some (.box true [(.str b0_0), (.sl 6 b0_1), (.sl 6 b0_2), (.sl 6 b0_3), (.sl 1 b0_4), (.sl 8 b0_5)]))])) := by kernel_rfl
theorem t_ddiref25_one_L22 (v1 : List AV) (b0_0 : List UInt8) (b0_1 : List AV) (b0_2 : List AV) (b0_3 : List AV) (b0_4 : List AV) (b0_5 : List AV) (K : Ex → Env → Mem → Option Int) : ∀ (n : Nat) (v5 : Int), iterD (den 0 (kret [(.t 4)] dec_ddiref25_one) a_ddiref25_one_L22) n (envOf [(1, (.sl 6 v1)), (2, (.ptr 0 0)), (5, (.int .i64 v5))]) (memOf [(some (.box true [(.str b0_0), (.sl 6 b0_1), (.sl 6 b0_2), (.sl 6 b0_3), (.sl 1 b0_4), (.sl 8 b0_5)]))]) K = ddiref25_one_L22 v1 b0_0 b0_1 b0_2 b0_3 b0_4 b0_5 (fun _ => K (.exit 0) (envOf [(1, (.sl 6 v1)), (2, (.ptr 0 0))]) (memOf [(some (.box true [(.str b0_0), (.sl 6 b0_1), (.sl 6 b0_2), (.sl 6 b0_3), (.sl 1 b0_4), (.sl 8 b0_5)]))])) n v5 := by
  rw [ddiref25_one_L22_eq]
  intro n
  induction n with
  | zero => intros; rfl
  | succ n ih =>
    intro v5
    exact (t_ddiref25_one_L22_b v1 v5 b0_0 b0_1 b0_2 b0_3 b0_4 b0_5 (itK (den 0 (kret [(.t 4)] dec_ddiref25_one) a_ddiref25_one_L22) n K)).trans (congrArg (fun q => ddiref25_one_L22_b v1 v5 b0_0 b0_1 b0_2 b0_3 b0_4 b0_5 q (fun _ => K (.exit 0) (envOf [(1, (.sl 6 v1)), (2, (.ptr 0 0))]) (memOf [(some (.box true [(.str b0_0), (.sl 6 b0_1), (.sl 6 b0_2), (.sl 6 b0_3), (.sl 1 b0_4), (.sl 8 b0_5)]))]))) (funext fun v5 => ih v5))
noncomputable def s_ddiref25_one_L22 : Env → Mem → (Ex → Env → Mem → Option Int) → Option Int := fun t m K => chk (fitS0 shp_ddiref25_one_L22 t m) (cond (hdS shp_ddiref25_one_L22 t m) (ddiref25_one_L22 (gL [t 1] 0) (gS (bxC (m.s 0)) 0) (gL (bxC (m.s 0)) 1) (gL (bxC (m.s 0)) 2) (gL (bxC (m.s 0)) 3) (gL (bxC (m.s 0)) 4) (gL (bxC (m.s 0)) 5) (fun _ => K (.exit 0) (envOf [(1, (.sl 6 (gL [t 1] 0))), (2, (.ptr 0 0))]) (memOf [(some (.box true [(.str (gS (bxC (m.s 0)) 0)), (.sl 6 (gL (bxC (m.s 0)) 1)), (.sl 6 (gL (bxC (m.s 0)) 2)), (.sl 6 (gL (bxC (m.s 0)) 3)), (.sl 1 (gL (bxC (m.s 0)) 4)), (.sl 8 (gL (bxC (m.s 0)) 5))]))])) FU (gI [t 5] 0)) none)
theorem o_ddiref25_one_L22 : SubOk Tryd.prog (TIof Tryd.prog) 120 0 (kret [(.t 4)] dec_ddiref25_one) (.loop (scOf a_ddiref25_one_L22)) s_ddiref25_one_L22 :=
  loop_of tabOk follows ok_ddiref25_one_L22 (er_of (by kernel_rfl)) shp_ddiref25_one_L22 (fun t m K => congrArg (fun z => chk (fitS0 shp_ddiref25_one_L22 t m) (cond (hdS shp_ddiref25_one_L22 t m) z none)) (t_ddiref25_one_L22 (gL [t 1] 0) (gS (bxC (m.s 0)) 0) (gL (bxC (m.s 0)) 1) (gL (bxC (m.s 0)) 2) (gL (bxC (m.s 0)) 3) (gL (bxC (m.s 0)) 4) (gL (bxC (m.s 0)) 5) K FU (gI [t 5] 0)).symm)
def shp_ddiref25_one_L45 : Shp := ⟨[(1, .one (.l (.sl 6))), (2, .one (.ptr 0 0)), (7, .one (.l (.i .i64)))], [.box true [(.l .s), (.l (.sl 6)), (.l (.sl 6)), (.l (.sl 6)), (.l (.sl 1)), (.l (.sl 8))]]⟩
noncomputable def ddiref25_one_L45_b  (v1 : List AV) (v7 : Int) (b0_0 : List UInt8) (b0_1 : List AV) (b0_2 : List AV) (b0_3 : List AV) (b0_4 : List AV) (b0_5 : List AV) (next : Int → Option Int) (kx2 : Unit → Option Int) : Option Int :=
  (bif (decide (v7 < (v1.length : Int))) then (oB (ixB v1 v7) fun y1 => (bif fitC X_api_View y1.cells then (bif ((gS y1.cells 0) == b0_0) then (some (12 : Int)) else (next (IntKind.i64.wrap (v7 + (1 : Int))))) else none)) else (kx2 ()))
noncomputable def ddiref25_one_L45_i  (v1 : List AV) (b0_0 : List UInt8) (b0_1 : List AV) (b0_2 : List AV) (b0_3 : List AV) (b0_4 : List AV) (b0_5 : List AV) (kx2 : Unit → Option Int) : Nat → Int → Option Int
  | 0 => (fun _ => none)
  | n + 1 => (fun v7 => ddiref25_one_L45_b v1 v7 b0_0 b0_1 b0_2 b0_3 b0_4 b0_5 (ddiref25_one_L45_i v1 b0_0 b0_1 b0_2 b0_3 b0_4 b0_5 kx2 n) kx2)
noncomputable def ddiref25_one_L45 := hull (ddiref25_one_L45_i)
theorem ddiref25_one_L45_eq : ddiref25_one_L45 = ddiref25_one_L45_i := hull_eq _
noncomputable def a_ddiref25_one_L45 : AC Int :=
  .seq (.seq (.reg [.op ⟨(some 67), (.mv (.t 7)), none⟩,
    .op ⟨(some 68), (.mv (.t 1)), none⟩,
    .op ⟨(some 69), (.len false (.t 68)), none⟩,
    .op ⟨(some 70), (.bin .lss (.t 67) (.t 69)), none⟩]) (.cond (.t 70) (.skip) (.seq (.view [.sel [2] [0]]) (.exit 2)))) (.seq (.block 3 (.seq (.draw [] [.op ⟨(some 73), (.mv (.t 1)), none⟩,
    .op ⟨(some 74), (.mv (.t 7)), none⟩,
    .op ⟨(some 75), (.ia 6 (.t 73) (.t 74)), none⟩,
    .et 75 X_api_View,
    .op ⟨(some 76), (.fa 0 (.t 75)), none⟩,
    .op ⟨(some 77), (.load false 1 (.t 76)), none⟩,
    .op ⟨(some 78), (.fa 0 (.t 2)), none⟩,
    .op ⟨(some 79), (.load false 1 (.t 78)), none⟩] [.op ⟨(some 80), (.bin .eql (.t 77) (.t 79)), none⟩]) (.cond (.t 80) (.seq (.reg [.op ⟨(some 4), (.mv (.c (.int .i64 12))), none⟩]) (.ret)) (.skip)))) (.seq (.reg [.op ⟨(some 71), (.mv (.t 7)), none⟩,
    .op ⟨(some 72), (.bin .add (.t 71) (.c (.int .i64 1))), none⟩,
    .op ⟨(some 7), (.mv (.t 72)), none⟩]) (.view [.sel [1, 2, 7] [0]])))
theorem ok_ddiref25_one_L45 : AC.ok Tryd.prog (TIof Tryd.prog) 120 0 (kret [(.t 4)] dec_ddiref25_one) a_ddiref25_one_L45 := (And.intro (And.intro True.intro (And.intro True.intro (And.intro True.intro True.intro))) (And.intro (And.intro (And.intro True.intro True.intro) (And.intro (And.intro True.intro True.intro) True.intro)) (And.intro True.intro True.intro)))
theorem t_ddiref25_one_L45_b (v1 : List AV) (v7 : Int) (b0_0 : List UInt8) (b0_1 : List AV) (b0_2 : List AV) (b0_3 : List AV) (b0_4 : List AV) (b0_5 : List AV) (K : Ex → Env → Mem → Option Int) : den 0 (kret [(.t 4)] dec_ddiref25_one) a_ddiref25_one_L45 (envOf [(1, (.sl 6 v1)), (2, (.ptr 0 0)), (7, (.int .i64 v7))]) (memOf [(some (.box true [(.str b0_0), (.sl 6 b0_1), (.sl 6 b0_2), (.sl 6 b0_3), (.sl 1 b0_4), (.sl 8 b0_5)]))]) K = ddiref25_one_L45_b v1 v7 b0_0 b0_1 b0_2 b0_3 b0_4 b0_5 (fun z_v7 => K .norm (envOf [(1, (.sl 6 v1)), (2, (.ptr 0 0)), (7, (.int .i64 z_v7))]) (memOf [(some (.box true [(.str b0_0), (.sl 6 b0_1), (.sl 6 b0_2), (.sl 6 b0_3), (.sl 1 b0_4), (.sl 8 b0_5)]))])) (fun _ => K (.exit 2) (envOf [(2, (.ptr 0 0))]) (memOf [(some (.box true [(.str b0_0), (.sl 6 b0_1), (.sl 6 b0_2), (.sl 6 b0_3), (.sl 1 b0_4), (.sl 8 b0_5)]))])) := by kernel_rfl
theorem t_ddiref25_one_L45 (v1 : List AV) (b0_0 : List UInt8) (b0_1 : List AV) (b0_2 : List AV) (b0_3 : List AV) (b0_4 : List AV) (b0_5 : List AV) (K : Ex → Env → Mem → Option Int) : ∀ (n : Nat) (v7 : Int), iterD (den 0 (kret [(.t 4)] dec_ddiref25_one) a_ddiref25_one_L45) n (envOf [(1, (.sl 6 v1)), (2, (.ptr 0 0)), (7, (.int .i64 v7))]) (memOf [(some (.box true [(.str b0_0), (.sl 6 b0_1), (.sl 6 b0_2), (.sl 6 b0_3), (.sl 1 b0_4), (.sl 8 b0_5)]))]) K = ddiref25_one_L45 v1 b0_0 b0_1 b0_2 b0_3 b0_4 b0_5 (fun _ => K (.exit 2) (envOf [(2, (.ptr 0 0))]) (memOf [(some (.box true [(.str b0_0), (.sl 6 b0_1), (.sl 6 b0_2), (.sl 6 b0_3), (.sl 1 b0_4), (.sl 8 b0_5)]))])) n v7 := by
  rw [ddiref25_one_L45_eq]
  intro n
  induction n with
  | zero => intros; rfl
  | succ n ih =>
    intro v7
    exact (t_ddiref25_one_L45_b v1 v7 b0_0 b0_1 b0_2 b0_3 b0_4 b0_5 (itK (den 0 (kret [(.t 4)] dec_ddiref25_one) a_ddiref25_one_L45) n K)).trans (congrArg (fun q => ddiref25_one_L45_b v1 v7 b0_0 b0_1 b0_2 b0_3 b0_4 b0_5 q (fun _ => K (.exit 2) (envOf [(2, (.ptr 0 0))]) (memOf [(some (.box true [(.str b0_0), (.sl 6 b0_1), (.sl 6 b0_2), (.sl 6 b0_3), (.sl 1 b0_4), (.sl 8 b0_5)]))]))) (funext fun v7 => ih v7))
noncomputable def s_ddiref25_one_L45 : Env → Mem → (Ex → Env → Mem → Option Int) → Option Int := fun t m K => chk (fitS0 shp_ddiref25_one_L45 t m) (cond (hdS shp_ddiref25_one_L45 t m) (ddiref25_one_L45 (gL [t 1] 0) (gS (bxC (m.s 0)) 0) (gL (bxC (m.s 0)) 1) (gL (bxC (m.s 0)) 2) (gL (bxC (m.s 0)) 3) (gL (bxC (m.s 0)) 4) (gL (bxC (m.s 0)) 5) (fun _ => K (.exit 2) (envOf [(2, (.ptr 0 0))]) (memOf [(some (.box true [(.str (gS (bxC (m.s 0)) 0)), (.sl 6 (gL (bxC (m.s 0)) 1)), (.sl 6 (gL (bxC (m.s 0)) 2)), (.sl 6 (gL (bxC (m.s 0)) 3)), (.sl 1 (gL (bxC (m.s 0)) 4)), (.sl 8 (gL (bxC (m.s 0)) 5))]))])) FU (gI [t 7] 0)) none)
theorem o_ddiref25_one_L45 : SubOk Tryd.prog (TIof Tryd.prog) 120 0 (kret [(.t 4)] dec_ddiref25_one) (.loop (scOf a_ddiref25_one_L45)) s_ddiref25_one_L45 :=
  loop_of tabOk follows ok_ddiref25_one_L45 (er_of (by kernel_rfl)) shp_ddiref25_one_L45 (fun t m K => congrArg (fun z => chk (fitS0 shp_ddiref25_one_L45 t m) (cond (hdS shp_ddiref25_one_L45 t m) z none)) (t_ddiref25_one_L45 (gL [t 1] 0) (gS (bxC (m.s 0)) 0) (gL (bxC (m.s 0)) 1) (gL (bxC (m.s 0)) 2) (gL (bxC (m.s 0)) 3) (gL (bxC (m.s 0)) 4) (gL (bxC (m.s 0)) 5) K FU (gI [t 7] 0)).symm)
def shp_ddiref25_one_L78 : Shp := ⟨[(2, .one (.ptr 0 0)), (8, .one (.l (.i .i64))), (9, .one (.l (.i .i64)))], [.box true [(.l .s), (.l (.sl 6)), (.l (.sl 6)), (.l (.sl 6)), (.l (.sl 1)), (.l (.sl 8))]]⟩
noncomputable def ddiref25_one_L78_b  (v8 : Int) (v9 : Int) (b0_0 : List UInt8) (b0_1 : List AV) (b0_2 : List AV) (b0_3 : List AV) (b0_4 : List AV) (b0_5 : List AV) (next : Int → Option Int) (kx6 : Unit → Option Int) : Option Int :=
  (bif (decide (v9 < v8)) then (oB (ixB b0_4 v8) fun y1 => (bif fitC [.s] y1.cells then (oB (ixB b0_4 v9) fun y2 => (bif fitC [.s] y2.cells then (bif ((gS y1.cells 0) == (gS y2.cells 0)) then (some (12 : Int)) else (next (IntKind.i64.wrap (v9 + (1 : Int))))) else none)) else none)) else (kx6 ()))
noncomputable def ddiref25_one_L78_i  (v8 : Int) (b0_0 : List UInt8) (b0_1 : List AV) (b0_2 : List AV) (b0_3 : List AV) (b0_4 : List AV) (b0_5 : List AV) (kx6 : Unit → Option Int) : Nat → Int → Option Int
  | 0 => (fun _ => none)
  | n + 1 => (fun v9 => ddiref25_one_L78_b v8 v9 b0_0 b0_1 b0_2 b0_3 b0_4 b0_5 (ddiref25_one_L78_i v8 b0_0 b0_1 b0_2 b0_3 b0_4 b0_5 kx6 n) kx6)
noncomputable def ddiref25_one_L78 := hull (ddiref25_one_L78_i)
theorem ddiref25_one_L78_eq : ddiref25_one_L78 = ddiref25_one_L78_i := hull_eq _
noncomputable def a_ddiref25_one_L78 : AC Int :=
  .seq (.seq (.reg [.op ⟨(some 88), (.mv (.t 9)), none⟩,
    .op ⟨(some 89), (.mv (.t 8)), none⟩,
    .op ⟨(some 90), (.bin .lss (.t 88) (.t 89)), none⟩]) (.cond (.t 90) (.skip) (.seq (.view [.sel [2, 8] [0]]) (.exit 6)))) (.seq (.block 7 (.seq (.draw [] [.op ⟨(some 93), (.fa 4 (.t 2)), none⟩,
    .op ⟨(some 94), (.load false 1 (.t 93)), none⟩,
    .op ⟨(some 95), (.mv (.t 8)), none⟩,
    .op ⟨(some 96), (.ia 1 (.t 94) (.t 95)), none⟩,
    .et 96 [.s],
    .op ⟨(some 97), (.load false 1 (.t 96)), none⟩,
    .op ⟨(some 98), (.fa 4 (.t 2)), none⟩,
    .op ⟨(some 99), (.load false 1 (.t 98)), none⟩,
    .op ⟨(some 100), (.mv (.t 9)), none⟩,
    .op ⟨(some 101), (.ia 1 (.t 99) (.t 100)), none⟩,
    .et 101 [.s],
    .op ⟨(some 102), (.load false 1 (.t 101)), none⟩] [.op ⟨(some 103), (.bin .eql (.t 97) (.t 102)), none⟩]) (.cond (.t 103) (.seq (.reg [.op ⟨(some 4), (.mv (.c (.int .i64 12))), none⟩]) (.ret)) (.skip)))) (.seq (.reg [.op ⟨(some 91), (.mv (.t 9)), none⟩,
    .op ⟨(some 92), (.bin .add (.t 91) (.c (.int .i64 1))), none⟩,
    .op ⟨(some 9), (.mv (.t 92)), none⟩]) (.view [.sel [2, 8, 9] [0]])))
theorem ok_ddiref25_one_L78 : AC.ok Tryd.prog (TIof Tryd.prog) 120 0 (kret [(.t 4)] dec_ddiref25_one) a_ddiref25_one_L78 := (And.intro (And.intro True.intro (And.intro True.intro (And.intro True.intro True.intro))) (And.intro (And.intro (And.intro True.intro True.intro) (And.intro (And.intro True.intro True.intro) True.intro)) (And.intro True.intro True.intro)))
theorem t_ddiref25_one_L78_b (v8 : Int) (v9 : Int) (b0_0 : List UInt8) (b0_1 : List AV) (b0_2 : List AV) (b0_3 : List AV) (b0_4 : List AV) (b0_5 : List AV) (K : Ex → Env → Mem → Option Int) : den 0 (kret [(.t 4)] dec_ddiref25_one) a_ddiref25_one_L78 (envOf [(2, (.ptr 0 0)), (8, (.int .i64 v8)), (9, (.int .i64 v9))]) (memOf [(some (.box true [(.str b0_0), (.sl 6 b0_1), (.sl 6 b0_2), (.sl 6 b0_3), (.sl 1 b0_4), (.sl 8 b0_5)]))]) K = ddiref25_one_L78_b v8 v9 b0_0 b0_1 b0_2 b0_3 b0_4 b0_5 (fun z_v9 => K .norm (envOf [(2, (.ptr 0 0)), (8, (.int .i64 v8)), (9, (.int .i64 z_v9))]) (memOf [(some (.box true [(.str b0_0), (.sl 6 b0_1), (.sl 6 b0_2), (.sl 6 b0_3), (.sl 1 b0_4), (.sl 8 b0_5)]))])) (fun _ => K (.exit 6) (envOf [(2, (.ptr 0 0)), (8, (.int .i64 v8))]) (memOf [(some (.box true [(.str b0_0), (.sl 6 b0_1), (.sl 6 b0_2), (.sl 6 b0_3), (.sl 1 b0_4), (.sl 8 b0_5)]))])) := by kernel_rfl
theorem t_ddiref25_one_L78 (v8 : Int) (b0_0 : List UInt8) (b0_1 : List AV) (b0_2 : List AV) (b0_3 : List AV) (b0_4 : List AV) (b0_5 : List AV) (K : Ex → Env → Mem → Option Int) : ∀ (n : Nat) (v9 : Int), iterD (den 0 (kret [(.t 4)] dec_ddiref25_one) a_ddiref25_one_L78) n (envOf [(2, (.ptr 0 0)), (8, (.int .i64 v8)), (9, (.int .i64 v9))]) (memOf [(some (.box true [(.str b0_0), (.sl 6 b0_1), (.sl 6 b0_2), (.sl 6 b0_3), (.sl 1 b0_4), (.sl 8 b0_5)]))]) K = ddiref25_one_L78 v8 b0_0 b0_1 b0_2 b0_3 b0_4 b0_5 (fun _ => K (.exit 6) (envOf [(2, (.ptr 0 0)), (8, (.int .i64 v8))]) (memOf [(some (.box true [(.str b0_0), (.sl 6 b0_1), (.sl 6 b0_2), (.sl 6 b0_3), (.sl 1 b0_4), (.sl 8 b0_5)]))])) n v9 := by
  rw [ddiref25_one_L78_eq]
  intro n
  induction n with
  | zero => intros; rfl
  | succ n ih =>
    intro v9
    exact (t_ddiref25_one_L78_b v8 v9 b0_0 b0_1 b0_2 b0_3 b0_4 b0_5 (itK (den 0 (kret [(.t 4)] dec_ddiref25_one) a_ddiref25_one_L78) n K)).trans (congrArg (fun q => ddiref25_one_L78_b v8 v9 b0_0 b0_1 b0_2 b0_3 b0_4 b0_5 q (fun _ => K (.exit 6) (envOf [(2, (.ptr 0 0)), (8, (.int .i64 v8))]) (memOf [(some (.box true [(.str b0_0), (.sl 6 b0_1), (.sl 6 b0_2), (.sl 6 b0_3), (.sl 1 b0_4), (.sl 8 b0_5)]))]))) (funext fun v9 => ih v9))
noncomputable def s_ddiref25_one_L78 : Env → Mem → (Ex → Env → Mem → Option Int) → Option Int := fun t m K => chk (fitS0 shp_ddiref25_one_L78 t m) (cond (hdS shp_ddiref25_one_L78 t m) (ddiref25_one_L78 (gI [t 8] 0) (gS (bxC (m.s 0)) 0) (gL (bxC (m.s 0)) 1) (gL (bxC (m.s 0)) 2) (gL (bxC (m.s 0)) 3) (gL (bxC (m.s 0)) 4) (gL (bxC (m.s 0)) 5) (fun _ => K (.exit 6) (envOf [(2, (.ptr 0 0)), (8, (.int .i64 (gI [t 8] 0)))]) (memOf [(some (.box true [(.str (gS (bxC (m.s 0)) 0)), (.sl 6 (gL (bxC (m.s 0)) 1)), (.sl 6 (gL (bxC (m.s 0)) 2)), (.sl 6 (gL (bxC (m.s 0)) 3)), (.sl 1 (gL (bxC (m.s 0)) 4)), (.sl 8 (gL (bxC (m.s 0)) 5))]))])) FU (gI [t 9] 0)) none)
theorem o_ddiref25_one_L78 : SubOk Tryd.prog (TIof Tryd.prog) 120 0 (kret [(.t 4)] dec_ddiref25_one) (.loop (scOf a_ddiref25_one_L78)) s_ddiref25_one_L78 :=
  loop_of tabOk follows ok_ddiref25_one_L78 (er_of (by kernel_rfl)) shp_ddiref25_one_L78 (fun t m K => congrArg (fun z => chk (fitS0 shp_ddiref25_one_L78 t m) (cond (hdS shp_ddiref25_one_L78 t m) z none)) (t_ddiref25_one_L78 (gI [t 8] 0) (gS (bxC (m.s 0)) 0) (gL (bxC (m.s 0)) 1) (gL (bxC (m.s 0)) 2) (gL (bxC (m.s 0)) 3) (gL (bxC (m.s 0)) 4) (gL (bxC (m.s 0)) 5) K FU (gI [t 9] 0)).symm)
def shp_ddiref25_one_L66 : Shp := ⟨[(2, .one (.ptr 0 0)), (8, .one (.l (.i .i64)))], [.box true [(.l .s), (.l (.sl 6)), (.l (.sl 6)), (.l (.sl 6)), (.l (.sl 1)), (.l (.sl 8))]]⟩
noncomputable def ddiref25_one_L66_b  (v8 : Int) (b0_0 : List UInt8) (b0_1 : List AV) (b0_2 : List AV) (b0_3 : List AV) (b0_4 : List AV) (b0_5 : List AV) (next : Int → Option Int) (kx4 : Unit → Option Int) : Option Int :=
  (bif (decide (v8 < (b0_4.length : Int))) then (ddiref25_one_L78 v8 b0_0 b0_1 b0_2 b0_3 b0_4 b0_5 (fun (_ : Unit) => (next (IntKind.i64.wrap (v8 + (1 : Int))))) FU (0 : Int)) else (kx4 ()))
noncomputable def ddiref25_one_L66_i  (b0_0 : List UInt8) (b0_1 : List AV) (b0_2 : List AV) (b0_3 : List AV) (b0_4 : List AV) (b0_5 : List AV) (kx4 : Unit → Option Int) : Nat → Int → Option Int
  | 0 => (fun _ => none)
  | n + 1 => (fun v8 => ddiref25_one_L66_b v8 b0_0 b0_1 b0_2 b0_3 b0_4 b0_5 (ddiref25_one_L66_i b0_0 b0_1 b0_2 b0_3 b0_4 b0_5 kx4 n) kx4)
noncomputable def ddiref25_one_L66 := hull (ddiref25_one_L66_i)
theorem ddiref25_one_L66_eq : ddiref25_one_L66 = ddiref25_one_L66_i := hull_eq _
noncomputable def a_ddiref25_one_L66 : AC Int :=
  .seq (.seq (.reg [.op ⟨(some 81), (.mv (.t 8)), none⟩,
    .op ⟨(some 82), (.fa 4 (.t 2)), none⟩,
    .op ⟨(some 83), (.load false 1 (.t 82)), none⟩,
    .op ⟨(some 84), (.len false (.t 83)), none⟩,
    .op ⟨(some 85), (.bin .lss (.t 81) (.t 84)), none⟩]) (.cond (.t 85) (.skip) (.seq (.view [.sel [2] [0]]) (.exit 4)))) (.seq (.block 5 (.seq (.reg [.op ⟨(some 9), (.mv (.c (.int .i64 0))), none⟩]) (.block 6 (.seq (.view [.sel [2, 8, 9] [0]]) (.sub (.loop (scOf a_ddiref25_one_L78)) s_ddiref25_one_L78))))) (.seq (.reg [.op ⟨(some 86), (.mv (.t 8)), none⟩,
    .op ⟨(some 87), (.bin .add (.t 86) (.c (.int .i64 1))), none⟩,
    .op ⟨(some 8), (.mv (.t 87)), none⟩]) (.view [.sel [2, 8] [0]])))
theorem ok_ddiref25_one_L66 : AC.ok Tryd.prog (TIof Tryd.prog) 120 0 (kret [(.t 4)] dec_ddiref25_one) a_ddiref25_one_L66 := (And.intro (And.intro True.intro (And.intro True.intro (And.intro True.intro True.intro))) (And.intro (And.intro True.intro (And.intro True.intro o_ddiref25_one_L78)) (And.intro True.intro True.intro)))
theorem t_ddiref25_one_L66_b (v8 : Int) (b0_0 : List UInt8) (b0_1 : List AV) (b0_2 : List AV) (b0_3 : List AV) (b0_4 : List AV) (b0_5 : List AV) (K : Ex → Env → Mem → Option Int) : den 0 (kret [(.t 4)] dec_ddiref25_one) a_ddiref25_one_L66 (envOf [(2, (.ptr 0 0)), (8, (.int .i64 v8))]) (memOf [(some (.box true [(.str b0_0), (.sl 6 b0_1), (.sl 6 b0_2), (.sl 6 b0_3), (.sl 1 b0_4), (.sl 8 b0_5)]))]) K = ddiref25_one_L66_b v8 b0_0 b0_1 b0_2 b0_3 b0_4 b0_5 (fun z_v8 => K .norm (envOf [(2, (.ptr 0 0)), (8, (.int .i64 z_v8))]) (memOf [(some (.box true [(.str b0_0), (.sl 6 b0_1), (.sl 6 b0_2), (.sl 6 b0_3), (.sl 1 b0_4), (.sl 8 b0_5)]))])) (fun _ => K (.exit 4) (envOf [(2, (.ptr 0 0))]) (memOf [(some (.box true [(.str b0_0), (.sl 6 b0_1), (.sl 6 b0_2), (.sl 6 b0_3), (.sl 1 b0_4), (.sl 8 b0_5)]))])) := by kernel_rfl
theorem t_ddiref25_one_L66 (b0_0 : List UInt8) (b0_1 : List AV) (b0_2 : List AV) (b0_3 : List AV) (b0_4 : List AV) (b0_5 : List AV) (K : Ex → Env → Mem → Option Int) : ∀ (n : Nat) (v8 : Int), iterD (den 0 (kret [(.t 4)] dec_ddiref25_one) a_ddiref25_one_L66) n (envOf [(2, (.ptr 0 0)), (8, (.int .i64 v8))]) (memOf [(some (.box true [(.str b0_0), (.sl 6 b0_1), (.sl 6 b0_2), (.sl 6 b0_3), (.sl 1 b0_4), (.sl 8 b0_5)]))]) K = ddiref25_one_L66 b0_0 b0_1 b0_2 b0_3 b0_4 b0_5 (fun _ => K (.exit 4) (envOf [(2, (.ptr 0 0))]) (memOf [(some (.box true [(.str b0_0), (.sl 6 b0_1), (.sl 6 b0_2), (.sl 6 b0_3), (.sl 1 b0_4), (.sl 8 b0_5)]))])) n v8 := by
  rw [ddiref25_one_L66_eq]
  intro n
  induction n with
  | zero => intros; rfl
  | succ n ih =>
    intro v8
    exact (t_ddiref25_one_L66_b v8 b0_0 b0_1 b0_2 b0_3 b0_4 b0_5 (itK (den 0 (kret [(.t 4)] dec_ddiref25_one) a_ddiref25_one_L66) n K)).trans (congrArg (fun q => ddiref25_one_L66_b v8 b0_0 b0_1 b0_2 b0_3 b0_4 b0_5 q (fun _ => K (.exit 4) (envOf [(2, (.ptr 0 0))]) (memOf [(some (.box true [(.str b0_0), (.sl 6 b0_1), (.sl 6 b0_2), (.sl 6 b0_3), (.sl 1 b0_4), (.sl 8 b0_5)]))]))) (funext fun v8 => ih v8))
noncomputable def s_ddiref25_one_L66 : Env → Mem → (Ex → Env → Mem → Option Int) → Option Int := fun t m K => chk (fitS0 shp_ddiref25_one_L66 t m) (cond (hdS shp_ddiref25_one_L66 t m) (ddiref25_one_L66 (gS (bxC (m.s 0)) 0) (gL (bxC (m.s 0)) 1) (gL (bxC (m.s 0)) 2) (gL (bxC (m.s 0)) 3) (gL (bxC (m.s 0)) 4) (gL (bxC (m.s 0)) 5) (fun _ => K (.exit 4) (envOf [(2, (.ptr 0 0))]) (memOf [(some (.box true [(.str (gS (bxC (m.s 0)) 0)), (.sl 6 (gL (bxC (m.s 0)) 1)), (.sl 6 (gL (bxC (m.s 0)) 2)), (.sl 6 (gL (bxC (m.s 0)) 3)), (.sl 1 (gL (bxC (m.s 0)) 4)), (.sl 8 (gL (bxC (m.s 0)) 5))]))])) FU (gI [t 8] 0)) none)
theorem o_ddiref25_one_L66 : SubOk Tryd.prog (TIof Tryd.prog) 120 0 (kret [(.t 4)] dec_ddiref25_one) (.loop (scOf a_ddiref25_one_L66)) s_ddiref25_one_L66 :=
  loop_of tabOk follows ok_ddiref25_one_L66 (er_of (by kernel_rfl)) shp_ddiref25_one_L66 (fun t m K => congrArg (fun z => chk (fitS0 shp_ddiref25_one_L66 t m) (cond (hdS shp_ddiref25_one_L66 t m) z none)) (t_ddiref25_one_L66 (gS (bxC (m.s 0)) 0) (gL (bxC (m.s 0)) 1) (gL (bxC (m.s 0)) 2) (gL (bxC (m.s 0)) 3) (gL (bxC (m.s 0)) 4) (gL (bxC (m.s 0)) 5) K FU (gI [t 8] 0)).symm)
def shp_ddiref25_one : Shp := ⟨[(0, .st [(.l .s), (.l (.sl 6)), (.l (.sl 6)), (.l (.sl 6)), (.l (.sl 1)), (.l (.sl 8))]), (1, .one (.l (.sl 6)))], []⟩
noncomputable def ddiref25_one_i (v0_0 : List UInt8) (v0_1 : List AV) (v0_2 : List AV) (v0_3 : List AV) (v0_4 : List AV) (v0_5 : List AV) (v1 : List AV) : Option Int :=
  (bif ((((decide ((v0_4.length : Int) > (32 : Int))) || (decide ((v0_1.length : Int) > (64 : Int)))) || (decide ((v0_2.length : Int) > (64 : Int)))) || (decide ((v0_3.length : Int) > (64 : Int)))) then (some (9 : Int)) else (oB (ddiref25_isName v0_0) fun r1 => (bif (!r1) then (some (2 : Int)) else (ddiref25_one_L22 v1 v0_0 v0_1 v0_2 v0_3 v0_4 v0_5 (fun (_ : Unit) => (ddiref25_one_L45 v1 v0_0 v0_1 v0_2 v0_3 v0_4 v0_5 (fun (_ : Unit) => (ddiref25_one_L66 v0_0 v0_1 v0_2 v0_3 v0_4 v0_5 (fun (_ : Unit) => (oB (ddiref25_list v0_1) fun r2 => (bif (!r2) then (some (3 : Int)) else (oB (ddiref25_list v0_2) fun r3 => (bif (!r3) then (some (3 : Int)) else (oB (ddiref25_list v0_3) fun r4 => (bif (!r4) then (some (3 : Int)) else (some (0 : Int))))))))) FU (0 : Int))) FU (0 : Int))) FU (0 : Int)))))
noncomputable def ddiref25_one := hull ddiref25_one_i
theorem ddiref25_one_eq : ddiref25_one = ddiref25_one_i := hull_eq _
noncomputable def a_ddiref25_one : AC Int :=
  .seq (.reg [.op ⟨(some 2), (.box (.t 0)), none⟩,
    .op ⟨(some 4), (.mv (.c (.int .i64 0))), none⟩]) (.seq (.seq (.reg [.op ⟨(some 10), (.fa 4 (.t 2)), none⟩,
    .op ⟨(some 11), (.load false 1 (.t 10)), none⟩,
    .op ⟨(some 12), (.len false (.t 11)), none⟩,
    .op ⟨(some 13), (.bin .gtr (.t 12) (.c (.int .i64 32))), none⟩,
    .op ⟨(some 14), (.mv (.t 13)), none⟩,
    .grp 14 false [⟨(some 15), (.fa 1 (.t 2)), (some (14, false))⟩, ⟨(some 16), (.load false 1 (.t 15)), (some (14, false))⟩, ⟨(some 17), (.len false (.t 16)), (some (14, false))⟩, ⟨(some 18), (.bin .gtr (.t 17) (.c (.int .i64 64))), (some (14, false))⟩] 19 (.t 18),
    .op ⟨(some 20), (.mv (.t 19)), none⟩,
    .grp 20 false [⟨(some 21), (.fa 2 (.t 2)), (some (20, false))⟩, ⟨(some 22), (.load false 1 (.t 21)), (some (20, false))⟩, ⟨(some 23), (.len false (.t 22)), (some (20, false))⟩, ⟨(some 24), (.bin .gtr (.t 23) (.c (.int .i64 64))), (some (20, false))⟩] 25 (.t 24),
    .op ⟨(some 26), (.mv (.t 25)), none⟩,
    .grp 26 false [⟨(some 27), (.fa 3 (.t 2)), (some (26, false))⟩, ⟨(some 28), (.load false 1 (.t 27)), (some (26, false))⟩, ⟨(some 29), (.len false (.t 28)), (some (26, false))⟩, ⟨(some 30), (.bin .gtr (.t 29) (.c (.int .i64 64))), (some (26, false))⟩] 31 (.t 30)]) (.cond (.t 31) (.seq (.reg [.op ⟨(some 4), (.mv (.c (.int .i64 9))), none⟩]) (.ret)) (.skip))) (.seq (.seq (.reg [.op ⟨(some 32), (.fa 0 (.t 2)), none⟩,
    .op ⟨(some 33), (.load false 1 (.t 32)), none⟩,
    .call ⟨(some 34), (.call 39 [(.t 33)]), none⟩ 39 ent_ddiref25_isName,
    .op ⟨(some 35), (.un .not (.t 34)), none⟩]) (.cond (.t 35) (.seq (.reg [.op ⟨(some 4), (.mv (.c (.int .i64 2))), none⟩]) (.ret)) (.skip))) (.seq (.seq (.reg [.op ⟨(some 5), (.mv (.c (.int .i64 0))), none⟩]) (.block 0 (.seq (.view [.sel [1, 2, 5] [0]]) (.sub (.loop (scOf a_ddiref25_one_L22)) s_ddiref25_one_L22)))) (.seq (.seq (.reg [.op ⟨(some 7), (.mv (.c (.int .i64 0))), none⟩]) (.block 2 (.seq (.view [.sel [1, 2, 7] [0]]) (.sub (.loop (scOf a_ddiref25_one_L45)) s_ddiref25_one_L45)))) (.seq (.seq (.reg [.op ⟨(some 8), (.mv (.c (.int .i64 0))), none⟩]) (.block 4 (.seq (.view [.sel [2, 8] [0]]) (.sub (.loop (scOf a_ddiref25_one_L66)) s_ddiref25_one_L66)))) (.seq (.seq (.reg [.op ⟨(some 104), (.fa 1 (.t 2)), none⟩,
    .op ⟨(some 105), (.load false 1 (.t 104)), none⟩,
    .call ⟨(some 106), (.call 41 [(.t 105)]), none⟩ 41 ent_ddiref25_list,
    .op ⟨(some 107), (.un .not (.t 106)), none⟩,
    .op ⟨(some 108), (.mv (.t 107)), none⟩,
    .op ⟨(some 109), (.fa 2 (.t 2)), (some (108, false))⟩,
    .op ⟨(some 110), (.load false 1 (.t 109)), (some (108, false))⟩,
    .call ⟨(some 111), (.call 41 [(.t 110)]), (some (108, false))⟩ 41 ent_ddiref25_list,
    .op ⟨(some 112), (.un .not (.t 111)), (some (108, false))⟩,
    .op ⟨(some 113), (.pick (.t 108) (.c (.bool true)) (.t 112)), none⟩,
    .op ⟨(some 114), (.mv (.t 113)), none⟩,
    .op ⟨(some 115), (.fa 3 (.t 2)), (some (114, false))⟩,
    .op ⟨(some 116), (.load false 1 (.t 115)), (some (114, false))⟩,
    .call ⟨(some 117), (.call 41 [(.t 116)]), (some (114, false))⟩ 41 ent_ddiref25_list,
    .op ⟨(some 118), (.un .not (.t 117)), (some (114, false))⟩,
    .op ⟨(some 119), (.pick (.t 114) (.c (.bool true)) (.t 118)), none⟩]) (.cond (.t 119) (.seq (.reg [.op ⟨(some 4), (.mv (.c (.int .i64 3))), none⟩]) (.ret)) (.skip))) (.seq (.reg [.op ⟨(some 4), (.mv (.c (.int .i64 0))), none⟩]) (.ret))))))))
theorem ok_ddiref25_one : AC.ok Tryd.prog (TIof Tryd.prog) 120 0 (kret [(.t 4)] dec_ddiref25_one) a_ddiref25_one := (And.intro True.intro (And.intro (And.intro True.intro (And.intro (And.intro True.intro True.intro) True.intro)) (And.intro (And.intro (And.intro (EntOkB.ok k_ddiref25_isName) True.intro) (And.intro (And.intro True.intro True.intro) True.intro)) (And.intro (And.intro True.intro (And.intro True.intro o_ddiref25_one_L22)) (And.intro (And.intro True.intro (And.intro True.intro o_ddiref25_one_L45)) (And.intro (And.intro True.intro (And.intro True.intro o_ddiref25_one_L66)) (And.intro (And.intro (And.intro (EntOkB.ok k_ddiref25_list) (And.intro (EntOkB.ok k_ddiref25_list) (And.intro (EntOkB.ok k_ddiref25_list) True.intro))) (And.intro (And.intro True.intro True.intro) True.intro)) (And.intro True.intro True.intro))))))))
theorem t_ddiref25_one (v0_0 : List UInt8) (v0_1 : List AV) (v0_2 : List AV) (v0_3 : List AV) (v0_4 : List AV) (v0_5 : List AV) (v1 : List AV) : den 0 (kret [(.t 4)] dec_ddiref25_one) a_ddiref25_one (envOf [(0, (.agg [(.str v0_0), (.sl 6 v0_1), (.sl 6 v0_2), (.sl 6 v0_3), (.sl 1 v0_4), (.sl 8 v0_5)])), (1, (.sl 6 v1))]) (memOf []) (kend (kret [(.t 4)] dec_ddiref25_one)) = ddiref25_one v0_0 v0_1 v0_2 v0_3 v0_4 v0_5 v1 := by
  rw [ddiref25_one_eq]; kernel_rfl
theorem c_ddiref25_one : cFn (TIof Tryd.prog) Tryd.f23 = some ⟨120, [(.t 4)], scOf a_ddiref25_one⟩ := by kernel_rfl
noncomputable def ent_ddiref25_one {R : Type} (xs : List AV) (K : AV → Option R) : Option R := chk (fitS shp_ddiref25_one (entry xs) Mem.none) (oB (ddiref25_one (gS ((entry xs) 0).cells 0) (gL ((entry xs) 0).cells 1) (gL ((entry xs) 0).cells 2) (gL ((entry xs) 0).cells 3) (gL ((entry xs) 0).cells 4) (gL ((entry xs) 0).cells 5) (gL [(entry xs) 1] 0)) fun r => K (enc_ddiref25_one r))
theorem k_ddiref25_one {R : Type} : EntOkB Tryd.prog 23 (ent_ddiref25_one (R := R)) :=
  ent_of (F := fun xs => ddiref25_one (gS ((entry xs) 0).cells 0) (gL ((entry xs) 0).cells 1) (gL ((entry xs) 0).cells 2) (gL ((entry xs) 0).cells 3) (gL ((entry xs) 0).cells 4) (gL ((entry xs) 0).cells 5) (gL [(entry xs) 1] 0)) (enc := enc_ddiref25_one) tabOk follows Tryd.func23 (by kernel_rfl) c_ddiref25_one (fun z r h => by
    obtain ⟨h1, h2⟩ := cond_some h
    cases h2
    exact (etaRV_eq h1).symm) ok_ddiref25_one (er_of (by kernel_rfl)) shp_ddiref25_one (fun xs => t_ddiref25_one (gS ((entry xs) 0).cells 0) (gL ((entry xs) 0).cells 1) (gL ((entry xs) 0).cells 2) (gL ((entry xs) 0).cells 3) (gL ((entry xs) 0).cells 4) (gL ((entry xs) 0).cells 5) (gL [(entry xs) 1] 0)) (fun xs K r h => by
    unfold ent_ddiref25_one at h
    exact ⟨(chk_some h).1, oB_some (chk_some h).2⟩)

/-! ddi/ddiref25.Check -/
def dec_ddiref25_Check (z : AV) : Option Int := cond (fitRV (.one (.i .i64)) z) (some (aI z)) none
def enc_ddiref25_Check (r : Int) : AV := .int .i64 r
def shp_ddiref25_Check_L14 : Shp := ⟨[(0, .one (.l (.sl 6))), (3, .one (.l (.i .i64)))], []⟩
noncomputable def ddiref25_Check_L14_b  (v0 : List AV) (v3 : Int) (next : Int → Option Int) (kx0 : Unit → Option Int) : Option Int :=
  (bif (decide (v3 < (v0.length : Int))) then (oB (ixB v0 v3) fun y1 => (bif fitC X_api_View y1.cells then (oB (cutI v0 none (some v3)) fun s2 => (bif fitV (.st T_api_View) (.agg [(.str (gS y1.cells 0)), (gC y1.cells 1), (gC y1.cells 2), (gC y1.cells 3), (gC y1.cells 4), (gC y1.cells 5)]) then (oB (ddiref25_one (gS y1.cells 0) (aL (gC y1.cells 1)) (aL (gC y1.cells 2)) (aL (gC y1.cells 3)) (aL (gC y1.cells 4)) (aL (gC y1.cells 5)) s2) fun r3 => (bif (r3 != (0 : Int)) then (some r3) else (next (IntKind.i64.wrap (v3 + (1 : Int)))))) else none)) else none)) else (kx0 ()))
noncomputable def ddiref25_Check_L14_i  (v0 : List AV) (kx0 : Unit → Option Int) : Nat → Int → Option Int
  | 0 => (fun _ => none)
  | n + 1 => (fun v3 => ddiref25_Check_L14_b v0 v3 (ddiref25_Check_L14_i v0 kx0 n) kx0)
noncomputable def ddiref25_Check_L14 := hull (ddiref25_Check_L14_i)
theorem ddiref25_Check_L14_eq : ddiref25_Check_L14 = ddiref25_Check_L14_i := hull_eq _
noncomputable def a_ddiref25_Check_L14 : AC Int :=
  .seq (.seq (.reg [.op ⟨(some 8), (.mv (.t 3)), none⟩,
    .op ⟨(some 9), (.mv (.t 0)), none⟩,
    .op ⟨(some 10), (.len false (.t 9)), none⟩,
    .op ⟨(some 11), (.bin .lss (.t 8) (.t 10)), none⟩]) (.cond (.t 11) (.skip) (.seq (.view [.sel [] []]) (.exit 0)))) (.seq (.block 1 (.seq (.draw [] [.op ⟨(some 14), (.mv (.t 0)), none⟩,
    .op ⟨(some 15), (.mv (.t 3)), none⟩,
    .op ⟨(some 16), (.ia 6 (.t 14) (.t 15)), none⟩,
    .et 16 X_api_View,
    .op ⟨(some 17), (.load true 6 (.t 16)), none⟩,
    .op ⟨(some 18), (.mv (.t 0)), none⟩,
    .op ⟨(some 19), (.mv (.t 3)), none⟩,
    .op ⟨(some 20), (.slc 6 (.t 18) none (some (.t 19))), none⟩] [.st (.eta 17 (.st T_api_View)),
    .call ⟨(some 21), (.call 23 [(.t 17), (.t 20)]), none⟩ 23 ent_ddiref25_one,
    .op ⟨(some 4), (.mv (.t 21)), none⟩]) (.seq (.reg [.op ⟨(some 22), (.mv (.t 4)), none⟩,
    .op ⟨(some 23), (.bin .neq (.t 22) (.c (.int .i64 0))), none⟩]) (.cond (.t 23) (.seq (.reg [.op ⟨(some 24), (.mv (.t 4)), none⟩,
    .op ⟨(some 2), (.mv (.t 24)), none⟩]) (.ret)) (.skip))))) (.seq (.reg [.op ⟨(some 12), (.mv (.t 3)), none⟩,
    .op ⟨(some 13), (.bin .add (.t 12) (.c (.int .i64 1))), none⟩,
    .op ⟨(some 3), (.mv (.t 13)), none⟩]) (.view [.sel [0, 3] []])))
theorem ok_ddiref25_Check_L14 : AC.ok Tryd.prog (TIof Tryd.prog) 25 0 (kret [(.t 2)] dec_ddiref25_Check) a_ddiref25_Check_L14 := (And.intro (And.intro True.intro (And.intro True.intro (And.intro True.intro True.intro))) (And.intro (And.intro (And.intro True.intro (And.intro (EntOkB.ok k_ddiref25_one) True.intro)) (And.intro True.intro (And.intro (And.intro True.intro True.intro) True.intro))) (And.intro True.intro True.intro)))
theorem t_ddiref25_Check_L14_b (v0 : List AV) (v3 : Int) (K : Ex → Env → Mem → Option Int) : den 0 (kret [(.t 2)] dec_ddiref25_Check) a_ddiref25_Check_L14 (envOf [(0, (.sl 6 v0)), (3, (.int .i64 v3))]) (memOf []) K = ddiref25_Check_L14_b v0 v3 (fun z_v3 => K .norm (envOf [(0, (.sl 6 v0)), (3, (.int .i64 z_v3))]) (memOf [])) (fun _ => K (.exit 0) (envOf []) (memOf [])) := by kernel_rfl
theorem t_ddiref25_Check_L14 (v0 : List AV) (K : Ex → Env → Mem → Option Int) : ∀ (n : Nat) (v3 : Int), iterD (den 0 (kret [(.t 2)] dec_ddiref25_Check) a_ddiref25_Check_L14) n (envOf [(0, (.sl 6 v0)), (3, (.int .i64 v3))]) (memOf []) K = ddiref25_Check_L14 v0 (fun _ => K (.exit 0) (envOf []) (memOf [])) n v3 := by
  rw [ddiref25_Check_L14_eq]
  intro n
  induction n with
  | zero => intros; rfl
  | succ n ih =>
    intro v3
    exact (t_ddiref25_Check_L14_b v0 v3 (itK (den 0 (kret [(.t 2)] dec_ddiref25_Check) a_ddiref25_Check_L14) n K)).trans (congrArg (fun q => ddiref25_Check_L14_b v0 v3 q (fun _ => K (.exit 0) (envOf []) (memOf []))) (funext fun v3 => ih v3))
noncomputable def s_ddiref25_Check_L14 : Env → Mem → (Ex → Env → Mem → Option Int) → Option Int := fun t m K => chk (fitS0 shp_ddiref25_Check_L14 t m) (cond (hdS shp_ddiref25_Check_L14 t m) (ddiref25_Check_L14 (gL [t 0] 0) (fun _ => K (.exit 0) (envOf []) (memOf [])) FU (gI [t 3] 0)) none)
theorem o_ddiref25_Check_L14 : SubOk Tryd.prog (TIof Tryd.prog) 25 0 (kret [(.t 2)] dec_ddiref25_Check) (.loop (scOf a_ddiref25_Check_L14)) s_ddiref25_Check_L14 :=
  loop_of tabOk follows ok_ddiref25_Check_L14 (er_of (by kernel_rfl)) shp_ddiref25_Check_L14 (fun t m K => congrArg (fun z => chk (fitS0 shp_ddiref25_Check_L14 t m) (cond (hdS shp_ddiref25_Check_L14 t m) z none)) (t_ddiref25_Check_L14 (gL [t 0] 0) K FU (gI [t 3] 0)).symm)
def shp_ddiref25_Check : Shp := ⟨[(0, .one (.l (.sl 6)))], []⟩
noncomputable def ddiref25_Check_i (v0 : List AV) : Option Int :=
  (bif (decide ((v0.length : Int) > (8 : Int))) then (some (9 : Int)) else (ddiref25_Check_L14 v0 (fun (_ : Unit) => (some (0 : Int))) FU (0 : Int)))
noncomputable def ddiref25_Check := hull ddiref25_Check_i
theorem ddiref25_Check_eq : ddiref25_Check = ddiref25_Check_i := hull_eq _
noncomputable def a_ddiref25_Check : AC Int :=
  .seq (.reg [.op ⟨(some 2), (.mv (.c (.int .i64 0))), none⟩]) (.seq (.seq (.reg [.op ⟨(some 5), (.mv (.t 0)), none⟩,
    .op ⟨(some 6), (.len false (.t 5)), none⟩,
    .op ⟨(some 7), (.bin .gtr (.t 6) (.c (.int .i64 8))), none⟩]) (.cond (.t 7) (.seq (.reg [.op ⟨(some 2), (.mv (.c (.int .i64 9))), none⟩]) (.ret)) (.skip))) (.seq (.seq (.reg [.op ⟨(some 3), (.mv (.c (.int .i64 0))), none⟩]) (.block 0 (.seq (.view [.sel [0, 3] []]) (.sub (.loop (scOf a_ddiref25_Check_L14)) s_ddiref25_Check_L14)))) (.seq (.reg [.op ⟨(some 2), (.mv (.c (.int .i64 0))), none⟩]) (.ret))))
theorem ok_ddiref25_Check : AC.ok Tryd.prog (TIof Tryd.prog) 25 0 (kret [(.t 2)] dec_ddiref25_Check) a_ddiref25_Check := (And.intro True.intro (And.intro (And.intro True.intro (And.intro (And.intro True.intro True.intro) True.intro)) (And.intro (And.intro True.intro (And.intro True.intro o_ddiref25_Check_L14)) (And.intro True.intro True.intro))))
theorem t_ddiref25_Check (v0 : List AV) : den 0 (kret [(.t 2)] dec_ddiref25_Check) a_ddiref25_Check (envOf [(0, (.sl 6 v0))]) (memOf []) (kend (kret [(.t 2)] dec_ddiref25_Check)) = ddiref25_Check v0 := by
  rw [ddiref25_Check_eq]; kernel_rfl
theorem c_ddiref25_Check : cFn (TIof Tryd.prog) Tryd.f14 = some ⟨25, [(.t 2)], scOf a_ddiref25_Check⟩ := by kernel_rfl
noncomputable def ent_ddiref25_Check {R : Type} (xs : List AV) (K : AV → Option R) : Option R := chk (fitS shp_ddiref25_Check (entry xs) Mem.none) (oB (ddiref25_Check (gL [(entry xs) 0] 0)) fun r => K (enc_ddiref25_Check r))
theorem k_ddiref25_Check {R : Type} : EntOkB Tryd.prog 14 (ent_ddiref25_Check (R := R)) :=
  ent_of (F := fun xs => ddiref25_Check (gL [(entry xs) 0] 0)) (enc := enc_ddiref25_Check) tabOk follows Tryd.func14 (by kernel_rfl) c_ddiref25_Check (fun z r h => by
    obtain ⟨h1, h2⟩ := cond_some h
    cases h2
    exact (etaRV_eq h1).symm) ok_ddiref25_Check (er_of (by kernel_rfl)) shp_ddiref25_Check (fun xs => t_ddiref25_Check (gL [(entry xs) 0] 0)) (fun xs K r h => by
    unfold ent_ddiref25_Check at h
    exact ⟨(chk_some h).1, oB_some (chk_some h).2⟩)

/-! ddi/ddilaw25.ViewChecks -/
def dec_ddilaw25_ViewChecks (z : AV) : Option Bool := cond (fitRV (.one .b) z) (some (aB z)) none
def enc_ddilaw25_ViewChecks (r : Bool) : AV := .bool r
def shp_ddilaw25_ViewChecks : Shp := ⟨[(0, .one (.l (.sl 6)))], []⟩
noncomputable def ddilaw25_ViewChecks_i (v0 : List AV) : Option Bool :=
  (oB (ddilaw25_few v0) fun r1 => (oB (view_Check r1) fun r2 => (oB (ddiref25_Check r1) fun r3 => (bif (r2 == r3) then (oB (ddilaw25_awake) fun r4 => (some r4)) else (some false)))))
noncomputable def ddilaw25_ViewChecks := hull ddilaw25_ViewChecks_i
theorem ddilaw25_ViewChecks_eq : ddilaw25_ViewChecks = ddilaw25_ViewChecks_i := hull_eq _
noncomputable def a_ddilaw25_ViewChecks : AC Bool :=
  .seq (.reg [.op ⟨(some 2), (.mv (.c (.bool false))), none⟩]) (.seq (.reg [.op ⟨(some 3), (.mv (.t 0)), none⟩,
    .callc ⟨(some 4), (.call 12 [(.t 3)]), none⟩ 12 ent_ddilaw25_few,
    .op ⟨(some 0), (.mv (.t 4)), none⟩]) (.seq (.reg [.op ⟨(some 5), (.mv (.t 0)), none⟩,
    .call ⟨(some 6), (.call 13 [(.t 5)]), none⟩ 13 ent_view_Check,
    .op ⟨(some 7), (.mv (.t 0)), none⟩,
    .call ⟨(some 8), (.call 14 [(.t 7)]), none⟩ 14 ent_ddiref25_Check,
    .op ⟨(some 9), (.bin .eql (.t 6) (.t 8)), none⟩,
    .op ⟨(some 10), (.mv (.t 9)), none⟩,
    .call ⟨(some 11), (.call 11 []), (some (10, true))⟩ 11 ent_ddilaw25_awake,
    .op ⟨(some 12), (.pick (.t 10) (.t 11) (.c (.bool false))), none⟩,
    .op ⟨(some 2), (.mv (.t 12)), none⟩]) (.ret)))
theorem ok_ddilaw25_ViewChecks : AC.ok Tryd.prog (TIof Tryd.prog) 13 0 (kret [(.t 2)] dec_ddilaw25_ViewChecks) a_ddilaw25_ViewChecks := (And.intro True.intro (And.intro (And.intro (EntOkB.ok k_ddilaw25_few) True.intro) (And.intro (And.intro (EntOkB.ok k_view_Check) (And.intro (EntOkB.ok k_ddiref25_Check) (And.intro (EntOkB.ok k_ddilaw25_awake) True.intro))) True.intro)))
theorem t_ddilaw25_ViewChecks (v0 : List AV) : den 0 (kret [(.t 2)] dec_ddilaw25_ViewChecks) a_ddilaw25_ViewChecks (envOf [(0, (.sl 6 v0))]) (memOf []) (kend (kret [(.t 2)] dec_ddilaw25_ViewChecks)) = ddilaw25_ViewChecks v0 := by
  rw [ddilaw25_ViewChecks_eq]; kernel_rfl
theorem c_ddilaw25_ViewChecks : cFn (TIof Tryd.prog) Tryd.f4 = some ⟨13, [(.t 2)], scOf a_ddilaw25_ViewChecks⟩ := by kernel_rfl
noncomputable def ent_ddilaw25_ViewChecks {R : Type} (xs : List AV) (K : AV → Option R) : Option R := chk (fitS shp_ddilaw25_ViewChecks (entry xs) Mem.none) (oB (ddilaw25_ViewChecks (gL [(entry xs) 0] 0)) fun r => K (enc_ddilaw25_ViewChecks r))
theorem k_ddilaw25_ViewChecks {R : Type} : EntOkB Tryd.prog 4 (ent_ddilaw25_ViewChecks (R := R)) :=
  ent_of (F := fun xs => ddilaw25_ViewChecks (gL [(entry xs) 0] 0)) (enc := enc_ddilaw25_ViewChecks) tabOk follows Tryd.func4 (by kernel_rfl) c_ddilaw25_ViewChecks (fun z r h => by
    obtain ⟨h1, h2⟩ := cond_some h
    cases h2
    exact (etaRV_eq h1).symm) ok_ddilaw25_ViewChecks (er_of (by kernel_rfl)) shp_ddilaw25_ViewChecks (fun xs => t_ddilaw25_ViewChecks (gL [(entry xs) 0] 0)) (fun xs K r h => by
    unfold ent_ddilaw25_ViewChecks at h
    exact ⟨(chk_some h).1, oB_some (chk_some h).2⟩)

/-! ddi/ddiref25.Select -/
def dec_ddiref25_Select (z : AV) : Option (Int × Bool) := cond (fitTup [(.one (.i .i64)), (.one .b)] z) (some (aI (gC (tpL z) 0), aB (gC (tpL z) 1))) none
def enc_ddiref25_Select (r : Int × Bool) : AV := .tup [.int .i64 r.1, .bool r.2]
def shp_ddiref25_Select_L6 : Shp := ⟨[(0, .one (.l (.sl 6))), (3, .one (.ptr 0 0)), (6, .one (.l (.i .i64)))], [.box true [(.l .b), (.l (.i .u64)), (.l (.i .u64))]]⟩
noncomputable def ddiref25_Select_L6_b  (v0 : List AV) (v6 : Int) (b0_0 : Bool) (b0_1 : Int) (b0_2 : Int) (next : Int → Option (Int × Bool)) (kx0 : Unit → Option (Int × Bool)) : Option (Int × Bool) :=
  (bif (decide (v6 < (v0.length : Int))) then (oB (ixB v0 v6) fun y1 => (bif fitC X_api_View y1.cells then (bif fitV (.one (.sl 6)) (gC y1.cells 1) then (oB (ddiref25_Match (aL (gC y1.cells 1)) b0_0 b0_1 b0_2) fun r2 => (bif r2 then (some (v6, true)) else (next (IntKind.i64.wrap (v6 + (1 : Int)))))) else none) else none)) else (kx0 ()))
noncomputable def ddiref25_Select_L6_i  (v0 : List AV) (b0_0 : Bool) (b0_1 : Int) (b0_2 : Int) (kx0 : Unit → Option (Int × Bool)) : Nat → Int → Option (Int × Bool)
  | 0 => (fun _ => none)
  | n + 1 => (fun v6 => ddiref25_Select_L6_b v0 v6 b0_0 b0_1 b0_2 (ddiref25_Select_L6_i v0 b0_0 b0_1 b0_2 kx0 n) kx0)
noncomputable def ddiref25_Select_L6 := hull (ddiref25_Select_L6_i)
theorem ddiref25_Select_L6_eq : ddiref25_Select_L6 = ddiref25_Select_L6_i := hull_eq _
noncomputable def a_ddiref25_Select_L6 : AC (Int × Bool) :=
  .seq (.seq (.reg [.op ⟨(some 7), (.mv (.t 6)), none⟩,
    .op ⟨(some 8), (.mv (.t 0)), none⟩,
    .op ⟨(some 9), (.len false (.t 8)), none⟩,
    .op ⟨(some 10), (.bin .lss (.t 7) (.t 9)), none⟩]) (.cond (.t 10) (.skip) (.seq (.view [.sel [] []]) (.exit 0)))) (.seq (.block 1 (.seq (.draw [] [.op ⟨(some 13), (.mv (.t 0)), none⟩,
    .op ⟨(some 14), (.mv (.t 6)), none⟩,
    .op ⟨(some 15), (.ia 6 (.t 13) (.t 14)), none⟩,
    .et 15 X_api_View,
    .op ⟨(some 16), (.fa 1 (.t 15)), none⟩,
    .op ⟨(some 17), (.load false 1 (.t 16)), none⟩,
    .op ⟨(some 18), (.load true 3 (.t 3)), none⟩] [.st (.eta 17 (.one (.sl 6))),
    .call ⟨(some 19), (.call 10 [(.t 17), (.t 18)]), none⟩ 10 ent_ddiref25_Match]) (.cond (.t 19) (.seq (.reg [.op ⟨(some 20), (.mv (.t 6)), none⟩,
    .op ⟨(some 4), (.mv (.t 20)), none⟩,
    .op ⟨(some 5), (.mv (.c (.bool true))), none⟩]) (.ret)) (.skip)))) (.seq (.reg [.op ⟨(some 11), (.mv (.t 6)), none⟩,
    .op ⟨(some 12), (.bin .add (.t 11) (.c (.int .i64 1))), none⟩,
    .op ⟨(some 6), (.mv (.t 12)), none⟩]) (.view [.sel [0, 3, 6] [0]])))
theorem ok_ddiref25_Select_L6 : AC.ok Tryd.prog (TIof Tryd.prog) 21 0 (kret [(.t 4), (.t 5)] dec_ddiref25_Select) a_ddiref25_Select_L6 := (And.intro (And.intro True.intro (And.intro True.intro (And.intro True.intro True.intro))) (And.intro (And.intro (And.intro True.intro (And.intro (EntOkB.ok k_ddiref25_Match) True.intro)) (And.intro (And.intro True.intro True.intro) True.intro)) (And.intro True.intro True.intro)))
theorem t_ddiref25_Select_L6_b (v0 : List AV) (v6 : Int) (b0_0 : Bool) (b0_1 : Int) (b0_2 : Int) (K : Ex → Env → Mem → Option (Int × Bool)) : den 0 (kret [(.t 4), (.t 5)] dec_ddiref25_Select) a_ddiref25_Select_L6 (envOf [(0, (.sl 6 v0)), (3, (.ptr 0 0)), (6, (.int .i64 v6))]) (memOf [(some (.box true [(.bool b0_0), (.int .u64 b0_1), (.int .u64 b0_2)]))]) K = ddiref25_Select_L6_b v0 v6 b0_0 b0_1 b0_2 (fun z_v6 => K .norm (envOf [(0, (.sl 6 v0)), (3, (.ptr 0 0)), (6, (.int .i64 z_v6))]) (memOf [(some (.box true [(.bool b0_0), (.int .u64 b0_1), (.int .u64 b0_2)]))])) (fun _ => K (.exit 0) (envOf []) (memOf [])) := by kernel_rfl
theorem t_ddiref25_Select_L6 (v0 : List AV) (b0_0 : Bool) (b0_1 : Int) (b0_2 : Int) (K : Ex → Env → Mem → Option (Int × Bool)) : ∀ (n : Nat) (v6 : Int), iterD (den 0 (kret [(.t 4), (.t 5)] dec_ddiref25_Select) a_ddiref25_Select_L6) n (envOf [(0, (.sl 6 v0)), (3, (.ptr 0 0)), (6, (.int .i64 v6))]) (memOf [(some (.box true [(.bool b0_0), (.int .u64 b0_1), (.int .u64 b0_2)]))]) K = ddiref25_Select_L6 v0 b0_0 b0_1 b0_2 (fun _ => K (.exit 0) (envOf []) (memOf [])) n v6 := by
  rw [ddiref25_Select_L6_eq]
  intro n
  induction n with
  | zero => intros; rfl
  | succ n ih =>
    intro v6
    exact (t_ddiref25_Select_L6_b v0 v6 b0_0 b0_1 b0_2 (itK (den 0 (kret [(.t 4), (.t 5)] dec_ddiref25_Select) a_ddiref25_Select_L6) n K)).trans (congrArg (fun q => ddiref25_Select_L6_b v0 v6 b0_0 b0_1 b0_2 q (fun _ => K (.exit 0) (envOf []) (memOf []))) (funext fun v6 => ih v6))
noncomputable def s_ddiref25_Select_L6 : Env → Mem → (Ex → Env → Mem → Option (Int × Bool)) → Option (Int × Bool) := fun t m K => chk (fitS0 shp_ddiref25_Select_L6 t m) (cond (hdS shp_ddiref25_Select_L6 t m) (ddiref25_Select_L6 (gL [t 0] 0) (gB (bxC (m.s 0)) 0) (gI (bxC (m.s 0)) 1) (gI (bxC (m.s 0)) 2) (fun _ => K (.exit 0) (envOf []) (memOf [])) FU (gI [t 6] 0)) none)
theorem o_ddiref25_Select_L6 : SubOk Tryd.prog (TIof Tryd.prog) 21 0 (kret [(.t 4), (.t 5)] dec_ddiref25_Select) (.loop (scOf a_ddiref25_Select_L6)) s_ddiref25_Select_L6 :=
  loop_of tabOk follows ok_ddiref25_Select_L6 (er_of (by kernel_rfl)) shp_ddiref25_Select_L6 (fun t m K => congrArg (fun z => chk (fitS0 shp_ddiref25_Select_L6 t m) (cond (hdS shp_ddiref25_Select_L6 t m) z none)) (t_ddiref25_Select_L6 (gL [t 0] 0) (gB (bxC (m.s 0)) 0) (gI (bxC (m.s 0)) 1) (gI (bxC (m.s 0)) 2) K FU (gI [t 6] 0)).symm)
def shp_ddiref25_Select : Shp := ⟨[(0, .one (.l (.sl 6))), (1, .st [(.l .b), (.l (.i .u64)), (.l (.i .u64))])], []⟩
noncomputable def ddiref25_Select_i (v0 : List AV) (v1_0 : Bool) (v1_1 : Int) (v1_2 : Int) : Option (Int × Bool) :=
  (ddiref25_Select_L6 v0 v1_0 v1_1 v1_2 (fun (_ : Unit) => (some ((0 : Int), false))) FU (0 : Int))
noncomputable def ddiref25_Select := hull ddiref25_Select_i
theorem ddiref25_Select_eq : ddiref25_Select = ddiref25_Select_i := hull_eq _
noncomputable def a_ddiref25_Select : AC (Int × Bool) :=
  .seq (.reg [.op ⟨(some 3), (.box (.t 1)), none⟩,
    .op ⟨(some 4), (.mv (.c (.int .i64 0))), none⟩,
    .op ⟨(some 5), (.mv (.c (.bool false))), none⟩]) (.seq (.seq (.reg [.op ⟨(some 6), (.mv (.c (.int .i64 0))), none⟩]) (.block 0 (.seq (.view [.sel [0, 3, 6] [0]]) (.sub (.loop (scOf a_ddiref25_Select_L6)) s_ddiref25_Select_L6)))) (.seq (.reg [.op ⟨(some 4), (.mv (.c (.int .i64 0))), none⟩,
    .op ⟨(some 5), (.mv (.c (.bool false))), none⟩]) (.ret)))
theorem ok_ddiref25_Select : AC.ok Tryd.prog (TIof Tryd.prog) 21 0 (kret [(.t 4), (.t 5)] dec_ddiref25_Select) a_ddiref25_Select := (And.intro True.intro (And.intro (And.intro True.intro (And.intro True.intro o_ddiref25_Select_L6)) (And.intro True.intro True.intro)))
theorem t_ddiref25_Select (v0 : List AV) (v1_0 : Bool) (v1_1 : Int) (v1_2 : Int) : den 0 (kret [(.t 4), (.t 5)] dec_ddiref25_Select) a_ddiref25_Select (envOf [(0, (.sl 6 v0)), (1, (.agg [(.bool v1_0), (.int .u64 v1_1), (.int .u64 v1_2)]))]) (memOf []) (kend (kret [(.t 4), (.t 5)] dec_ddiref25_Select)) = ddiref25_Select v0 v1_0 v1_1 v1_2 := by
  rw [ddiref25_Select_eq]; kernel_rfl
theorem c_ddiref25_Select : cFn (TIof Tryd.prog) Tryd.f16 = some ⟨21, [(.t 4), (.t 5)], scOf a_ddiref25_Select⟩ := by kernel_rfl
noncomputable def ent_ddiref25_Select {R : Type} (xs : List AV) (K : AV → Option R) : Option R := chk (fitS shp_ddiref25_Select (entry xs) Mem.none) (oB (ddiref25_Select (gL [(entry xs) 0] 0) (gB ((entry xs) 1).cells 0) (gI ((entry xs) 1).cells 1) (gI ((entry xs) 1).cells 2)) fun r => K (enc_ddiref25_Select r))
theorem k_ddiref25_Select {R : Type} : EntOkB Tryd.prog 16 (ent_ddiref25_Select (R := R)) :=
  ent_of (F := fun xs => ddiref25_Select (gL [(entry xs) 0] 0) (gB ((entry xs) 1).cells 0) (gI ((entry xs) 1).cells 1) (gI ((entry xs) 1).cells 2)) (enc := enc_ddiref25_Select) tabOk follows Tryd.func16 (by kernel_rfl) c_ddiref25_Select (fun z r h => by
    obtain ⟨h1, h2⟩ := cond_some h
    cases h2
    exact (fitTup_eq h1).symm) ok_ddiref25_Select (er_of (by kernel_rfl)) shp_ddiref25_Select (fun xs => t_ddiref25_Select (gL [(entry xs) 0] 0) (gB ((entry xs) 1).cells 0) (gI ((entry xs) 1).cells 1) (gI ((entry xs) 1).cells 2)) (fun xs K r h => by
    unfold ent_ddiref25_Select at h
    exact ⟨(chk_some h).1, oB_some (chk_some h).2⟩)

/-! ddi/ddiref01.same -/
def dec_ddiref01_same (z : AV) : Option Int := cond (fitRV (.one (.i .i64)) z) (some (aI z)) none
def enc_ddiref01_same (r : Int) : AV := .int .i64 r
def shp_ddiref01_same_J9 : Shp := ⟨[(0, .one (.l (.sl 1))), (1, .one (.l (.sl 1))), (5, .one (.l (.i .i64)))], []⟩
noncomputable def ddiref01_same_J9_i  (v0 : List AV) (v1 : List AV) (v5 : Int) (kn : Bool → Option Int) : Option Int :=
  (bif (decide (v5 < (v0.length : Int))) then (bif (decide (v5 < (v1.length : Int))) then (oB (ixB v0 (IntKind.i64.wrap ((IntKind.i64.wrap ((v0.length : Int) - (1 : Int))) - v5))) fun y1 => (bif fitC [.s] y1.cells then (oB (ixB v1 (IntKind.i64.wrap ((IntKind.i64.wrap ((v1.length : Int) - (1 : Int))) - v5))) fun y2 => (bif fitC [.s] y2.cells then (kn ((gS y1.cells 0) == (gS y2.cells 0))) else none)) else none)) else (kn false)) else (kn false))
noncomputable def ddiref01_same_J9 := hull (ddiref01_same_J9_i)
theorem ddiref01_same_J9_eq : ddiref01_same_J9 = ddiref01_same_J9_i := hull_eq _
noncomputable def a_ddiref01_same_J9 : AC Int :=
  .seq (.draw [] [.op ⟨(some 6), (.mv (.t 5)), none⟩,
    .op ⟨(some 7), (.mv (.t 0)), none⟩,
    .op ⟨(some 8), (.len false (.t 7)), none⟩,
    .op ⟨(some 9), (.bin .lss (.t 6) (.t 8)), none⟩,
    .op ⟨(some 10), (.mv (.t 9)), none⟩,
    .op ⟨(some 11), (.mv (.t 5)), (some (10, true))⟩,
    .op ⟨(some 12), (.mv (.t 1)), (some (10, true))⟩,
    .op ⟨(some 13), (.len false (.t 12)), (some (10, true))⟩,
    .op ⟨(some 14), (.bin .lss (.t 11) (.t 13)), (some (10, true))⟩,
    .op ⟨(some 15), (.pick (.t 10) (.t 14) (.c (.bool false))), none⟩,
    .op ⟨(some 16), (.mv (.t 15)), none⟩,
    .op ⟨(some 17), (.mv (.t 0)), (some (16, true))⟩,
    .op ⟨(some 18), (.mv (.t 0)), (some (16, true))⟩,
    .op ⟨(some 19), (.len false (.t 18)), (some (16, true))⟩,
    .op ⟨(some 20), (.bin .sub (.t 19) (.c (.int .i64 1))), (some (16, true))⟩,
    .op ⟨(some 21), (.mv (.t 5)), (some (16, true))⟩,
    .op ⟨(some 22), (.bin .sub (.t 20) (.t 21)), (some (16, true))⟩,
    .op ⟨(some 23), (.ia 1 (.t 17) (.t 22)), (some (16, true))⟩,
    .et 23 [.s],
    .op ⟨(some 24), (.load false 1 (.t 23)), (some (16, true))⟩,
    .op ⟨(some 25), (.mv (.t 1)), (some (16, true))⟩,
    .op ⟨(some 26), (.mv (.t 1)), (some (16, true))⟩,
    .op ⟨(some 27), (.len false (.t 26)), (some (16, true))⟩,
    .op ⟨(some 28), (.bin .sub (.t 27) (.c (.int .i64 1))), (some (16, true))⟩,
    .op ⟨(some 29), (.mv (.t 5)), (some (16, true))⟩,
    .op ⟨(some 30), (.bin .sub (.t 28) (.t 29)), (some (16, true))⟩,
    .op ⟨(some 31), (.ia 1 (.t 25) (.t 30)), (some (16, true))⟩,
    .et 31 [.s],
    .op ⟨(some 32), (.load false 1 (.t 31)), (some (16, true))⟩] [.op ⟨(some 33), (.bin .eql (.t 24) (.t 32)), (some (16, true))⟩,
    .op ⟨(some 34), (.pick (.t 16) (.t 33) (.c (.bool false))), none⟩]) (.view [.sel [0, 1, 5, 34] []])
theorem ok_ddiref01_same_J9 : AC.ok Tryd.prog (TIof Tryd.prog) 38 0 (kret [(.t 4)] dec_ddiref01_same) a_ddiref01_same_J9 := (And.intro (And.intro True.intro True.intro) True.intro)
theorem t_ddiref01_same_J9 (v0 : List AV) (v1 : List AV) (v5 : Int) (K : Ex → Env → Mem → Option Int) : den 0 (kret [(.t 4)] dec_ddiref01_same) a_ddiref01_same_J9 (envOf [(0, (.sl 1 v0)), (1, (.sl 1 v1)), (5, (.int .i64 v5))]) (memOf []) K = ddiref01_same_J9 v0 v1 v5 (fun z_v34 => K .norm (envOf [(0, (.sl 1 v0)), (1, (.sl 1 v1)), (5, (.int .i64 v5)), (34, (.bool z_v34))]) (memOf [])) := by
  rw [ddiref01_same_J9_eq]; kernel_rfl
noncomputable def s_ddiref01_same_J9 : Env → Mem → (Ex → Env → Mem → Option Int) → Option Int := fun t m K => chk (fitS0 shp_ddiref01_same_J9 t m) (cond (hdS shp_ddiref01_same_J9 t m) (ddiref01_same_J9 (gL [t 0] 0) (gL [t 1] 0) (gI [t 5] 0) (fun z_v34 => K .norm (envOf [(0, (.sl 1 (gL [t 0] 0))), (1, (.sl 1 (gL [t 1] 0))), (5, (.int .i64 (gI [t 5] 0))), (34, (.bool z_v34))]) (memOf []))) none)
theorem o_ddiref01_same_J9 : SubOk Tryd.prog (TIof Tryd.prog) 38 0 (kret [(.t 4)] dec_ddiref01_same) (scOf a_ddiref01_same_J9) s_ddiref01_same_J9 :=
  sub_of tabOk follows ok_ddiref01_same_J9 (er_of (by kernel_rfl)) shp_ddiref01_same_J9 (fun t m K => congrArg (fun z => chk (fitS0 shp_ddiref01_same_J9 t m) (cond (hdS shp_ddiref01_same_J9 t m) z none)) (t_ddiref01_same_J9 (gL [t 0] 0) (gL [t 1] 0) (gI [t 5] 0) K).symm)
def shp_ddiref01_same_L6 : Shp := ⟨[(0, .one (.l (.sl 1))), (1, .one (.l (.sl 1))), (5, .one (.l (.i .i64)))], []⟩
noncomputable def ddiref01_same_L6_b  (v0 : List AV) (v1 : List AV) (v5 : Int) (next : Int → Option Int) (kx0 : Int → Option Int) : Option Int :=
  (ddiref01_same_J9 v0 v1 v5 (fun v34q1 => (bif v34q1 then (next (IntKind.i64.wrap (v5 + (1 : Int)))) else (kx0 v5))))
noncomputable def ddiref01_same_L6_i  (v0 : List AV) (v1 : List AV) (kx0 : Int → Option Int) : Nat → Int → Option Int
  | 0 => (fun _ => none)
  | n + 1 => (fun v5 => ddiref01_same_L6_b v0 v1 v5 (ddiref01_same_L6_i v0 v1 kx0 n) kx0)
noncomputable def ddiref01_same_L6 := hull (ddiref01_same_L6_i)
theorem ddiref01_same_L6_eq : ddiref01_same_L6 = ddiref01_same_L6_i := hull_eq _
noncomputable def a_ddiref01_same_L6 : AC Int :=
  .seq (.seq (.seq (.view [.sel [0, 1, 5] []]) (.sub (scOf a_ddiref01_same_J9) s_ddiref01_same_J9)) (.cond (.t 34) (.skip) (.seq (.view [.sel [5] []]) (.exit 0)))) (.block 1 (.seq (.reg [.op ⟨(some 35), (.mv (.t 5)), none⟩,
    .op ⟨(some 36), (.bin .add (.t 35) (.c (.int .i64 1))), none⟩,
    .op ⟨(some 5), (.mv (.t 36)), none⟩]) (.view [.sel [0, 1, 5] []])))
theorem ok_ddiref01_same_L6 : AC.ok Tryd.prog (TIof Tryd.prog) 38 0 (kret [(.t 4)] dec_ddiref01_same) a_ddiref01_same_L6 := (And.intro (And.intro (And.intro True.intro o_ddiref01_same_J9) (And.intro True.intro (And.intro True.intro True.intro))) (And.intro True.intro True.intro))
theorem t_ddiref01_same_L6_b (v0 : List AV) (v1 : List AV) (v5 : Int) (K : Ex → Env → Mem → Option Int) : den 0 (kret [(.t 4)] dec_ddiref01_same) a_ddiref01_same_L6 (envOf [(0, (.sl 1 v0)), (1, (.sl 1 v1)), (5, (.int .i64 v5))]) (memOf []) K = ddiref01_same_L6_b v0 v1 v5 (fun z_v5 => K .norm (envOf [(0, (.sl 1 v0)), (1, (.sl 1 v1)), (5, (.int .i64 z_v5))]) (memOf [])) (fun z_v5 => K (.exit 0) (envOf [(5, (.int .i64 z_v5))]) (memOf [])) := by kernel_rfl
theorem t_ddiref01_same_L6 (v0 : List AV) (v1 : List AV) (K : Ex → Env → Mem → Option Int) : ∀ (n : Nat) (v5 : Int), iterD (den 0 (kret [(.t 4)] dec_ddiref01_same) a_ddiref01_same_L6) n (envOf [(0, (.sl 1 v0)), (1, (.sl 1 v1)), (5, (.int .i64 v5))]) (memOf []) K = ddiref01_same_L6 v0 v1 (fun z_v5 => K (.exit 0) (envOf [(5, (.int .i64 z_v5))]) (memOf [])) n v5 := by
  rw [ddiref01_same_L6_eq]
  intro n
  induction n with
  | zero => intros; rfl
  | succ n ih =>
    intro v5
    exact (t_ddiref01_same_L6_b v0 v1 v5 (itK (den 0 (kret [(.t 4)] dec_ddiref01_same) a_ddiref01_same_L6) n K)).trans (congrArg (fun q => ddiref01_same_L6_b v0 v1 v5 q (fun z_v5 => K (.exit 0) (envOf [(5, (.int .i64 z_v5))]) (memOf []))) (funext fun v5 => ih v5))
noncomputable def s_ddiref01_same_L6 : Env → Mem → (Ex → Env → Mem → Option Int) → Option Int := fun t m K => chk (fitS0 shp_ddiref01_same_L6 t m) (cond (hdS shp_ddiref01_same_L6 t m) (ddiref01_same_L6 (gL [t 0] 0) (gL [t 1] 0) (fun z_v5 => K (.exit 0) (envOf [(5, (.int .i64 z_v5))]) (memOf [])) FU (gI [t 5] 0)) none)
theorem o_ddiref01_same_L6 : SubOk Tryd.prog (TIof Tryd.prog) 38 0 (kret [(.t 4)] dec_ddiref01_same) (.loop (scOf a_ddiref01_same_L6)) s_ddiref01_same_L6 :=
  loop_of tabOk follows ok_ddiref01_same_L6 (er_of (by kernel_rfl)) shp_ddiref01_same_L6 (fun t m K => congrArg (fun z => chk (fitS0 shp_ddiref01_same_L6 t m) (cond (hdS shp_ddiref01_same_L6 t m) z none)) (t_ddiref01_same_L6 (gL [t 0] 0) (gL [t 1] 0) K FU (gI [t 5] 0)).symm)
def shp_ddiref01_same : Shp := ⟨[(0, .one (.l (.sl 1))), (1, .one (.l (.sl 1)))], []⟩
noncomputable def ddiref01_same_i (v0 : List AV) (v1 : List AV) : Option Int :=
  (ddiref01_same_L6 v0 v1 (fun v5q1 => (some v5q1)) FU (0 : Int))
noncomputable def ddiref01_same := hull ddiref01_same_i
theorem ddiref01_same_eq : ddiref01_same = ddiref01_same_i := hull_eq _
noncomputable def a_ddiref01_same : AC Int :=
  .seq (.reg [.op ⟨(some 4), (.mv (.c (.int .i64 0))), none⟩]) (.seq (.reg [.op ⟨(some 5), (.mv (.c (.int .i64 0))), none⟩]) (.seq (.block 0 (.seq (.view [.sel [0, 1, 5] []]) (.sub (.loop (scOf a_ddiref01_same_L6)) s_ddiref01_same_L6))) (.seq (.reg [.op ⟨(some 37), (.mv (.t 5)), none⟩,
    .op ⟨(some 4), (.mv (.t 37)), none⟩]) (.ret))))
theorem ok_ddiref01_same : AC.ok Tryd.prog (TIof Tryd.prog) 38 0 (kret [(.t 4)] dec_ddiref01_same) a_ddiref01_same := (And.intro True.intro (And.intro True.intro (And.intro (And.intro True.intro o_ddiref01_same_L6) (And.intro True.intro True.intro))))
theorem t_ddiref01_same (v0 : List AV) (v1 : List AV) : den 0 (kret [(.t 4)] dec_ddiref01_same) a_ddiref01_same (envOf [(0, (.sl 1 v0)), (1, (.sl 1 v1))]) (memOf []) (kend (kret [(.t 4)] dec_ddiref01_same)) = ddiref01_same v0 v1 := by
  rw [ddiref01_same_eq]; kernel_rfl
theorem c_ddiref01_same : cFn (TIof Tryd.prog) Tryd.f44 = some ⟨38, [(.t 4)], scOf a_ddiref01_same⟩ := by kernel_rfl
noncomputable def ent_ddiref01_same {R : Type} (xs : List AV) (K : AV → Option R) : Option R := chk (fitS shp_ddiref01_same (entry xs) Mem.none) (oB (ddiref01_same (gL [(entry xs) 0] 0) (gL [(entry xs) 1] 0)) fun r => K (enc_ddiref01_same r))
theorem k_ddiref01_same {R : Type} : EntOkB Tryd.prog 44 (ent_ddiref01_same (R := R)) :=
  ent_of (F := fun xs => ddiref01_same (gL [(entry xs) 0] 0) (gL [(entry xs) 1] 0)) (enc := enc_ddiref01_same) tabOk follows Tryd.func44 (by kernel_rfl) c_ddiref01_same (fun z r h => by
    obtain ⟨h1, h2⟩ := cond_some h
    cases h2
    exact (etaRV_eq h1).symm) ok_ddiref01_same (er_of (by kernel_rfl)) shp_ddiref01_same (fun xs => t_ddiref01_same (gL [(entry xs) 0] 0) (gL [(entry xs) 1] 0)) (fun xs K r h => by
    unfold ent_ddiref01_same at h
    exact ⟨(chk_some h).1, oB_some (chk_some h).2⟩)

/-! ddi/ddiref01.Under -/
def dec_ddiref01_Under (z : AV) : Option Bool := cond (fitRV (.one .b) z) (some (aB z)) none
def enc_ddiref01_Under (r : Bool) : AV := .bool r
def shp_ddiref01_Under : Shp := ⟨[(0, .one (.l .s)), (1, .one (.l .s))], []⟩
noncomputable def ddiref01_Under_i (v0 : List UInt8) (v1 : List UInt8) : Option Bool :=
  (oB (ddiref01_split v0) fun r1 => (oB (ddiref01_split v1) fun r2 => (bif (r1.2 && r2.2) then (oB (ddiref01_same r1.1 r2.1) fun r3 => (some (r3 == (r2.1.length : Int)))) else (some false))))
noncomputable def ddiref01_Under := hull ddiref01_Under_i
theorem ddiref01_Under_eq : ddiref01_Under = ddiref01_Under_i := hull_eq _
noncomputable def a_ddiref01_Under : AC Bool :=
  .seq (.reg [.op ⟨(some 4), (.mv (.c (.bool false))), none⟩]) (.seq (.reg [.op ⟨(some 10), (.mv (.t 0)), none⟩,
    .callc ⟨(some 11), (.call 43 [(.t 10)]), none⟩ 43 ent_ddiref01_split,
    .op ⟨(some 9), (.mv (.t 11)), none⟩,
    .op ⟨(some 12), (.ext (.t 9) 0), none⟩,
    .op ⟨(some 13), (.ext (.t 9) 1), none⟩,
    .op ⟨(some 5), (.mv (.t 12)), none⟩,
    .op ⟨(some 6), (.mv (.t 13)), none⟩]) (.seq (.reg [.op ⟨(some 15), (.mv (.t 1)), none⟩,
    .callc ⟨(some 16), (.call 43 [(.t 15)]), none⟩ 43 ent_ddiref01_split,
    .op ⟨(some 14), (.mv (.t 16)), none⟩,
    .op ⟨(some 17), (.ext (.t 14) 0), none⟩,
    .op ⟨(some 18), (.ext (.t 14) 1), none⟩,
    .op ⟨(some 7), (.mv (.t 17)), none⟩,
    .op ⟨(some 8), (.mv (.t 18)), none⟩]) (.seq (.reg [.op ⟨(some 19), (.mv (.t 6)), none⟩,
    .op ⟨(some 20), (.mv (.t 19)), none⟩,
    .grp 20 true [⟨(some 21), (.mv (.t 8)), (some (20, true))⟩] 22 (.t 21),
    .op ⟨(some 23), (.mv (.t 22)), none⟩,
    .op ⟨(some 24), (.mv (.t 5)), (some (23, true))⟩,
    .op ⟨(some 25), (.mv (.t 7)), (some (23, true))⟩,
    .call ⟨(some 26), (.call 44 [(.t 24), (.t 25)]), (some (23, true))⟩ 44 ent_ddiref01_same,
    .op ⟨(some 27), (.mv (.t 7)), (some (23, true))⟩,
    .op ⟨(some 28), (.len false (.t 27)), (some (23, true))⟩,
    .op ⟨(some 29), (.bin .eql (.t 26) (.t 28)), (some (23, true))⟩,
    .op ⟨(some 30), (.pick (.t 23) (.t 29) (.c (.bool false))), none⟩,
    .op ⟨(some 4), (.mv (.t 30)), none⟩]) (.ret))))
theorem ok_ddiref01_Under : AC.ok Tryd.prog (TIof Tryd.prog) 31 0 (kret [(.t 4)] dec_ddiref01_Under) a_ddiref01_Under := (And.intro True.intro (And.intro (And.intro (EntOkB.ok k_ddiref01_split) True.intro) (And.intro (And.intro (EntOkB.ok k_ddiref01_split) True.intro) (And.intro (And.intro (EntOkB.ok k_ddiref01_same) True.intro) True.intro))))
theorem t_ddiref01_Under (v0 : List UInt8) (v1 : List UInt8) : den 0 (kret [(.t 4)] dec_ddiref01_Under) a_ddiref01_Under (envOf [(0, (.str v0)), (1, (.str v1))]) (memOf []) (kend (kret [(.t 4)] dec_ddiref01_Under)) = ddiref01_Under v0 v1 := by
  rw [ddiref01_Under_eq]; kernel_rfl
theorem c_ddiref01_Under : cFn (TIof Tryd.prog) Tryd.f25 = some ⟨31, [(.t 4)], scOf a_ddiref01_Under⟩ := by kernel_rfl
noncomputable def ent_ddiref01_Under {R : Type} (xs : List AV) (K : AV → Option R) : Option R := chk (fitS shp_ddiref01_Under (entry xs) Mem.none) (oB (ddiref01_Under (gS [(entry xs) 0] 0) (gS [(entry xs) 1] 0)) fun r => K (enc_ddiref01_Under r))
theorem k_ddiref01_Under {R : Type} : EntOkB Tryd.prog 25 (ent_ddiref01_Under (R := R)) :=
  ent_of (F := fun xs => ddiref01_Under (gS [(entry xs) 0] 0) (gS [(entry xs) 1] 0)) (enc := enc_ddiref01_Under) tabOk follows Tryd.func25 (by kernel_rfl) c_ddiref01_Under (fun z r h => by
    obtain ⟨h1, h2⟩ := cond_some h
    cases h2
    exact (etaRV_eq h1).symm) ok_ddiref01_Under (er_of (by kernel_rfl)) shp_ddiref01_Under (fun xs => t_ddiref01_Under (gS [(entry xs) 0] 0) (gS [(entry xs) 1] 0)) (fun xs K r h => by
    unfold ent_ddiref01_Under at h
    exact ⟨(chk_some h).1, oB_some (chk_some h).2⟩)

/-! ddi/ddiref25.Zone -/
def dec_ddiref25_Zone (z : AV) : Option ((List UInt8) × Bool) := cond (fitTup [(.one .s), (.one .b)] z) (some (aS (gC (tpL z) 0), aB (gC (tpL z) 1))) none
def enc_ddiref25_Zone (r : (List UInt8) × Bool) : AV := .tup [.str r.1, .bool r.2]
def shp_ddiref25_Zone_J18 : Shp := ⟨[(1, .one (.l .s)), (2, .one (.ptr 0 0)), (6, .one (.l .s)), (7, .one (.l (.i .i64)))], [.box true [(.l .s), (.l (.sl 6)), (.l (.sl 6)), (.l (.sl 6)), (.l (.sl 1)), (.l (.sl 8))]]⟩
noncomputable def ddiref25_Zone_J18_i  (v1 : List UInt8) (v6 : List UInt8) (v7 : Int) (b0_0 : List UInt8) (b0_1 : List AV) (b0_2 : List AV) (b0_3 : List AV) (b0_4 : List AV) (b0_5 : List AV) (kn : Bool → Option ((List UInt8) × Bool)) : Option ((List UInt8) × Bool) :=
  (oB (ixB b0_4 v7) fun y1 => (bif fitC [.s] y1.cells then (oB (ddiref01_Under v1 (gS y1.cells 0)) fun r2 => (bif r2 then (bif (v6 == ([] : List UInt8)) then (kn true) else (oB (ixB b0_4 v7) fun y3 => (bif fitC [.s] y3.cells then (oB (ddiref01_Labels (gS y3.cells 0)) fun r4 => (oB (ddiref01_Labels v6) fun r5 => (kn (decide ((r4.length : Int) > (r5.length : Int)))))) else none))) else (kn false))) else none))
noncomputable def ddiref25_Zone_J18 := hull (ddiref25_Zone_J18_i)
theorem ddiref25_Zone_J18_eq : ddiref25_Zone_J18 = ddiref25_Zone_J18_i := hull_eq _
noncomputable def a_ddiref25_Zone_J18 : AC ((List UInt8) × Bool) :=
  .seq (.reg [.op ⟨(some 15), (.mv (.t 1)), none⟩,
    .op ⟨(some 16), (.fa 4 (.t 2)), none⟩,
    .op ⟨(some 17), (.load false 1 (.t 16)), none⟩,
    .op ⟨(some 18), (.mv (.t 7)), none⟩,
    .op ⟨(some 19), (.ia 1 (.t 17) (.t 18)), none⟩,
    .st (.etac 19 [.s]),
    .op ⟨(some 20), (.load false 1 (.t 19)), none⟩,
    .call ⟨(some 21), (.call 25 [(.t 15), (.t 20)]), none⟩ 25 ent_ddiref01_Under,
    .op ⟨(some 22), (.mv (.t 21)), none⟩,
    .op ⟨(some 23), (.mv (.t 6)), (some (22, true))⟩,
    .op ⟨(some 24), (.bin .eql (.t 23) (.c (.str []))), (some (22, true))⟩,
    .op ⟨(some 25), (.mv (.t 24)), (some (22, true))⟩,
    .op ⟨(some 26), (.fa 4 (.t 2)), (some (25, false))⟩,
    .op ⟨(some 27), (.load false 1 (.t 26)), (some (25, false))⟩,
    .op ⟨(some 28), (.mv (.t 7)), (some (25, false))⟩,
    .op ⟨(some 29), (.ia 1 (.t 27) (.t 28)), (some (25, false))⟩,
    .stg 25 false (.etac 29 [.s]),
    .op ⟨(some 30), (.load false 1 (.t 29)), (some (25, false))⟩,
    .callc ⟨(some 31), (.call 26 [(.t 30)]), (some (25, false))⟩ 26 ent_ddiref01_Labels,
    .op ⟨(some 32), (.len false (.t 31)), (some (25, false))⟩,
    .op ⟨(some 33), (.mv (.t 6)), (some (25, false))⟩,
    .callc ⟨(some 34), (.call 26 [(.t 33)]), (some (25, false))⟩ 26 ent_ddiref01_Labels,
    .op ⟨(some 35), (.len false (.t 34)), (some (25, false))⟩,
    .op ⟨(some 36), (.bin .gtr (.t 32) (.t 35)), (some (25, false))⟩,
    .op ⟨(some 37), (.pick (.t 25) (.c (.bool true)) (.t 36)), (some (22, true))⟩,
    .op ⟨(some 38), (.pick (.t 22) (.t 37) (.c (.bool false))), none⟩]) (.view [.sel [1, 2, 6, 7, 38] [0]])
theorem ok_ddiref25_Zone_J18 : AC.ok Tryd.prog (TIof Tryd.prog) 47 0 (kret [(.t 4), (.t 5)] dec_ddiref25_Zone) a_ddiref25_Zone_J18 := (And.intro (And.intro (EntOkB.ok k_ddiref01_Under) (And.intro (EntOkB.ok k_ddiref01_Labels) (And.intro (EntOkB.ok k_ddiref01_Labels) True.intro))) True.intro)
theorem t_ddiref25_Zone_J18 (v1 : List UInt8) (v6 : List UInt8) (v7 : Int) (b0_0 : List UInt8) (b0_1 : List AV) (b0_2 : List AV) (b0_3 : List AV) (b0_4 : List AV) (b0_5 : List AV) (K : Ex → Env → Mem → Option ((List UInt8) × Bool)) : den 0 (kret [(.t 4), (.t 5)] dec_ddiref25_Zone) a_ddiref25_Zone_J18 (envOf [(1, (.str v1)), (2, (.ptr 0 0)), (6, (.str v6)), (7, (.int .i64 v7))]) (memOf [(some (.box true [(.str b0_0), (.sl 6 b0_1), (.sl 6 b0_2), (.sl 6 b0_3), (.sl 1 b0_4), (.sl 8 b0_5)]))]) K = ddiref25_Zone_J18 v1 v6 v7 b0_0 b0_1 b0_2 b0_3 b0_4 b0_5 (fun z_v38 => K .norm (envOf [(1, (.str v1)), (2, (.ptr 0 0)), (6, (.str v6)), (7, (.int .i64 v7)), (38, (.bool z_v38))]) (memOf [(some (.box true [(.str b0_0), (.sl 6 b0_1), (.sl 6 b0_2), (.sl 6 b0_3), (.sl 1 b0_4), (.sl 8 b0_5)]))])) := by
  rw [ddiref25_Zone_J18_eq]; kernel_rfl
noncomputable def s_ddiref25_Zone_J18 : Env → Mem → (Ex → Env → Mem → Option ((List UInt8) × Bool)) → Option ((List UInt8) × Bool) := fun t m K => chk (fitS0 shp_ddiref25_Zone_J18 t m) (cond (hdS shp_ddiref25_Zone_J18 t m) (ddiref25_Zone_J18 (gS [t 1] 0) (gS [t 6] 0) (gI [t 7] 0) (gS (bxC (m.s 0)) 0) (gL (bxC (m.s 0)) 1) (gL (bxC (m.s 0)) 2) (gL (bxC (m.s 0)) 3) (gL (bxC (m.s 0)) 4) (gL (bxC (m.s 0)) 5) (fun z_v38 => K .norm (envOf [(1, (.str (gS [t 1] 0))), (2, (.ptr 0 0)), (6, (.str (gS [t 6] 0))), (7, (.int .i64 (gI [t 7] 0))), (38, (.bool z_v38))]) (memOf [(some (.box true [(.str (gS (bxC (m.s 0)) 0)), (.sl 6 (gL (bxC (m.s 0)) 1)), (.sl 6 (gL (bxC (m.s 0)) 2)), (.sl 6 (gL (bxC (m.s 0)) 3)), (.sl 1 (gL (bxC (m.s 0)) 4)), (.sl 8 (gL (bxC (m.s 0)) 5))]))]))) none)
theorem o_ddiref25_Zone_J18 : SubOk Tryd.prog (TIof Tryd.prog) 47 0 (kret [(.t 4), (.t 5)] dec_ddiref25_Zone) (scOf a_ddiref25_Zone_J18) s_ddiref25_Zone_J18 :=
  sub_of tabOk follows ok_ddiref25_Zone_J18 (er_of (by kernel_rfl)) shp_ddiref25_Zone_J18 (fun t m K => congrArg (fun z => chk (fitS0 shp_ddiref25_Zone_J18 t m) (cond (hdS shp_ddiref25_Zone_J18 t m) z none)) (t_ddiref25_Zone_J18 (gS [t 1] 0) (gS [t 6] 0) (gI [t 7] 0) (gS (bxC (m.s 0)) 0) (gL (bxC (m.s 0)) 1) (gL (bxC (m.s 0)) 2) (gL (bxC (m.s 0)) 3) (gL (bxC (m.s 0)) 4) (gL (bxC (m.s 0)) 5) K).symm)
def shp_ddiref25_Zone_L8 : Shp := ⟨[(1, .one (.l .s)), (2, .one (.ptr 0 0)), (6, .one (.l .s)), (7, .one (.l (.i .i64)))], [.box true [(.l .s), (.l (.sl 6)), (.l (.sl 6)), (.l (.sl 6)), (.l (.sl 1)), (.l (.sl 8))]]⟩
noncomputable def ddiref25_Zone_L8_b  (v1 : List UInt8) (v6 : List UInt8) (v7 : Int) (b0_0 : List UInt8) (b0_1 : List AV) (b0_2 : List AV) (b0_3 : List AV) (b0_4 : List AV) (b0_5 : List AV) (next : (List UInt8) → Int → Option ((List UInt8) × Bool)) (kx0 : (List UInt8) → Option ((List UInt8) × Bool)) : Option ((List UInt8) × Bool) :=
  (bif (decide (v7 < (b0_4.length : Int))) then (ddiref25_Zone_J18 v1 v6 v7 b0_0 b0_1 b0_2 b0_3 b0_4 b0_5 (fun v38q1 => (bif v38q1 then (oB (ixB b0_4 v7) fun y2 => (bif fitC [.s] y2.cells then (next (gS y2.cells 0) (IntKind.i64.wrap (v7 + (1 : Int)))) else none)) else (next v6 (IntKind.i64.wrap (v7 + (1 : Int))))))) else (kx0 v6))
noncomputable def ddiref25_Zone_L8_i  (v1 : List UInt8) (b0_0 : List UInt8) (b0_1 : List AV) (b0_2 : List AV) (b0_3 : List AV) (b0_4 : List AV) (b0_5 : List AV) (kx0 : (List UInt8) → Option ((List UInt8) × Bool)) : Nat → (List UInt8) → Int → Option ((List UInt8) × Bool)
  | 0 => (fun _ _ => none)
  | n + 1 => (fun v6 v7 => ddiref25_Zone_L8_b v1 v6 v7 b0_0 b0_1 b0_2 b0_3 b0_4 b0_5 (ddiref25_Zone_L8_i v1 b0_0 b0_1 b0_2 b0_3 b0_4 b0_5 kx0 n) kx0)
noncomputable def ddiref25_Zone_L8 := hull (ddiref25_Zone_L8_i)
theorem ddiref25_Zone_L8_eq : ddiref25_Zone_L8 = ddiref25_Zone_L8_i := hull_eq _
noncomputable def a_ddiref25_Zone_L8 : AC ((List UInt8) × Bool) :=
  .seq (.seq (.reg [.op ⟨(some 8), (.mv (.t 7)), none⟩,
    .op ⟨(some 9), (.fa 4 (.t 2)), none⟩,
    .op ⟨(some 10), (.load false 1 (.t 9)), none⟩,
    .op ⟨(some 11), (.len false (.t 10)), none⟩,
    .op ⟨(some 12), (.bin .lss (.t 8) (.t 11)), none⟩]) (.cond (.t 12) (.skip) (.seq (.view [.sel [6] []]) (.exit 0)))) (.seq (.block 1 (.seq (.seq (.view [.sel [1, 2, 6, 7] [0]]) (.sub (scOf a_ddiref25_Zone_J18) s_ddiref25_Zone_J18)) (.cond (.t 38) (.reg [.op ⟨(some 39), (.fa 4 (.t 2)), none⟩,
    .op ⟨(some 40), (.load false 1 (.t 39)), none⟩,
    .op ⟨(some 41), (.mv (.t 7)), none⟩,
    .op ⟨(some 42), (.ia 1 (.t 40) (.t 41)), none⟩,
    .st (.etac 42 [.s]),
    .op ⟨(some 43), (.load false 1 (.t 42)), none⟩,
    .op ⟨(some 6), (.mv (.t 43)), none⟩]) (.skip)))) (.seq (.reg [.op ⟨(some 13), (.mv (.t 7)), none⟩,
    .op ⟨(some 14), (.bin .add (.t 13) (.c (.int .i64 1))), none⟩,
    .op ⟨(some 7), (.mv (.t 14)), none⟩]) (.view [.sel [1, 2, 6, 7] [0]])))
theorem ok_ddiref25_Zone_L8 : AC.ok Tryd.prog (TIof Tryd.prog) 47 0 (kret [(.t 4), (.t 5)] dec_ddiref25_Zone) a_ddiref25_Zone_L8 := (And.intro (And.intro True.intro (And.intro True.intro (And.intro True.intro True.intro))) (And.intro (And.intro (And.intro True.intro o_ddiref25_Zone_J18) (And.intro True.intro True.intro)) (And.intro True.intro True.intro)))
theorem t_ddiref25_Zone_L8_b (v1 : List UInt8) (v6 : List UInt8) (v7 : Int) (b0_0 : List UInt8) (b0_1 : List AV) (b0_2 : List AV) (b0_3 : List AV) (b0_4 : List AV) (b0_5 : List AV) (K : Ex → Env → Mem → Option ((List UInt8) × Bool)) : den 0 (kret [(.t 4), (.t 5)] dec_ddiref25_Zone) a_ddiref25_Zone_L8 (envOf [(1, (.str v1)), (2, (.ptr 0 0)), (6, (.str v6)), (7, (.int .i64 v7))]) (memOf [(some (.box true [(.str b0_0), (.sl 6 b0_1), (.sl 6 b0_2), (.sl 6 b0_3), (.sl 1 b0_4), (.sl 8 b0_5)]))]) K = ddiref25_Zone_L8_b v1 v6 v7 b0_0 b0_1 b0_2 b0_3 b0_4 b0_5 (fun z_v6 z_v7 => K .norm (envOf [(1, (.str v1)), (2, (.ptr 0 0)), (6, (.str z_v6)), (7, (.int .i64 z_v7))]) (memOf [(some (.box true [(.str b0_0), (.sl 6 b0_1), (.sl 6 b0_2), (.sl 6 b0_3), (.sl 1 b0_4), (.sl 8 b0_5)]))])) (fun z_v6 => K (.exit 0) (envOf [(6, (.str z_v6))]) (memOf [])) := by kernel_rfl
theorem t_ddiref25_Zone_L8 (v1 : List UInt8) (b0_0 : List UInt8) (b0_1 : List AV) (b0_2 : List AV) (b0_3 : List AV) (b0_4 : List AV) (b0_5 : List AV) (K : Ex → Env → Mem → Option ((List UInt8) × Bool)) : ∀ (n : Nat) (v6 : List UInt8) (v7 : Int), iterD (den 0 (kret [(.t 4), (.t 5)] dec_ddiref25_Zone) a_ddiref25_Zone_L8) n (envOf [(1, (.str v1)), (2, (.ptr 0 0)), (6, (.str v6)), (7, (.int .i64 v7))]) (memOf [(some (.box true [(.str b0_0), (.sl 6 b0_1), (.sl 6 b0_2), (.sl 6 b0_3), (.sl 1 b0_4), (.sl 8 b0_5)]))]) K = ddiref25_Zone_L8 v1 b0_0 b0_1 b0_2 b0_3 b0_4 b0_5 (fun z_v6 => K (.exit 0) (envOf [(6, (.str z_v6))]) (memOf [])) n v6 v7 := by
  rw [ddiref25_Zone_L8_eq]
  intro n
  induction n with
  | zero => intros; rfl
  | succ n ih =>
    intro v6 v7
    exact (t_ddiref25_Zone_L8_b v1 v6 v7 b0_0 b0_1 b0_2 b0_3 b0_4 b0_5 (itK (den 0 (kret [(.t 4), (.t 5)] dec_ddiref25_Zone) a_ddiref25_Zone_L8) n K)).trans (congrArg (fun q => ddiref25_Zone_L8_b v1 v6 v7 b0_0 b0_1 b0_2 b0_3 b0_4 b0_5 q (fun z_v6 => K (.exit 0) (envOf [(6, (.str z_v6))]) (memOf []))) (funext fun v6 => funext fun v7 => ih v6 v7))
noncomputable def s_ddiref25_Zone_L8 : Env → Mem → (Ex → Env → Mem → Option ((List UInt8) × Bool)) → Option ((List UInt8) × Bool) := fun t m K => chk (fitS0 shp_ddiref25_Zone_L8 t m) (cond (hdS shp_ddiref25_Zone_L8 t m) (ddiref25_Zone_L8 (gS [t 1] 0) (gS (bxC (m.s 0)) 0) (gL (bxC (m.s 0)) 1) (gL (bxC (m.s 0)) 2) (gL (bxC (m.s 0)) 3) (gL (bxC (m.s 0)) 4) (gL (bxC (m.s 0)) 5) (fun z_v6 => K (.exit 0) (envOf [(6, (.str z_v6))]) (memOf [])) FU (gS [t 6] 0) (gI [t 7] 0)) none)
theorem o_ddiref25_Zone_L8 : SubOk Tryd.prog (TIof Tryd.prog) 47 0 (kret [(.t 4), (.t 5)] dec_ddiref25_Zone) (.loop (scOf a_ddiref25_Zone_L8)) s_ddiref25_Zone_L8 :=
  loop_of tabOk follows ok_ddiref25_Zone_L8 (er_of (by kernel_rfl)) shp_ddiref25_Zone_L8 (fun t m K => congrArg (fun z => chk (fitS0 shp_ddiref25_Zone_L8 t m) (cond (hdS shp_ddiref25_Zone_L8 t m) z none)) (t_ddiref25_Zone_L8 (gS [t 1] 0) (gS (bxC (m.s 0)) 0) (gL (bxC (m.s 0)) 1) (gL (bxC (m.s 0)) 2) (gL (bxC (m.s 0)) 3) (gL (bxC (m.s 0)) 4) (gL (bxC (m.s 0)) 5) K FU (gS [t 6] 0) (gI [t 7] 0)).symm)
def shp_ddiref25_Zone : Shp := ⟨[(0, .st [(.l .s), (.l (.sl 6)), (.l (.sl 6)), (.l (.sl 6)), (.l (.sl 1)), (.l (.sl 8))]), (1, .one (.l .s))], []⟩
noncomputable def ddiref25_Zone_i (v0_0 : List UInt8) (v0_1 : List AV) (v0_2 : List AV) (v0_3 : List AV) (v0_4 : List AV) (v0_5 : List AV) (v1 : List UInt8) : Option ((List UInt8) × Bool) :=
  (ddiref25_Zone_L8 v1 v0_0 v0_1 v0_2 v0_3 v0_4 v0_5 (fun v6q1 => (some (v6q1, (!(v6q1 == ([] : List UInt8)))))) FU ([] : List UInt8) (0 : Int))
noncomputable def ddiref25_Zone := hull ddiref25_Zone_i
theorem ddiref25_Zone_eq : ddiref25_Zone = ddiref25_Zone_i := hull_eq _
noncomputable def a_ddiref25_Zone : AC ((List UInt8) × Bool) :=
  .seq (.reg [.op ⟨(some 2), (.box (.t 0)), none⟩,
    .op ⟨(some 4), (.mv (.c (.str []))), none⟩,
    .op ⟨(some 5), (.mv (.c (.bool false))), none⟩]) (.seq (.reg [.op ⟨(some 6), (.mv (.c (.str []))), none⟩]) (.seq (.seq (.reg [.op ⟨(some 7), (.mv (.c (.int .i64 0))), none⟩]) (.block 0 (.seq (.view [.sel [1, 2, 6, 7] [0]]) (.sub (.loop (scOf a_ddiref25_Zone_L8)) s_ddiref25_Zone_L8)))) (.seq (.reg [.op ⟨(some 44), (.mv (.t 6)), none⟩,
    .op ⟨(some 45), (.mv (.t 6)), none⟩,
    .op ⟨(some 46), (.bin .neq (.t 45) (.c (.str []))), none⟩,
    .op ⟨(some 4), (.mv (.t 44)), none⟩,
    .op ⟨(some 5), (.mv (.t 46)), none⟩]) (.ret))))
theorem ok_ddiref25_Zone : AC.ok Tryd.prog (TIof Tryd.prog) 47 0 (kret [(.t 4), (.t 5)] dec_ddiref25_Zone) a_ddiref25_Zone := (And.intro True.intro (And.intro True.intro (And.intro (And.intro True.intro (And.intro True.intro o_ddiref25_Zone_L8)) (And.intro True.intro True.intro))))
theorem t_ddiref25_Zone (v0_0 : List UInt8) (v0_1 : List AV) (v0_2 : List AV) (v0_3 : List AV) (v0_4 : List AV) (v0_5 : List AV) (v1 : List UInt8) : den 0 (kret [(.t 4), (.t 5)] dec_ddiref25_Zone) a_ddiref25_Zone (envOf [(0, (.agg [(.str v0_0), (.sl 6 v0_1), (.sl 6 v0_2), (.sl 6 v0_3), (.sl 1 v0_4), (.sl 8 v0_5)])), (1, (.str v1))]) (memOf []) (kend (kret [(.t 4), (.t 5)] dec_ddiref25_Zone)) = ddiref25_Zone v0_0 v0_1 v0_2 v0_3 v0_4 v0_5 v1 := by
  rw [ddiref25_Zone_eq]; kernel_rfl
theorem c_ddiref25_Zone : cFn (TIof Tryd.prog) Tryd.f18 = some ⟨47, [(.t 4), (.t 5)], scOf a_ddiref25_Zone⟩ := by kernel_rfl
noncomputable def ent_ddiref25_Zone {R : Type} (xs : List AV) (K : AV → Option R) : Option R := chk (fitS shp_ddiref25_Zone (entry xs) Mem.none) (oB (ddiref25_Zone (gS ((entry xs) 0).cells 0) (gL ((entry xs) 0).cells 1) (gL ((entry xs) 0).cells 2) (gL ((entry xs) 0).cells 3) (gL ((entry xs) 0).cells 4) (gL ((entry xs) 0).cells 5) (gS [(entry xs) 1] 0)) fun r => K (enc_ddiref25_Zone r))
theorem k_ddiref25_Zone {R : Type} : EntOkB Tryd.prog 18 (ent_ddiref25_Zone (R := R)) :=
  ent_of (F := fun xs => ddiref25_Zone (gS ((entry xs) 0).cells 0) (gL ((entry xs) 0).cells 1) (gL ((entry xs) 0).cells 2) (gL ((entry xs) 0).cells 3) (gL ((entry xs) 0).cells 4) (gL ((entry xs) 0).cells 5) (gS [(entry xs) 1] 0)) (enc := enc_ddiref25_Zone) tabOk follows Tryd.func18 (by kernel_rfl) c_ddiref25_Zone (fun z r h => by
    obtain ⟨h1, h2⟩ := cond_some h
    cases h2
    exact (fitTup_eq h1).symm) ok_ddiref25_Zone (er_of (by kernel_rfl)) shp_ddiref25_Zone (fun xs => t_ddiref25_Zone (gS ((entry xs) 0).cells 0) (gL ((entry xs) 0).cells 1) (gL ((entry xs) 0).cells 2) (gL ((entry xs) 0).cells 3) (gL ((entry xs) 0).cells 4) (gL ((entry xs) 0).cells 5) (gS [(entry xs) 1] 0)) (fun xs K r h => by
    unfold ent_ddiref25_Zone at h
    exact ⟨(chk_some h).1, oB_some (chk_some h).2⟩)

/-! ddi/ddilaw25.ViewSelects -/
def dec_ddilaw25_ViewSelects (z : AV) : Option Bool := cond (fitRV (.one .b) z) (some (aB z)) none
def enc_ddilaw25_ViewSelects (r : Bool) : AV := .bool r
def shp_ddilaw25_ViewSelects_L14 : Shp := ⟨[(0, .one (.l (.sl 6))), (2, .one (.l .s)), (7, .one (.l (.i .i64))), (8, .one (.l .b)), (9, .one (.l (.i .i64))), (10, .one (.l .b)), (36, .one (.l (.i .i64))), (37, .one (.l (.i .i64)))], []⟩
noncomputable def ddilaw25_ViewSelects_L14_b  (v0 : List AV) (v2 : List UInt8) (v7 : Int) (v8 : Bool) (v9 : Int) (v10 : Bool) (v36 : Int) (v37 : Int) (next : Int → Option Bool) (kx0 : Unit → Option Bool) : Option Bool :=
  (bif (decide (v37 < v36)) then (oB (ixB v0 v37) fun y1 => (bif fitC T_api_View y1.cells then (oB (view_Zone (gS y1.cells 0) (gL y1.cells 1) (gL y1.cells 2) (gL y1.cells 3) (gL y1.cells 4) (gL y1.cells 5) v2) fun r2 => (oB (ixB v0 v37) fun y3 => (bif fitC T_api_View y3.cells then (oB (ddiref25_Zone (gS y3.cells 0) (gL y3.cells 1) (gL y3.cells 2) (gL y3.cells 3) (gL y3.cells 4) (gL y3.cells 5) v2) fun r4 => (bif ((!(r2.1 == r4.1)) || (!((r2.2 == r4.2) && true))) then (some false) else (next (IntKind.i64.wrap (v37 + (1 : Int)))))) else none))) else none)) else (kx0 ()))
noncomputable def ddilaw25_ViewSelects_L14_i  (v0 : List AV) (v2 : List UInt8) (v7 : Int) (v8 : Bool) (v9 : Int) (v10 : Bool) (v36 : Int) (kx0 : Unit → Option Bool) : Nat → Int → Option Bool
  | 0 => (fun _ => none)
  | n + 1 => (fun v37 => ddilaw25_ViewSelects_L14_b v0 v2 v7 v8 v9 v10 v36 v37 (ddilaw25_ViewSelects_L14_i v0 v2 v7 v8 v9 v10 v36 kx0 n) kx0)
noncomputable def ddilaw25_ViewSelects_L14 := hull (ddilaw25_ViewSelects_L14_i)
theorem ddilaw25_ViewSelects_L14_eq : ddilaw25_ViewSelects_L14 = ddilaw25_ViewSelects_L14_i := hull_eq _
noncomputable def a_ddilaw25_ViewSelects_L14 : AC Bool :=
  .seq (.reg [.op ⟨(some 38), (.bin .lss (.t 37) (.t 36)), none⟩]) (.seq (.cond (.t 38) (.skip) (.seq (.view [.sel [7, 8, 9, 10] []]) (.exit 0))) (.seq (.block 1 (.seq (.reg [.op ⟨(some 39), (.mv (.t 37)), none⟩,
    .op ⟨(some 11), (.mv (.t 39)), none⟩]) (.seq (.reg [.op ⟨(some 41), (.mv (.t 0)), none⟩,
    .op ⟨(some 42), (.mv (.t 11)), none⟩,
    .op ⟨(some 43), (.ia 6 (.t 41) (.t 42)), none⟩,
    .st (.etac 43 T_api_View),
    .op ⟨(some 44), (.load true 6 (.t 43)), none⟩,
    .op ⟨(some 45), (.mv (.t 2)), none⟩,
    .call ⟨(some 46), (.call 17 [(.t 44), (.t 45)]), none⟩ 17 ent_view_Zone,
    .op ⟨(some 40), (.mv (.t 46)), none⟩,
    .op ⟨(some 47), (.ext (.t 40) 0), none⟩,
    .op ⟨(some 48), (.ext (.t 40) 1), none⟩,
    .op ⟨(some 12), (.mv (.t 47)), none⟩,
    .op ⟨(some 13), (.mv (.t 48)), none⟩]) (.seq (.reg [.op ⟨(some 50), (.mv (.t 0)), none⟩,
    .op ⟨(some 51), (.mv (.t 11)), none⟩,
    .op ⟨(some 52), (.ia 6 (.t 50) (.t 51)), none⟩,
    .st (.etac 52 T_api_View),
    .op ⟨(some 53), (.load true 6 (.t 52)), none⟩,
    .op ⟨(some 54), (.mv (.t 2)), none⟩,
    .call ⟨(some 55), (.call 18 [(.t 53), (.t 54)]), none⟩ 18 ent_ddiref25_Zone,
    .op ⟨(some 49), (.mv (.t 55)), none⟩,
    .op ⟨(some 56), (.ext (.t 49) 0), none⟩,
    .op ⟨(some 57), (.ext (.t 49) 1), none⟩,
    .op ⟨(some 14), (.mv (.t 56)), none⟩,
    .op ⟨(some 15), (.mv (.t 57)), none⟩]) (.seq (.reg [.op ⟨(some 58), (.mv (.t 12)), none⟩,
    .op ⟨(some 59), (.mv (.t 14)), none⟩,
    .op ⟨(some 60), (.bin .neq (.t 58) (.t 59)), none⟩,
    .op ⟨(some 61), (.mv (.t 60)), none⟩,
    .grp 61 false [⟨(some 62), (.mv (.t 13)), (some (61, false))⟩, ⟨(some 63), (.mv (.t 15)), (some (61, false))⟩, ⟨(some 64), (.eq true false [.b] (.t 62) (.t 63)), (some (61, false))⟩] 65 (.t 64)]) (.cond (.t 65) (.seq (.reg [.op ⟨(some 6), (.mv (.c (.bool false))), none⟩]) (.ret)) (.skip))))))) (.seq (.reg [.op ⟨(some 66), (.bin .add (.t 37) (.c (.int .i64 1))), none⟩,
    .op ⟨(some 37), (.mv (.t 66)), none⟩]) (.view [.sel [0, 2, 7, 8, 9, 10, 36, 37] []]))))
theorem ok_ddilaw25_ViewSelects_L14 : AC.ok Tryd.prog (TIof Tryd.prog) 78 0 (kret [(.t 6)] dec_ddilaw25_ViewSelects) a_ddilaw25_ViewSelects_L14 := (And.intro True.intro (And.intro (And.intro True.intro (And.intro True.intro True.intro)) (And.intro (And.intro True.intro (And.intro (And.intro (EntOkB.ok k_view_Zone) True.intro) (And.intro (And.intro (EntOkB.ok k_ddiref25_Zone) True.intro) (And.intro True.intro (And.intro (And.intro True.intro True.intro) True.intro))))) (And.intro True.intro True.intro))))
theorem t_ddilaw25_ViewSelects_L14_b (v0 : List AV) (v2 : List UInt8) (v7 : Int) (v8 : Bool) (v9 : Int) (v10 : Bool) (v36 : Int) (v37 : Int) (K : Ex → Env → Mem → Option Bool) : den 0 (kret [(.t 6)] dec_ddilaw25_ViewSelects) a_ddilaw25_ViewSelects_L14 (envOf [(0, (.sl 6 v0)), (2, (.str v2)), (7, (.int .i64 v7)), (8, (.bool v8)), (9, (.int .i64 v9)), (10, (.bool v10)), (36, (.int .i64 v36)), (37, (.int .i64 v37))]) (memOf []) K = ddilaw25_ViewSelects_L14_b v0 v2 v7 v8 v9 v10 v36 v37 (fun z_v37 => K .norm (envOf [(0, (.sl 6 v0)), (2, (.str v2)), (7, (.int .i64 v7)), (8, (.bool v8)), (9, (.int .i64 v9)), (10, (.bool v10)), (36, (.int .i64 v36)), (37, (.int .i64 z_v37))]) (memOf [])) (fun _ => K (.exit 0) (envOf [(7, (.int .i64 v7)), (8, (.bool v8)), (9, (.int .i64 v9)), (10, (.bool v10))]) (memOf [])) := by kernel_rfl
theorem t_ddilaw25_ViewSelects_L14 (v0 : List AV) (v2 : List UInt8) (v7 : Int) (v8 : Bool) (v9 : Int) (v10 : Bool) (v36 : Int) (K : Ex → Env → Mem → Option Bool) : ∀ (n : Nat) (v37 : Int), iterD (den 0 (kret [(.t 6)] dec_ddilaw25_ViewSelects) a_ddilaw25_ViewSelects_L14) n (envOf [(0, (.sl 6 v0)), (2, (.str v2)), (7, (.int .i64 v7)), (8, (.bool v8)), (9, (.int .i64 v9)), (10, (.bool v10)), (36, (.int .i64 v36)), (37, (.int .i64 v37))]) (memOf []) K = ddilaw25_ViewSelects_L14 v0 v2 v7 v8 v9 v10 v36 (fun _ => K (.exit 0) (envOf [(7, (.int .i64 v7)), (8, (.bool v8)), (9, (.int .i64 v9)), (10, (.bool v10))]) (memOf [])) n v37 := by
  rw [ddilaw25_ViewSelects_L14_eq]
  intro n
  induction n with
  | zero => intros; rfl
  | succ n ih =>
    intro v37
    exact (t_ddilaw25_ViewSelects_L14_b v0 v2 v7 v8 v9 v10 v36 v37 (itK (den 0 (kret [(.t 6)] dec_ddilaw25_ViewSelects) a_ddilaw25_ViewSelects_L14) n K)).trans (congrArg (fun q => ddilaw25_ViewSelects_L14_b v0 v2 v7 v8 v9 v10 v36 v37 q (fun _ => K (.exit 0) (envOf [(7, (.int .i64 v7)), (8, (.bool v8)), (9, (.int .i64 v9)), (10, (.bool v10))]) (memOf []))) (funext fun v37 => ih v37))
noncomputable def s_ddilaw25_ViewSelects_L14 : Env → Mem → (Ex → Env → Mem → Option Bool) → Option Bool := fun t m K => chk (fitS0 shp_ddilaw25_ViewSelects_L14 t m) (cond (hdS shp_ddilaw25_ViewSelects_L14 t m) (ddilaw25_ViewSelects_L14 (gL [t 0] 0) (gS [t 2] 0) (gI [t 7] 0) (gB [t 8] 0) (gI [t 9] 0) (gB [t 10] 0) (gI [t 36] 0) (fun _ => K (.exit 0) (envOf [(7, (.int .i64 (gI [t 7] 0))), (8, (.bool (gB [t 8] 0))), (9, (.int .i64 (gI [t 9] 0))), (10, (.bool (gB [t 10] 0)))]) (memOf [])) FU (gI [t 37] 0)) none)
theorem o_ddilaw25_ViewSelects_L14 : SubOk Tryd.prog (TIof Tryd.prog) 78 0 (kret [(.t 6)] dec_ddilaw25_ViewSelects) (.loop (scOf a_ddilaw25_ViewSelects_L14)) s_ddilaw25_ViewSelects_L14 :=
  loop_of tabOk follows ok_ddilaw25_ViewSelects_L14 (er_of (by kernel_rfl)) shp_ddilaw25_ViewSelects_L14 (fun t m K => congrArg (fun z => chk (fitS0 shp_ddilaw25_ViewSelects_L14 t m) (cond (hdS shp_ddilaw25_ViewSelects_L14 t m) z none)) (t_ddilaw25_ViewSelects_L14 (gL [t 0] 0) (gS [t 2] 0) (gI [t 7] 0) (gB [t 8] 0) (gI [t 9] 0) (gB [t 10] 0) (gI [t 36] 0) K FU (gI [t 37] 0)).symm)
def shp_ddilaw25_ViewSelects : Shp := ⟨[(0, .one (.l (.sl 6))), (1, .st [(.l .b), (.l (.i .u64)), (.l (.i .u64))]), (2, .one (.l .s))], []⟩
noncomputable def ddilaw25_ViewSelects_i (v0 : List AV) (v1_0 : Bool) (v1_1 : Int) (v1_2 : Int) (v2 : List UInt8) : Option Bool :=
  (oB (ddilaw25_few v0) fun r1 => (oB (cutI v2 none (some (if (300 : Int) < (v2.length : Int) then (300 : Int) else (v2.length : Int)))) fun s2 => (oB (view_Select r1 v1_0 v1_1 v1_2) fun r3 => (oB (ddiref25_Select r1 v1_0 v1_1 v1_2) fun r4 => (ddilaw25_ViewSelects_L14 r1 s2 r3.1 r3.2 r4.1 r4.2 (r1.length : Int) (fun (_ : Unit) => (bif ((r3.1 == r4.1) && ((r3.2 == r4.2) && true)) then (oB (ddilaw25_awake) fun r5 => (some r5)) else (some false))) FU (0 : Int))))))
noncomputable def ddilaw25_ViewSelects := hull ddilaw25_ViewSelects_i
theorem ddilaw25_ViewSelects_eq : ddilaw25_ViewSelects = ddilaw25_ViewSelects_i := hull_eq _
noncomputable def a_ddilaw25_ViewSelects : AC Bool :=
  .seq (.reg [.op ⟨(some 4), (.box (.t 1)), none⟩,
    .op ⟨(some 6), (.mv (.c (.bool false))), none⟩]) (.seq (.reg [.op ⟨(some 16), (.mv (.t 0)), none⟩,
    .callc ⟨(some 17), (.call 12 [(.t 16)]), none⟩ 12 ent_ddilaw25_few,
    .op ⟨(some 0), (.mv (.t 17)), none⟩]) (.seq (.reg [.op ⟨(some 18), (.mv (.t 2)), none⟩,
    .op ⟨(some 19), (.mv (.t 2)), none⟩,
    .op ⟨(some 20), (.len true (.t 19)), none⟩,
    .op ⟨(some 21), (.mm false (.t 20) [(.c (.int .i64 300))]), none⟩,
    .op ⟨(some 22), (.slcs (.t 18) none (some (.t 21))), none⟩,
    .op ⟨(some 2), (.mv (.t 22)), none⟩]) (.seq (.reg [.op ⟨(some 24), (.mv (.t 0)), none⟩,
    .op ⟨(some 25), (.load true 3 (.t 4)), none⟩,
    .call ⟨(some 26), (.call 15 [(.t 24), (.t 25)]), none⟩ 15 ent_view_Select,
    .op ⟨(some 23), (.mv (.t 26)), none⟩,
    .op ⟨(some 27), (.ext (.t 23) 0), none⟩,
    .op ⟨(some 28), (.ext (.t 23) 1), none⟩,
    .op ⟨(some 7), (.mv (.t 27)), none⟩,
    .op ⟨(some 8), (.mv (.t 28)), none⟩]) (.seq (.reg [.op ⟨(some 30), (.mv (.t 0)), none⟩,
    .op ⟨(some 31), (.load true 3 (.t 4)), none⟩,
    .call ⟨(some 32), (.call 16 [(.t 30), (.t 31)]), none⟩ 16 ent_ddiref25_Select,
    .op ⟨(some 29), (.mv (.t 32)), none⟩,
    .op ⟨(some 33), (.ext (.t 29) 0), none⟩,
    .op ⟨(some 34), (.ext (.t 29) 1), none⟩,
    .op ⟨(some 9), (.mv (.t 33)), none⟩,
    .op ⟨(some 10), (.mv (.t 34)), none⟩]) (.seq (.seq (.reg [.op ⟨(some 35), (.mv (.t 0)), none⟩,
    .op ⟨(some 36), (.len false (.t 35)), none⟩,
    .op ⟨(some 37), (.mv (.c (.int .i64 0))), none⟩]) (.block 0 (.seq (.view [.sel [0, 2, 7, 8, 9, 10, 36, 37] []]) (.sub (.loop (scOf a_ddilaw25_ViewSelects_L14)) s_ddilaw25_ViewSelects_L14)))) (.seq (.reg [.op ⟨(some 67), (.mv (.t 7)), none⟩,
    .op ⟨(some 68), (.mv (.t 9)), none⟩,
    .op ⟨(some 69), (.bin .eql (.t 67) (.t 68)), none⟩,
    .op ⟨(some 70), (.mv (.t 69)), none⟩,
    .grp 70 true [⟨(some 71), (.mv (.t 8)), (some (70, true))⟩, ⟨(some 72), (.mv (.t 10)), (some (70, true))⟩, ⟨(some 73), (.eq false false [.b] (.t 71) (.t 72)), (some (70, true))⟩] 74 (.t 73),
    .op ⟨(some 75), (.mv (.t 74)), none⟩,
    .call ⟨(some 76), (.call 11 []), (some (75, true))⟩ 11 ent_ddilaw25_awake,
    .op ⟨(some 77), (.pick (.t 75) (.t 76) (.c (.bool false))), none⟩,
    .op ⟨(some 6), (.mv (.t 77)), none⟩]) (.ret)))))))
theorem ok_ddilaw25_ViewSelects : AC.ok Tryd.prog (TIof Tryd.prog) 78 0 (kret [(.t 6)] dec_ddilaw25_ViewSelects) a_ddilaw25_ViewSelects := (And.intro True.intro (And.intro (And.intro (EntOkB.ok k_ddilaw25_few) True.intro) (And.intro True.intro (And.intro (And.intro (EntOkB.ok k_view_Select) True.intro) (And.intro (And.intro (EntOkB.ok k_ddiref25_Select) True.intro) (And.intro (And.intro True.intro (And.intro True.intro o_ddilaw25_ViewSelects_L14)) (And.intro (And.intro (EntOkB.ok k_ddilaw25_awake) True.intro) True.intro)))))))
theorem t_ddilaw25_ViewSelects (v0 : List AV) (v1_0 : Bool) (v1_1 : Int) (v1_2 : Int) (v2 : List UInt8) : den 0 (kret [(.t 6)] dec_ddilaw25_ViewSelects) a_ddilaw25_ViewSelects (envOf [(0, (.sl 6 v0)), (1, (.agg [(.bool v1_0), (.int .u64 v1_1), (.int .u64 v1_2)])), (2, (.str v2))]) (memOf []) (kend (kret [(.t 6)] dec_ddilaw25_ViewSelects)) = ddilaw25_ViewSelects v0 v1_0 v1_1 v1_2 v2 := by
  rw [ddilaw25_ViewSelects_eq]; kernel_rfl
theorem c_ddilaw25_ViewSelects : cFn (TIof Tryd.prog) Tryd.f5 = some ⟨78, [(.t 6)], scOf a_ddilaw25_ViewSelects⟩ := by kernel_rfl
noncomputable def ent_ddilaw25_ViewSelects {R : Type} (xs : List AV) (K : AV → Option R) : Option R := chk (fitS shp_ddilaw25_ViewSelects (entry xs) Mem.none) (oB (ddilaw25_ViewSelects (gL [(entry xs) 0] 0) (gB ((entry xs) 1).cells 0) (gI ((entry xs) 1).cells 1) (gI ((entry xs) 1).cells 2) (gS [(entry xs) 2] 0)) fun r => K (enc_ddilaw25_ViewSelects r))
theorem k_ddilaw25_ViewSelects {R : Type} : EntOkB Tryd.prog 5 (ent_ddilaw25_ViewSelects (R := R)) :=
  ent_of (F := fun xs => ddilaw25_ViewSelects (gL [(entry xs) 0] 0) (gB ((entry xs) 1).cells 0) (gI ((entry xs) 1).cells 1) (gI ((entry xs) 1).cells 2) (gS [(entry xs) 2] 0)) (enc := enc_ddilaw25_ViewSelects) tabOk follows Tryd.func5 (by kernel_rfl) c_ddilaw25_ViewSelects (fun z r h => by
    obtain ⟨h1, h2⟩ := cond_some h
    cases h2
    exact (etaRV_eq h1).symm) ok_ddilaw25_ViewSelects (er_of (by kernel_rfl)) shp_ddilaw25_ViewSelects (fun xs => t_ddilaw25_ViewSelects (gL [(entry xs) 0] 0) (gB ((entry xs) 1).cells 0) (gI ((entry xs) 1).cells 1) (gI ((entry xs) 1).cells 2) (gS [(entry xs) 2] 0)) (fun xs K r h => by
    unfold ent_ddilaw25_ViewSelects at h
    exact ⟨(chk_some h).1, oB_some (chk_some h).2⟩)

/-! ddi/ddilaw25.ViewLists -/
def dec_ddilaw25_ViewLists (z : AV) : Option Bool := cond (fitRV (.one .b) z) (some (aB z)) none
def enc_ddilaw25_ViewLists (r : Bool) : AV := .bool r
def shp_ddilaw25_ViewLists_J9 : Shp := ⟨[(0, .one (.l (.sl 6))), (3, .one (.ptr 0 0))], [.box true [(.l .b), (.l (.i .u64)), (.l (.i .u64))]]⟩
noncomputable def ddilaw25_ViewLists_J9_i  (v0 : List AV) (b0_0 : Bool) (b0_1 : Int) (b0_2 : Int) (kn : Bool → Option Bool) : Option Bool :=
  (oB (view_Match v0 b0_0 b0_1 b0_2) fun r1 => (bif (!r1) then (oB (ddilaw25_awake) fun r2 => (kn r2)) else (kn false)))
noncomputable def ddilaw25_ViewLists_J9 := hull (ddilaw25_ViewLists_J9_i)
theorem ddilaw25_ViewLists_J9_eq : ddilaw25_ViewLists_J9 = ddilaw25_ViewLists_J9_i := hull_eq _
noncomputable def a_ddilaw25_ViewLists_J9 : AC Bool :=
  .seq (.reg [.op ⟨(some 17), (.mv (.t 0)), none⟩,
    .op ⟨(some 18), (.load true 3 (.t 3)), none⟩,
    .call ⟨(some 19), (.call 9 [(.t 17), (.t 18)]), none⟩ 9 ent_view_Match,
    .op ⟨(some 20), (.un .not (.t 19)), none⟩,
    .op ⟨(some 21), (.mv (.t 20)), none⟩,
    .call ⟨(some 22), (.call 11 []), (some (21, true))⟩ 11 ent_ddilaw25_awake,
    .op ⟨(some 23), (.pick (.t 21) (.t 22) (.c (.bool false))), none⟩,
    .op ⟨(some 4), (.mv (.t 23)), none⟩]) (.view [.sel [4] []])
theorem ok_ddilaw25_ViewLists_J9 : AC.ok Tryd.prog (TIof Tryd.prog) 81 0 (kret [(.t 4)] dec_ddilaw25_ViewLists) a_ddilaw25_ViewLists_J9 := (And.intro (And.intro (EntOkB.ok k_view_Match) (And.intro (EntOkB.ok k_ddilaw25_awake) True.intro)) True.intro)
theorem t_ddilaw25_ViewLists_J9 (v0 : List AV) (b0_0 : Bool) (b0_1 : Int) (b0_2 : Int) (K : Ex → Env → Mem → Option Bool) : den 0 (kret [(.t 4)] dec_ddilaw25_ViewLists) a_ddilaw25_ViewLists_J9 (envOf [(0, (.sl 6 v0)), (3, (.ptr 0 0))]) (memOf [(some (.box true [(.bool b0_0), (.int .u64 b0_1), (.int .u64 b0_2)]))]) K = ddilaw25_ViewLists_J9 v0 b0_0 b0_1 b0_2 (fun z_v4 => K .norm (envOf [(4, (.bool z_v4))]) (memOf [])) := by
  rw [ddilaw25_ViewLists_J9_eq]; kernel_rfl
noncomputable def s_ddilaw25_ViewLists_J9 : Env → Mem → (Ex → Env → Mem → Option Bool) → Option Bool := fun t m K => chk (fitS0 shp_ddilaw25_ViewLists_J9 t m) (cond (hdS shp_ddilaw25_ViewLists_J9 t m) (ddilaw25_ViewLists_J9 (gL [t 0] 0) (gB (bxC (m.s 0)) 0) (gI (bxC (m.s 0)) 1) (gI (bxC (m.s 0)) 2) (fun z_v4 => K .norm (envOf [(4, (.bool z_v4))]) (memOf []))) none)
theorem o_ddilaw25_ViewLists_J9 : SubOk Tryd.prog (TIof Tryd.prog) 81 0 (kret [(.t 4)] dec_ddilaw25_ViewLists) (scOf a_ddilaw25_ViewLists_J9) s_ddilaw25_ViewLists_J9 :=
  sub_of tabOk follows ok_ddilaw25_ViewLists_J9 (er_of (by kernel_rfl)) shp_ddilaw25_ViewLists_J9 (fun t m K => congrArg (fun z => chk (fitS0 shp_ddilaw25_ViewLists_J9 t m) (cond (hdS shp_ddilaw25_ViewLists_J9 t m) z none)) (t_ddilaw25_ViewLists_J9 (gL [t 0] 0) (gB (bxC (m.s 0)) 0) (gI (bxC (m.s 0)) 1) (gI (bxC (m.s 0)) 2) K).symm)
def shp_ddilaw25_ViewLists_J16 : Shp := ⟨[(0, .one (.l (.sl 6))), (3, .one (.ptr 0 0)), (5, .one (.l .b))], [.box true [(.l .b), (.l (.i .u64)), (.l (.i .u64))]]⟩
noncomputable def ddilaw25_ViewLists_J16_i  (v0 : List AV) (v5 : Bool) (b0_0 : Bool) (b0_1 : Int) (b0_2 : Int) (kn : Bool → Option Bool) : Option Bool :=
  (oB (ixB v0 (0 : Int)) fun y1 => (bif fitC T_api_Match y1.cells then (bif (gB y1.cells 4) then (kn true) else (oB (ixB v0 (0 : Int)) fun y2 => (bif fitC T_api_Match y2.cells then (oB (prefix_Contains (gB y2.cells 0) (gI y2.cells 1) (gI y2.cells 2) (gI y2.cells 3) b0_0 b0_1 b0_2) fun r3 => (kn r3)) else none))) else none))
noncomputable def ddilaw25_ViewLists_J16 := hull (ddilaw25_ViewLists_J16_i)
theorem ddilaw25_ViewLists_J16_eq : ddilaw25_ViewLists_J16 = ddilaw25_ViewLists_J16_i := hull_eq _
noncomputable def a_ddilaw25_ViewLists_J16 : AC Bool :=
  .seq (.draw [] [.op ⟨(some 28), (.mv (.t 0)), none⟩,
    .op ⟨(some 29), (.ia 6 (.t 28) (.c (.int .i64 0))), none⟩,
    .et 29 T_api_Match,
    .op ⟨(some 30), (.fa 4 (.t 29)), none⟩,
    .op ⟨(some 31), (.load false 1 (.t 30)), none⟩,
    .op ⟨(some 32), (.mv (.t 31)), none⟩,
    .op ⟨(some 33), (.mv (.t 0)), (some (32, false))⟩,
    .op ⟨(some 34), (.ia 6 (.t 33) (.c (.int .i64 0))), (some (32, false))⟩,
    .et 34 T_api_Match,
    .op ⟨(some 35), (.fa 0 (.t 34)), (some (32, false))⟩,
    .op ⟨(some 36), (.load true 4 (.t 35)), (some (32, false))⟩,
    .op ⟨(some 37), (.load true 3 (.t 3)), (some (32, false))⟩] [.call ⟨(some 38), (.call 19 [(.t 36), (.t 37)]), (some (32, false))⟩ 19 ent_prefix_Contains,
    .op ⟨(some 39), (.pick (.t 32) (.c (.bool true)) (.t 38)), none⟩]) (.view [.sel [0, 3, 5, 39] [0]])
theorem ok_ddilaw25_ViewLists_J16 : AC.ok Tryd.prog (TIof Tryd.prog) 81 0 (kret [(.t 4)] dec_ddilaw25_ViewLists) a_ddilaw25_ViewLists_J16 := (And.intro (And.intro True.intro (And.intro (EntOkB.ok k_prefix_Contains) True.intro)) True.intro)
theorem t_ddilaw25_ViewLists_J16 (v0 : List AV) (v5 : Bool) (b0_0 : Bool) (b0_1 : Int) (b0_2 : Int) (K : Ex → Env → Mem → Option Bool) : den 0 (kret [(.t 4)] dec_ddilaw25_ViewLists) a_ddilaw25_ViewLists_J16 (envOf [(0, (.sl 6 v0)), (3, (.ptr 0 0)), (5, (.bool v5))]) (memOf [(some (.box true [(.bool b0_0), (.int .u64 b0_1), (.int .u64 b0_2)]))]) K = ddilaw25_ViewLists_J16 v0 v5 b0_0 b0_1 b0_2 (fun z_v39 => K .norm (envOf [(0, (.sl 6 v0)), (3, (.ptr 0 0)), (5, (.bool v5)), (39, (.bool z_v39))]) (memOf [(some (.box true [(.bool b0_0), (.int .u64 b0_1), (.int .u64 b0_2)]))])) := by
  rw [ddilaw25_ViewLists_J16_eq]; kernel_rfl
noncomputable def s_ddilaw25_ViewLists_J16 : Env → Mem → (Ex → Env → Mem → Option Bool) → Option Bool := fun t m K => chk (fitS0 shp_ddilaw25_ViewLists_J16 t m) (cond (hdS shp_ddilaw25_ViewLists_J16 t m) (ddilaw25_ViewLists_J16 (gL [t 0] 0) (gB [t 5] 0) (gB (bxC (m.s 0)) 0) (gI (bxC (m.s 0)) 1) (gI (bxC (m.s 0)) 2) (fun z_v39 => K .norm (envOf [(0, (.sl 6 (gL [t 0] 0))), (3, (.ptr 0 0)), (5, (.bool (gB [t 5] 0))), (39, (.bool z_v39))]) (memOf [(some (.box true [(.bool (gB (bxC (m.s 0)) 0)), (.int .u64 (gI (bxC (m.s 0)) 1)), (.int .u64 (gI (bxC (m.s 0)) 2))]))]))) none)
theorem o_ddilaw25_ViewLists_J16 : SubOk Tryd.prog (TIof Tryd.prog) 81 0 (kret [(.t 4)] dec_ddilaw25_ViewLists) (scOf a_ddilaw25_ViewLists_J16) s_ddilaw25_ViewLists_J16 :=
  sub_of tabOk follows ok_ddilaw25_ViewLists_J16 (er_of (by kernel_rfl)) shp_ddilaw25_ViewLists_J16 (fun t m K => congrArg (fun z => chk (fitS0 shp_ddilaw25_ViewLists_J16 t m) (cond (hdS shp_ddilaw25_ViewLists_J16 t m) z none)) (t_ddilaw25_ViewLists_J16 (gL [t 0] 0) (gB [t 5] 0) (gB (bxC (m.s 0)) 0) (gI (bxC (m.s 0)) 1) (gI (bxC (m.s 0)) 2) K).symm)
def shp_ddilaw25_ViewLists_J15 : Shp := ⟨[(0, .one (.l (.sl 6))), (3, .one (.ptr 0 0)), (5, .one (.l .b))], [.box true [(.l .b), (.l (.i .u64)), (.l (.i .u64))]]⟩
noncomputable def ddilaw25_ViewLists_J15_i  (v0 : List AV) (v5 : Bool) (b0_0 : Bool) (b0_1 : Int) (b0_2 : Int) (kn : Bool → Option Bool) : Option Bool :=
  (ddilaw25_ViewLists_J16 v0 v5 b0_0 b0_1 b0_2 (fun v39q1 => (bif v39q1 then (oB (ixB v0 (0 : Int)) fun y2 => (bif fitC T_api_Match y2.cells then (kn (!(gB y2.cells 5))) else none)) else (kn v5))))
noncomputable def ddilaw25_ViewLists_J15 := hull (ddilaw25_ViewLists_J15_i)
theorem ddilaw25_ViewLists_J15_eq : ddilaw25_ViewLists_J15 = ddilaw25_ViewLists_J15_i := hull_eq _
noncomputable def a_ddilaw25_ViewLists_J15 : AC Bool :=
  .seq (.seq (.view [.sel [0, 3, 5] [0]]) (.sub (scOf a_ddilaw25_ViewLists_J16) s_ddilaw25_ViewLists_J16)) (.cond (.t 39) (.seq (.reg [.op ⟨(some 40), (.mv (.t 0)), none⟩,
    .op ⟨(some 41), (.ia 6 (.t 40) (.c (.int .i64 0))), none⟩,
    .st (.etac 41 T_api_Match),
    .op ⟨(some 42), (.fa 5 (.t 41)), none⟩,
    .op ⟨(some 43), (.load false 1 (.t 42)), none⟩,
    .op ⟨(some 44), (.un .not (.t 43)), none⟩,
    .op ⟨(some 5), (.mv (.t 44)), none⟩]) (.view [.sel [0, 3, 5] [0]])) (.seq (.skip) (.view [.sel [0, 3, 5] [0]])))
theorem ok_ddilaw25_ViewLists_J15 : AC.ok Tryd.prog (TIof Tryd.prog) 81 0 (kret [(.t 4)] dec_ddilaw25_ViewLists) a_ddilaw25_ViewLists_J15 := (And.intro (And.intro True.intro o_ddilaw25_ViewLists_J16) (And.intro (And.intro True.intro True.intro) (And.intro True.intro True.intro)))
theorem t_ddilaw25_ViewLists_J15 (v0 : List AV) (v5 : Bool) (b0_0 : Bool) (b0_1 : Int) (b0_2 : Int) (K : Ex → Env → Mem → Option Bool) : den 0 (kret [(.t 4)] dec_ddilaw25_ViewLists) a_ddilaw25_ViewLists_J15 (envOf [(0, (.sl 6 v0)), (3, (.ptr 0 0)), (5, (.bool v5))]) (memOf [(some (.box true [(.bool b0_0), (.int .u64 b0_1), (.int .u64 b0_2)]))]) K = ddilaw25_ViewLists_J15 v0 v5 b0_0 b0_1 b0_2 (fun z_v5 => K .norm (envOf [(0, (.sl 6 v0)), (3, (.ptr 0 0)), (5, (.bool z_v5))]) (memOf [(some (.box true [(.bool b0_0), (.int .u64 b0_1), (.int .u64 b0_2)]))])) := by
  rw [ddilaw25_ViewLists_J15_eq]; kernel_rfl
noncomputable def s_ddilaw25_ViewLists_J15 : Env → Mem → (Ex → Env → Mem → Option Bool) → Option Bool := fun t m K => chk (fitS0 shp_ddilaw25_ViewLists_J15 t m) (cond (hdS shp_ddilaw25_ViewLists_J15 t m) (ddilaw25_ViewLists_J15 (gL [t 0] 0) (gB [t 5] 0) (gB (bxC (m.s 0)) 0) (gI (bxC (m.s 0)) 1) (gI (bxC (m.s 0)) 2) (fun z_v5 => K .norm (envOf [(0, (.sl 6 (gL [t 0] 0))), (3, (.ptr 0 0)), (5, (.bool z_v5))]) (memOf [(some (.box true [(.bool (gB (bxC (m.s 0)) 0)), (.int .u64 (gI (bxC (m.s 0)) 1)), (.int .u64 (gI (bxC (m.s 0)) 2))]))]))) none)
theorem o_ddilaw25_ViewLists_J15 : SubOk Tryd.prog (TIof Tryd.prog) 81 0 (kret [(.t 4)] dec_ddilaw25_ViewLists) (scOf a_ddilaw25_ViewLists_J15) s_ddilaw25_ViewLists_J15 :=
  sub_of tabOk follows ok_ddilaw25_ViewLists_J15 (er_of (by kernel_rfl)) shp_ddilaw25_ViewLists_J15 (fun t m K => congrArg (fun z => chk (fitS0 shp_ddilaw25_ViewLists_J15 t m) (cond (hdS shp_ddilaw25_ViewLists_J15 t m) z none)) (t_ddilaw25_ViewLists_J15 (gL [t 0] 0) (gB [t 5] 0) (gB (bxC (m.s 0)) 0) (gI (bxC (m.s 0)) 1) (gI (bxC (m.s 0)) 2) K).symm)
def shp_ddilaw25_ViewLists_J42 : Shp := ⟨[(3, .one (.ptr 0 0)), (5, .one (.l .b)), (6, .one (.l .b)), (50, .one (.l (.sl 6))), (51, .one (.l (.i .i64))), (52, .one (.l (.i .i64)))], [.box true [(.l .b), (.l (.i .u64)), (.l (.i .u64))]]⟩
noncomputable def ddilaw25_ViewLists_J42_i  (v5 : Bool) (v6 : Bool) (v50 : List AV) (v51 : Int) (v52 : Int) (b0_0 : Bool) (b0_1 : Int) (b0_2 : Int) (kn : Bool → Option Bool) : Option Bool :=
  (oB (ixB v50 v52) fun y1 => (bif fitC T_api_Match y1.cells then (bif v6 then (kn true) else (bif (!(gB y1.cells 5)) then (bif (gB y1.cells 4) then (kn true) else (oB (prefix_Contains (gB y1.cells 0) (gI y1.cells 1) (gI y1.cells 2) (gI y1.cells 3) b0_0 b0_1 b0_2) fun r2 => (kn r2))) else (kn false))) else none))
noncomputable def ddilaw25_ViewLists_J42 := hull (ddilaw25_ViewLists_J42_i)
theorem ddilaw25_ViewLists_J42_eq : ddilaw25_ViewLists_J42 = ddilaw25_ViewLists_J42_i := hull_eq _
noncomputable def a_ddilaw25_ViewLists_J42 : AC Bool :=
  .block 1 (.seq (.reg [.op ⟨(some 54), (.ia 6 (.t 50) (.t 52)), none⟩,
    .st (.etac 54 T_api_Match),
    .op ⟨(some 55), (.load true 6 (.t 54)), none⟩,
    .op ⟨(some 8), (.alloc [(.bool false), (.int .u64 0), (.int .u64 0), (.int .i64 0), (.bool false), (.bool false)]), none⟩,
    .op ⟨none, (.store 6 (.t 8) (.t 55)), none⟩]) (.seq (.reg [.op ⟨(some 56), (.mv (.t 6)), none⟩,
    .op ⟨(some 57), (.mv (.t 56)), none⟩,
    .op ⟨(some 58), (.fa 5 (.t 8)), (some (57, false))⟩,
    .op ⟨(some 59), (.load false 1 (.t 58)), (some (57, false))⟩,
    .op ⟨(some 60), (.un .not (.t 59)), (some (57, false))⟩,
    .op ⟨(some 61), (.mv (.t 60)), (some (57, false))⟩,
    .op ⟨(some 62), (.fa 4 (.t 8)), (some (61, true))⟩,
    .op ⟨(some 63), (.load false 1 (.t 62)), (some (61, true))⟩,
    .op ⟨(some 64), (.mv (.t 63)), (some (61, true))⟩,
    .op ⟨(some 65), (.fa 0 (.t 8)), (some (64, false))⟩,
    .op ⟨(some 66), (.load true 4 (.t 65)), (some (64, false))⟩,
    .op ⟨(some 67), (.load true 3 (.t 3)), (some (64, false))⟩,
    .call ⟨(some 68), (.call 19 [(.t 66), (.t 67)]), (some (64, false))⟩ 19 ent_prefix_Contains,
    .op ⟨(some 69), (.pick (.t 64) (.c (.bool true)) (.t 68)), (some (61, true))⟩,
    .op ⟨(some 70), (.pick (.t 61) (.t 69) (.c (.bool false))), (some (57, false))⟩,
    .op ⟨(some 71), (.pick (.t 57) (.c (.bool true)) (.t 70)), none⟩,
    .op ⟨(some 6), (.mv (.t 71)), none⟩]) (.view [.sel [3, 5, 6, 50, 51, 52] [0]])))
theorem ok_ddilaw25_ViewLists_J42 : AC.ok Tryd.prog (TIof Tryd.prog) 81 0 (kret [(.t 4)] dec_ddilaw25_ViewLists) a_ddilaw25_ViewLists_J42 := (And.intro True.intro (And.intro (And.intro (EntOkB.ok k_prefix_Contains) True.intro) True.intro))
theorem t_ddilaw25_ViewLists_J42 (v5 : Bool) (v6 : Bool) (v50 : List AV) (v51 : Int) (v52 : Int) (b0_0 : Bool) (b0_1 : Int) (b0_2 : Int) (K : Ex → Env → Mem → Option Bool) : den 0 (kret [(.t 4)] dec_ddilaw25_ViewLists) a_ddilaw25_ViewLists_J42 (envOf [(3, (.ptr 0 0)), (5, (.bool v5)), (6, (.bool v6)), (50, (.sl 6 v50)), (51, (.int .i64 v51)), (52, (.int .i64 v52))]) (memOf [(some (.box true [(.bool b0_0), (.int .u64 b0_1), (.int .u64 b0_2)]))]) K = ddilaw25_ViewLists_J42 v5 v6 v50 v51 v52 b0_0 b0_1 b0_2 (fun z_v6 => K .norm (envOf [(3, (.ptr 0 0)), (5, (.bool v5)), (6, (.bool z_v6)), (50, (.sl 6 v50)), (51, (.int .i64 v51)), (52, (.int .i64 v52))]) (memOf [(some (.box true [(.bool b0_0), (.int .u64 b0_1), (.int .u64 b0_2)]))])) := by
  rw [ddilaw25_ViewLists_J42_eq]; kernel_rfl
noncomputable def s_ddilaw25_ViewLists_J42 : Env → Mem → (Ex → Env → Mem → Option Bool) → Option Bool := fun t m K => chk (fitS0 shp_ddilaw25_ViewLists_J42 t m) (cond (hdS shp_ddilaw25_ViewLists_J42 t m) (ddilaw25_ViewLists_J42 (gB [t 5] 0) (gB [t 6] 0) (gL [t 50] 0) (gI [t 51] 0) (gI [t 52] 0) (gB (bxC (m.s 0)) 0) (gI (bxC (m.s 0)) 1) (gI (bxC (m.s 0)) 2) (fun z_v6 => K .norm (envOf [(3, (.ptr 0 0)), (5, (.bool (gB [t 5] 0))), (6, (.bool z_v6)), (50, (.sl 6 (gL [t 50] 0))), (51, (.int .i64 (gI [t 51] 0))), (52, (.int .i64 (gI [t 52] 0)))]) (memOf [(some (.box true [(.bool (gB (bxC (m.s 0)) 0)), (.int .u64 (gI (bxC (m.s 0)) 1)), (.int .u64 (gI (bxC (m.s 0)) 2))]))]))) none)
theorem o_ddilaw25_ViewLists_J42 : SubOk Tryd.prog (TIof Tryd.prog) 81 0 (kret [(.t 4)] dec_ddilaw25_ViewLists) (scOf a_ddilaw25_ViewLists_J42) s_ddilaw25_ViewLists_J42 :=
  sub_of tabOk follows ok_ddilaw25_ViewLists_J42 (er_of (by kernel_rfl)) shp_ddilaw25_ViewLists_J42 (fun t m K => congrArg (fun z => chk (fitS0 shp_ddilaw25_ViewLists_J42 t m) (cond (hdS shp_ddilaw25_ViewLists_J42 t m) z none)) (t_ddilaw25_ViewLists_J42 (gB [t 5] 0) (gB [t 6] 0) (gL [t 50] 0) (gI [t 51] 0) (gI [t 52] 0) (gB (bxC (m.s 0)) 0) (gI (bxC (m.s 0)) 1) (gI (bxC (m.s 0)) 2) K).symm)
def shp_ddilaw25_ViewLists_L34 : Shp := ⟨[(3, .one (.ptr 0 0)), (5, .one (.l .b)), (6, .one (.l .b)), (50, .one (.l (.sl 6))), (51, .one (.l (.i .i64))), (52, .one (.l (.i .i64)))], [.box true [(.l .b), (.l (.i .u64)), (.l (.i .u64))]]⟩
noncomputable def ddilaw25_ViewLists_L34_b  (v5 : Bool) (v6 : Bool) (v50 : List AV) (v51 : Int) (v52 : Int) (b0_0 : Bool) (b0_1 : Int) (b0_2 : Int) (next : Bool → Int → Option Bool) (kx0 : Bool → Option Bool) : Option Bool :=
  (bif (decide (v52 < v51)) then (ddilaw25_ViewLists_J42 v5 v6 v50 v51 v52 b0_0 b0_1 b0_2 (fun v6q1 => (next v6q1 (IntKind.i64.wrap (v52 + (1 : Int)))))) else (kx0 v6))
noncomputable def ddilaw25_ViewLists_L34_i  (v5 : Bool) (v50 : List AV) (v51 : Int) (b0_0 : Bool) (b0_1 : Int) (b0_2 : Int) (kx0 : Bool → Option Bool) : Nat → Bool → Int → Option Bool
  | 0 => (fun _ _ => none)
  | n + 1 => (fun v6 v52 => ddilaw25_ViewLists_L34_b v5 v6 v50 v51 v52 b0_0 b0_1 b0_2 (ddilaw25_ViewLists_L34_i v5 v50 v51 b0_0 b0_1 b0_2 kx0 n) kx0)
noncomputable def ddilaw25_ViewLists_L34 := hull (ddilaw25_ViewLists_L34_i)
theorem ddilaw25_ViewLists_L34_eq : ddilaw25_ViewLists_L34 = ddilaw25_ViewLists_L34_i := hull_eq _
noncomputable def a_ddilaw25_ViewLists_L34 : AC Bool :=
  .seq (.reg [.op ⟨(some 53), (.bin .lss (.t 52) (.t 51)), none⟩]) (.seq (.cond (.t 53) (.skip) (.seq (.view [.sel [5, 6] []]) (.exit 0))) (.seq (.seq (.view [.sel [3, 5, 6, 50, 51, 52] [0]]) (.sub (scOf a_ddilaw25_ViewLists_J42) s_ddilaw25_ViewLists_J42)) (.seq (.reg [.op ⟨(some 72), (.bin .add (.t 52) (.c (.int .i64 1))), none⟩,
    .op ⟨(some 52), (.mv (.t 72)), none⟩]) (.view [.sel [3, 5, 6, 50, 51, 52] [0]]))))
theorem ok_ddilaw25_ViewLists_L34 : AC.ok Tryd.prog (TIof Tryd.prog) 81 0 (kret [(.t 4)] dec_ddilaw25_ViewLists) a_ddilaw25_ViewLists_L34 := (And.intro True.intro (And.intro (And.intro True.intro (And.intro True.intro True.intro)) (And.intro (And.intro True.intro o_ddilaw25_ViewLists_J42) (And.intro True.intro True.intro))))
theorem t_ddilaw25_ViewLists_L34_b (v5 : Bool) (v6 : Bool) (v50 : List AV) (v51 : Int) (v52 : Int) (b0_0 : Bool) (b0_1 : Int) (b0_2 : Int) (K : Ex → Env → Mem → Option Bool) : den 0 (kret [(.t 4)] dec_ddilaw25_ViewLists) a_ddilaw25_ViewLists_L34 (envOf [(3, (.ptr 0 0)), (5, (.bool v5)), (6, (.bool v6)), (50, (.sl 6 v50)), (51, (.int .i64 v51)), (52, (.int .i64 v52))]) (memOf [(some (.box true [(.bool b0_0), (.int .u64 b0_1), (.int .u64 b0_2)]))]) K = ddilaw25_ViewLists_L34_b v5 v6 v50 v51 v52 b0_0 b0_1 b0_2 (fun z_v6 z_v52 => K .norm (envOf [(3, (.ptr 0 0)), (5, (.bool v5)), (6, (.bool z_v6)), (50, (.sl 6 v50)), (51, (.int .i64 v51)), (52, (.int .i64 z_v52))]) (memOf [(some (.box true [(.bool b0_0), (.int .u64 b0_1), (.int .u64 b0_2)]))])) (fun z_v6 => K (.exit 0) (envOf [(5, (.bool v5)), (6, (.bool z_v6))]) (memOf [])) := by kernel_rfl
theorem t_ddilaw25_ViewLists_L34 (v5 : Bool) (v50 : List AV) (v51 : Int) (b0_0 : Bool) (b0_1 : Int) (b0_2 : Int) (K : Ex → Env → Mem → Option Bool) : ∀ (n : Nat) (v6 : Bool) (v52 : Int), iterD (den 0 (kret [(.t 4)] dec_ddilaw25_ViewLists) a_ddilaw25_ViewLists_L34) n (envOf [(3, (.ptr 0 0)), (5, (.bool v5)), (6, (.bool v6)), (50, (.sl 6 v50)), (51, (.int .i64 v51)), (52, (.int .i64 v52))]) (memOf [(some (.box true [(.bool b0_0), (.int .u64 b0_1), (.int .u64 b0_2)]))]) K = ddilaw25_ViewLists_L34 v5 v50 v51 b0_0 b0_1 b0_2 (fun z_v6 => K (.exit 0) (envOf [(5, (.bool v5)), (6, (.bool z_v6))]) (memOf [])) n v6 v52 := by
  rw [ddilaw25_ViewLists_L34_eq]
  intro n
  induction n with
  | zero => intros; rfl
  | succ n ih =>
    intro v6 v52
    exact (t_ddilaw25_ViewLists_L34_b v5 v6 v50 v51 v52 b0_0 b0_1 b0_2 (itK (den 0 (kret [(.t 4)] dec_ddilaw25_ViewLists) a_ddilaw25_ViewLists_L34) n K)).trans (congrArg (fun q => ddilaw25_ViewLists_L34_b v5 v6 v50 v51 v52 b0_0 b0_1 b0_2 q (fun z_v6 => K (.exit 0) (envOf [(5, (.bool v5)), (6, (.bool z_v6))]) (memOf []))) (funext fun v6 => funext fun v52 => ih v6 v52))
noncomputable def s_ddilaw25_ViewLists_L34 : Env → Mem → (Ex → Env → Mem → Option Bool) → Option Bool := fun t m K => chk (fitS0 shp_ddilaw25_ViewLists_L34 t m) (cond (hdS shp_ddilaw25_ViewLists_L34 t m) (ddilaw25_ViewLists_L34 (gB [t 5] 0) (gL [t 50] 0) (gI [t 51] 0) (gB (bxC (m.s 0)) 0) (gI (bxC (m.s 0)) 1) (gI (bxC (m.s 0)) 2) (fun z_v6 => K (.exit 0) (envOf [(5, (.bool (gB [t 5] 0))), (6, (.bool z_v6))]) (memOf [])) FU (gB [t 6] 0) (gI [t 52] 0)) none)
theorem o_ddilaw25_ViewLists_L34 : SubOk Tryd.prog (TIof Tryd.prog) 81 0 (kret [(.t 4)] dec_ddilaw25_ViewLists) (.loop (scOf a_ddilaw25_ViewLists_L34)) s_ddilaw25_ViewLists_L34 :=
  loop_of tabOk follows ok_ddilaw25_ViewLists_L34 (er_of (by kernel_rfl)) shp_ddilaw25_ViewLists_L34 (fun t m K => congrArg (fun z => chk (fitS0 shp_ddilaw25_ViewLists_L34 t m) (cond (hdS shp_ddilaw25_ViewLists_L34 t m) z none)) (t_ddilaw25_ViewLists_L34 (gB [t 5] 0) (gL [t 50] 0) (gI [t 51] 0) (gB (bxC (m.s 0)) 0) (gI (bxC (m.s 0)) 1) (gI (bxC (m.s 0)) 2) K FU (gB [t 6] 0) (gI [t 52] 0)).symm)
def shp_ddilaw25_ViewLists : Shp := ⟨[(0, .one (.l (.sl 6))), (1, .st [(.l .b), (.l (.i .u64)), (.l (.i .u64))])], []⟩
noncomputable def ddilaw25_ViewLists_i (v0 : List AV) (v1_0 : Bool) (v1_1 : Int) (v1_2 : Int) : Option Bool :=
  (oB (cutI v0 none (some (if (70 : Int) < (v0.length : Int) then (70 : Int) else (v0.length : Int)))) fun s1 => (bif ((s1.length : Int) == (0 : Int)) then (ddilaw25_ViewLists_J9 s1 v1_0 v1_1 v1_2 (fun v4q2 => (some v4q2))) else (oB (cutI s1 (some (1 : Int)) none) fun s3 => (oB (view_Match s3 v1_0 v1_1 v1_2) fun r4 => (ddilaw25_ViewLists_J15 s1 r4 v1_0 v1_1 v1_2 (fun v5q5 => (oB (view_Match s1 v1_0 v1_1 v1_2) fun r6 => (bif (!((r6 == v5q5) && true)) then (some false) else (ddilaw25_ViewLists_L34 v5q5 s1 (s1.length : Int) v1_0 v1_1 v1_2 (fun v6q7 => (bif (v6q7 || (!v5q5)) then (oB (ddilaw25_awake) fun r8 => (some r8)) else (some false))) FU false (0 : Int))))))))))
noncomputable def ddilaw25_ViewLists := hull ddilaw25_ViewLists_i
theorem ddilaw25_ViewLists_eq : ddilaw25_ViewLists = ddilaw25_ViewLists_i := hull_eq _
noncomputable def a_ddilaw25_ViewLists : AC Bool :=
  .seq (.reg [.op ⟨(some 3), (.box (.t 1)), none⟩,
    .op ⟨(some 4), (.mv (.c (.bool false))), none⟩]) (.seq (.reg [.op ⟨(some 9), (.mv (.t 0)), none⟩,
    .op ⟨(some 10), (.mv (.t 0)), none⟩,
    .op ⟨(some 11), (.len false (.t 10)), none⟩,
    .op ⟨(some 12), (.mm false (.t 11) [(.c (.int .i64 70))]), none⟩,
    .op ⟨(some 13), (.slc 6 (.t 9) none (some (.t 12))), none⟩,
    .op ⟨(some 0), (.mv (.t 13)), none⟩]) (.seq (.seq (.reg [.op ⟨(some 14), (.mv (.t 0)), none⟩,
    .op ⟨(some 15), (.len false (.t 14)), none⟩,
    .op ⟨(some 16), (.bin .eql (.t 15) (.c (.int .i64 0))), none⟩]) (.cond (.t 16) (.seq (.seq (.view [.sel [0, 3] [0]]) (.sub (scOf a_ddilaw25_ViewLists_J9) s_ddilaw25_ViewLists_J9)) (.ret)) (.skip))) (.seq (.draw [] [.op ⟨(some 24), (.mv (.t 0)), none⟩,
    .op ⟨(some 25), (.slc 6 (.t 24) (some (.c (.int .i64 1))) none), none⟩,
    .op ⟨(some 26), (.load true 3 (.t 3)), none⟩] [.call ⟨(some 27), (.call 9 [(.t 25), (.t 26)]), none⟩ 9 ent_view_Match,
    .op ⟨(some 5), (.mv (.t 27)), none⟩]) (.seq (.seq (.view [.sel [0, 3, 5] [0]]) (.sub (scOf a_ddilaw25_ViewLists_J15) s_ddilaw25_ViewLists_J15)) (.seq (.seq (.reg [.op ⟨(some 45), (.mv (.t 0)), none⟩,
    .op ⟨(some 46), (.load true 3 (.t 3)), none⟩,
    .call ⟨(some 47), (.call 9 [(.t 45), (.t 46)]), none⟩ 9 ent_view_Match,
    .op ⟨(some 48), (.mv (.t 5)), none⟩,
    .op ⟨(some 49), (.eq true false [.b] (.t 47) (.t 48)), none⟩]) (.cond (.t 49) (.seq (.reg [.op ⟨(some 4), (.mv (.c (.bool false))), none⟩]) (.ret)) (.skip))) (.seq (.reg [.op ⟨(some 6), (.mv (.c (.bool false))), none⟩]) (.seq (.seq (.reg [.op ⟨(some 50), (.mv (.t 0)), none⟩,
    .op ⟨(some 51), (.len false (.t 50)), none⟩,
    .op ⟨(some 52), (.mv (.c (.int .i64 0))), none⟩]) (.block 0 (.seq (.view [.sel [3, 5, 6, 50, 51, 52] [0]]) (.sub (.loop (scOf a_ddilaw25_ViewLists_L34)) s_ddilaw25_ViewLists_L34)))) (.seq (.reg [.op ⟨(some 73), (.mv (.t 6)), none⟩,
    .op ⟨(some 74), (.mv (.t 73)), none⟩,
    .grp 74 false [⟨(some 75), (.mv (.t 5)), (some (74, false))⟩, ⟨(some 76), (.un .not (.t 75)), (some (74, false))⟩] 77 (.t 76),
    .op ⟨(some 78), (.mv (.t 77)), none⟩,
    .call ⟨(some 79), (.call 11 []), (some (78, true))⟩ 11 ent_ddilaw25_awake,
    .op ⟨(some 80), (.pick (.t 78) (.t 79) (.c (.bool false))), none⟩,
    .op ⟨(some 4), (.mv (.t 80)), none⟩]) (.ret)))))))))
theorem ok_ddilaw25_ViewLists : AC.ok Tryd.prog (TIof Tryd.prog) 81 0 (kret [(.t 4)] dec_ddilaw25_ViewLists) a_ddilaw25_ViewLists := (And.intro True.intro (And.intro True.intro (And.intro (And.intro True.intro (And.intro (And.intro (And.intro True.intro o_ddilaw25_ViewLists_J9) True.intro) True.intro)) (And.intro (And.intro True.intro (And.intro (EntOkB.ok k_view_Match) True.intro)) (And.intro (And.intro True.intro o_ddilaw25_ViewLists_J15) (And.intro (And.intro (And.intro (EntOkB.ok k_view_Match) True.intro) (And.intro (And.intro True.intro True.intro) True.intro)) (And.intro True.intro (And.intro (And.intro True.intro (And.intro True.intro o_ddilaw25_ViewLists_L34)) (And.intro (And.intro (EntOkB.ok k_ddilaw25_awake) True.intro) True.intro)))))))))
theorem t_ddilaw25_ViewLists (v0 : List AV) (v1_0 : Bool) (v1_1 : Int) (v1_2 : Int) : den 0 (kret [(.t 4)] dec_ddilaw25_ViewLists) a_ddilaw25_ViewLists (envOf [(0, (.sl 6 v0)), (1, (.agg [(.bool v1_0), (.int .u64 v1_1), (.int .u64 v1_2)]))]) (memOf []) (kend (kret [(.t 4)] dec_ddilaw25_ViewLists)) = ddilaw25_ViewLists v0 v1_0 v1_1 v1_2 := by
  rw [ddilaw25_ViewLists_eq]; kernel_rfl
theorem c_ddilaw25_ViewLists : cFn (TIof Tryd.prog) Tryd.f7 = some ⟨81, [(.t 4)], scOf a_ddilaw25_ViewLists⟩ := by kernel_rfl
noncomputable def ent_ddilaw25_ViewLists {R : Type} (xs : List AV) (K : AV → Option R) : Option R := chk (fitS shp_ddilaw25_ViewLists (entry xs) Mem.none) (oB (ddilaw25_ViewLists (gL [(entry xs) 0] 0) (gB ((entry xs) 1).cells 0) (gI ((entry xs) 1).cells 1) (gI ((entry xs) 1).cells 2)) fun r => K (enc_ddilaw25_ViewLists r))
theorem k_ddilaw25_ViewLists {R : Type} : EntOkB Tryd.prog 7 (ent_ddilaw25_ViewLists (R := R)) :=
  ent_of (F := fun xs => ddilaw25_ViewLists (gL [(entry xs) 0] 0) (gB ((entry xs) 1).cells 0) (gI ((entry xs) 1).cells 1) (gI ((entry xs) 1).cells 2)) (enc := enc_ddilaw25_ViewLists) tabOk follows Tryd.func7 (by kernel_rfl) c_ddilaw25_ViewLists (fun z r h => by
    obtain ⟨h1, h2⟩ := cond_some h
    cases h2
    exact (etaRV_eq h1).symm) ok_ddilaw25_ViewLists (er_of (by kernel_rfl)) shp_ddilaw25_ViewLists (fun xs => t_ddilaw25_ViewLists (gL [(entry xs) 0] 0) (gB ((entry xs) 1).cells 0) (gI ((entry xs) 1).cells 1) (gI ((entry xs) 1).cells 2)) (fun xs K r h => by
    unfold ent_ddilaw25_ViewLists at h
    exact ⟨(chk_some h).1, oB_some (chk_some h).2⟩)

end Go.Proofs.YtdedipnhkcaghaaDoor.Dn
