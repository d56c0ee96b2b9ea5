import Derived.Test.YtdedipnhkcaghaaDoorProg
import Derived.Test.YtdedipnhkcaghaaDoorXzLibC
import Derived.Test.YtdedipnhkcaghaaDoorXzDnZx2
set_option linter.all false
namespace Go.Proofs.YtdedipnhkcaghaaDoor.Dn
open Go Go.Pev
set_option linter.unusedVariables false
set_option linter.unusedSimpArgs false
set_option maxRecDepth 100000
set_option maxHeartbeats 4000000
def dec_ddilaw25_ViewZones (z : AV) : Option Bool := cond (fitRV (.one .b) z) (some (aB z)) none
def enc_ddilaw25_ViewZones (r : Bool) : AV := .bool r
def shp_ddilaw25_ViewZones_J26 : Shp := ⟨[(1, .one (.l .s)), (5, .one (.l .s)), (6, .one (.l .b)), (7, .one (.l .b)), (9, .one (.l .s)), (27, .one (.l (.sl 1))), (28, .one (.l (.i .i64))), (29, .one (.l (.i .i64)))], []⟩
noncomputable def ddilaw25_ViewZones_J26_i  (v1 : List UInt8) (v5 : List UInt8) (v6 : Bool) (v7 : Bool) (v9 : List UInt8) (v27 : List AV) (v28 : Int) (v29 : Int) (kn : Bool → Option Bool) : Option Bool :=
  (oB (dname_Under v1 v9) fun r1 => (bif r1 then (bif (!v6) then (kn true) else (oB (dname_Under v5 v9) fun r2 => (kn (!r2)))) else (kn false)))
noncomputable def ddilaw25_ViewZones_J26 := hull (ddilaw25_ViewZones_J26_i)
theorem ddilaw25_ViewZones_J26_eq : ddilaw25_ViewZones_J26 = ddilaw25_ViewZones_J26_i := hull_eq _
noncomputable def a_ddilaw25_ViewZones_J26 : AC Bool :=
  .seq (.reg [.op ⟨(some 39), (.mv (.t 1)), none⟩,
    .op ⟨(some 40), (.mv (.t 9)), none⟩,
    .call ⟨(some 41), (.call 20 [(.t 39), (.t 40)]), none⟩ 20 ent_dname_Under,
    .op ⟨(some 42), (.mv (.t 41)), none⟩,
    .op ⟨(some 43), (.mv (.t 6)), (some (42, true))⟩,
    .op ⟨(some 44), (.un .not (.t 43)), (some (42, true))⟩,
    .op ⟨(some 45), (.mv (.t 44)), (some (42, true))⟩,
    .op ⟨(some 46), (.mv (.t 5)), (some (45, false))⟩,
    .op ⟨(some 47), (.mv (.t 9)), (some (45, false))⟩,
    .call ⟨(some 48), (.call 20 [(.t 46), (.t 47)]), (some (45, false))⟩ 20 ent_dname_Under,
    .op ⟨(some 49), (.un .not (.t 48)), (some (45, false))⟩,
    .op ⟨(some 50), (.pick (.t 45) (.c (.bool true)) (.t 49)), (some (42, true))⟩,
    .op ⟨(some 51), (.pick (.t 42) (.t 50) (.c (.bool false))), none⟩]) (.view [.sel [1, 5, 6, 7, 27, 28, 29, 51] []])
theorem ok_ddilaw25_ViewZones_J26 : AC.ok Tryd.prog (TIof Tryd.prog) 73 0 (kret [(.t 4)] dec_ddilaw25_ViewZones) a_ddilaw25_ViewZones_J26 := (And.intro (And.intro (EntOkB.ok k_dname_Under) (And.intro (EntOkB.ok k_dname_Under) True.intro)) True.intro)
theorem t_ddilaw25_ViewZones_J26 (v1 : List UInt8) (v5 : List UInt8) (v6 : Bool) (v7 : Bool) (v9 : List UInt8) (v27 : List AV) (v28 : Int) (v29 : Int) (K : Ex → Env → Mem → Option Bool) : den 0 (kret [(.t 4)] dec_ddilaw25_ViewZones) a_ddilaw25_ViewZones_J26 (envOf [(1, (.str v1)), (5, (.str v5)), (6, (.bool v6)), (7, (.bool v7)), (9, (.str v9)), (27, (.sl 1 v27)), (28, (.int .i64 v28)), (29, (.int .i64 v29))]) (memOf []) K = ddilaw25_ViewZones_J26 v1 v5 v6 v7 v9 v27 v28 v29 (fun z_v51 => K .norm (envOf [(1, (.str v1)), (5, (.str v5)), (6, (.bool v6)), (7, (.bool v7)), (27, (.sl 1 v27)), (28, (.int .i64 v28)), (29, (.int .i64 v29)), (51, (.bool z_v51))]) (memOf [])) := by
  rw [ddilaw25_ViewZones_J26_eq]; kernel_rfl
noncomputable def s_ddilaw25_ViewZones_J26 : Env → Mem → (Ex → Env → Mem → Option Bool) → Option Bool := fun t m K => chk (fitS0 shp_ddilaw25_ViewZones_J26 t m) (cond (hdS shp_ddilaw25_ViewZones_J26 t m) (ddilaw25_ViewZones_J26 (gS [t 1] 0) (gS [t 5] 0) (gB [t 6] 0) (gB [t 7] 0) (gS [t 9] 0) (gL [t 27] 0) (gI [t 28] 0) (gI [t 29] 0) (fun z_v51 => K .norm (envOf [(1, (.str (gS [t 1] 0))), (5, (.str (gS [t 5] 0))), (6, (.bool (gB [t 6] 0))), (7, (.bool (gB [t 7] 0))), (27, (.sl 1 (gL [t 27] 0))), (28, (.int .i64 (gI [t 28] 0))), (29, (.int .i64 (gI [t 29] 0))), (51, (.bool z_v51))]) (memOf []))) none)
theorem o_ddilaw25_ViewZones_J26 : SubOk Tryd.prog (TIof Tryd.prog) 73 0 (kret [(.t 4)] dec_ddilaw25_ViewZones) (scOf a_ddilaw25_ViewZones_J26) s_ddilaw25_ViewZones_J26 :=
  sub_of tabOk follows ok_ddilaw25_ViewZones_J26 (er_of (by kernel_rfl)) shp_ddilaw25_ViewZones_J26 (fun t m K => congrArg (fun z => chk (fitS0 shp_ddilaw25_ViewZones_J26 t m) (cond (hdS shp_ddilaw25_ViewZones_J26 t m) z none)) (t_ddilaw25_ViewZones_J26 (gS [t 1] 0) (gS [t 5] 0) (gB [t 6] 0) (gB [t 7] 0) (gS [t 9] 0) (gL [t 27] 0) (gI [t 28] 0) (gI [t 29] 0) K).symm)
def shp_ddilaw25_ViewZones_L12 : Shp := ⟨[(1, .one (.l .s)), (5, .one (.l .s)), (6, .one (.l .b)), (7, .one (.l .b)), (27, .one (.l (.sl 1))), (28, .one (.l (.i .i64))), (29, .one (.l (.i .i64)))], []⟩
noncomputable def ddilaw25_ViewZones_L12_b  (v1 : List UInt8) (v5 : List UInt8) (v6 : Bool) (v7 : Bool) (v27 : List AV) (v28 : Int) (v29 : Int) (next : Bool → Int → Option Bool) (kx0 : Bool → Option Bool) : Option Bool :=
  (bif (decide (v29 < v28)) then (oB (ixB v27 v29) fun y1 => (bif fitC [.s] y1.cells then (ddilaw25_ViewZones_J26 v1 v5 v6 (v7 || ((gS y1.cells 0) == v5)) (gS y1.cells 0) v27 v28 v29 (fun v51q2 => (bif v51q2 then (some false) else (next (v7 || ((gS y1.cells 0) == v5)) (IntKind.i64.wrap (v29 + (1 : Int))))))) else none)) else (kx0 v7))
noncomputable def ddilaw25_ViewZones_L12_i  (v1 : List UInt8) (v5 : List UInt8) (v6 : Bool) (v27 : List AV) (v28 : Int) (kx0 : Bool → Option Bool) : Nat → Bool → Int → Option Bool
  | 0 => (fun _ _ => none)
  | n + 1 => (fun v7 v29 => ddilaw25_ViewZones_L12_b v1 v5 v6 v7 v27 v28 v29 (ddilaw25_ViewZones_L12_i v1 v5 v6 v27 v28 kx0 n) kx0)
noncomputable def ddilaw25_ViewZones_L12 := hull (ddilaw25_ViewZones_L12_i)
theorem ddilaw25_ViewZones_L12_eq : ddilaw25_ViewZones_L12 = ddilaw25_ViewZones_L12_i := hull_eq _
noncomputable def a_ddilaw25_ViewZones_L12 : AC Bool :=
  .seq (.reg [.op ⟨(some 30), (.bin .lss (.t 29) (.t 28)), none⟩]) (.seq (.cond (.t 30) (.skip) (.seq (.view [.sel [1, 5, 6, 7] []]) (.exit 0))) (.seq (.block 1 (.seq (.reg [.op ⟨(some 31), (.ia 1 (.t 27) (.t 29)), none⟩,
    .st (.etac 31 [.s]),
    .op ⟨(some 32), (.load false 1 (.t 31)), none⟩,
    .op ⟨(some 9), (.mv (.t 32)), none⟩]) (.seq (.reg [.op ⟨(some 33), (.mv (.t 7)), none⟩,
    .op ⟨(some 34), (.mv (.t 33)), none⟩,
    .grp 34 false [⟨(some 35), (.mv (.t 9)), (some (34, false))⟩, ⟨(some 36), (.mv (.t 5)), (some (34, false))⟩, ⟨(some 37), (.bin .eql (.t 35) (.t 36)), (some (34, false))⟩] 38 (.t 37),
    .op ⟨(some 7), (.mv (.t 38)), none⟩]) (.seq (.seq (.view [.sel [1, 5, 6, 7, 9, 27, 28, 29] []]) (.sub (scOf a_ddilaw25_ViewZones_J26) s_ddilaw25_ViewZones_J26)) (.cond (.t 51) (.seq (.reg [.op ⟨(some 4), (.mv (.c (.bool false))), none⟩]) (.ret)) (.skip)))))) (.seq (.reg [.op ⟨(some 52), (.bin .add (.t 29) (.c (.int .i64 1))), none⟩,
    .op ⟨(some 29), (.mv (.t 52)), none⟩]) (.view [.sel [1, 5, 6, 7, 27, 28, 29] []]))))
theorem ok_ddilaw25_ViewZones_L12 : AC.ok Tryd.prog (TIof Tryd.prog) 73 0 (kret [(.t 4)] dec_ddilaw25_ViewZones) a_ddilaw25_ViewZones_L12 := (And.intro True.intro (And.intro (And.intro True.intro (And.intro True.intro True.intro)) (And.intro (And.intro True.intro (And.intro True.intro (And.intro (And.intro True.intro o_ddilaw25_ViewZones_J26) (And.intro (And.intro True.intro True.intro) True.intro)))) (And.intro True.intro True.intro))))
theorem t_ddilaw25_ViewZones_L12_b (v1 : List UInt8) (v5 : List UInt8) (v6 : Bool) (v7 : Bool) (v27 : List AV) (v28 : Int) (v29 : Int) (K : Ex → Env → Mem → Option Bool) : den 0 (kret [(.t 4)] dec_ddilaw25_ViewZones) a_ddilaw25_ViewZones_L12 (envOf [(1, (.str v1)), (5, (.str v5)), (6, (.bool v6)), (7, (.bool v7)), (27, (.sl 1 v27)), (28, (.int .i64 v28)), (29, (.int .i64 v29))]) (memOf []) K = ddilaw25_ViewZones_L12_b v1 v5 v6 v7 v27 v28 v29 (fun z_v7 z_v29 => K .norm (envOf [(1, (.str v1)), (5, (.str v5)), (6, (.bool v6)), (7, (.bool z_v7)), (27, (.sl 1 v27)), (28, (.int .i64 v28)), (29, (.int .i64 z_v29))]) (memOf [])) (fun z_v7 => K (.exit 0) (envOf [(1, (.str v1)), (5, (.str v5)), (6, (.bool v6)), (7, (.bool z_v7))]) (memOf [])) := by kernel_rfl
theorem t_ddilaw25_ViewZones_L12 (v1 : List UInt8) (v5 : List UInt8) (v6 : Bool) (v27 : List AV) (v28 : Int) (K : Ex → Env → Mem → Option Bool) : ∀ (n : Nat) (v7 : Bool) (v29 : Int), iterD (den 0 (kret [(.t 4)] dec_ddilaw25_ViewZones) a_ddilaw25_ViewZones_L12) n (envOf [(1, (.str v1)), (5, (.str v5)), (6, (.bool v6)), (7, (.bool v7)), (27, (.sl 1 v27)), (28, (.int .i64 v28)), (29, (.int .i64 v29))]) (memOf []) K = ddilaw25_ViewZones_L12 v1 v5 v6 v27 v28 (fun z_v7 => K (.exit 0) (envOf [(1, (.str v1)), (5, (.str v5)), (6, (.bool v6)), (7, (.bool z_v7))]) (memOf [])) n v7 v29 := by
  rw [ddilaw25_ViewZones_L12_eq]
  intro n
  induction n with
  | zero => intros; rfl
  | succ n ih =>
    intro v7 v29
    exact (t_ddilaw25_ViewZones_L12_b v1 v5 v6 v7 v27 v28 v29 (itK (den 0 (kret [(.t 4)] dec_ddilaw25_ViewZones) a_ddilaw25_ViewZones_L12) n K)).trans (congrArg (fun q => ddilaw25_ViewZones_L12_b v1 v5 v6 v7 v27 v28 v29 q (fun z_v7 => K (.exit 0) (envOf [(1, (.str v1)), (5, (.str v5)), (6, (.bool v6)), (7, (.bool z_v7))]) (memOf []))) (funext fun v7 => funext fun v29 => ih v7 v29))
noncomputable def s_ddilaw25_ViewZones_L12 : Env → Mem → (Ex → Env → Mem → Option Bool) → Option Bool := fun t m K => chk (fitS0 shp_ddilaw25_ViewZones_L12 t m) (cond (hdS shp_ddilaw25_ViewZones_L12 t m) (ddilaw25_ViewZones_L12 (gS [t 1] 0) (gS [t 5] 0) (gB [t 6] 0) (gL [t 27] 0) (gI [t 28] 0) (fun z_v7 => K (.exit 0) (envOf [(1, (.str (gS [t 1] 0))), (5, (.str (gS [t 5] 0))), (6, (.bool (gB [t 6] 0))), (7, (.bool z_v7))]) (memOf [])) FU (gB [t 7] 0) (gI [t 29] 0)) none)
theorem o_ddilaw25_ViewZones_L12 : SubOk Tryd.prog (TIof Tryd.prog) 73 0 (kret [(.t 4)] dec_ddilaw25_ViewZones) (.loop (scOf a_ddilaw25_ViewZones_L12)) s_ddilaw25_ViewZones_L12 :=
  loop_of tabOk follows ok_ddilaw25_ViewZones_L12 (er_of (by kernel_rfl)) shp_ddilaw25_ViewZones_L12 (fun t m K => congrArg (fun z => chk (fitS0 shp_ddilaw25_ViewZones_L12 t m) (cond (hdS shp_ddilaw25_ViewZones_L12 t m) z none)) (t_ddilaw25_ViewZones_L12 (gS [t 1] 0) (gS [t 5] 0) (gB [t 6] 0) (gL [t 27] 0) (gI [t 28] 0) K FU (gB [t 7] 0) (gI [t 29] 0)).symm)
def shp_ddilaw25_ViewZones_J35 : Shp := ⟨[(1, .one (.l .s)), (5, .one (.l .s)), (6, .one (.l .b)), (7, .one (.l .b))], []⟩
noncomputable def ddilaw25_ViewZones_J35_i  (v1 : List UInt8) (v5 : List UInt8) (v6 : Bool) (v7 : Bool) (kn : Bool → Option Bool) : Option Bool :=
  (bif v6 then (bif (!v7) then (kn true) else (oB (dname_Under v1 v5) fun r1 => (bif (!r1) then (kn true) else (bif (!v6) then (kn (!(v5 == ([] : List UInt8)))) else (kn false))))) else (bif (!v6) then (kn (!(v5 == ([] : List UInt8)))) else (kn false)))
noncomputable def ddilaw25_ViewZones_J35 := hull (ddilaw25_ViewZones_J35_i)
theorem ddilaw25_ViewZones_J35_eq : ddilaw25_ViewZones_J35 = ddilaw25_ViewZones_J35_i := hull_eq _
noncomputable def a_ddilaw25_ViewZones_J35 : AC Bool :=
  .seq (.reg [.op ⟨(some 53), (.mv (.t 6)), none⟩,
    .op ⟨(some 54), (.mv (.t 53)), none⟩,
    .op ⟨(some 55), (.mv (.t 7)), (some (54, true))⟩,
    .op ⟨(some 56), (.un .not (.t 55)), (some (54, true))⟩,
    .op ⟨(some 57), (.mv (.t 56)), (some (54, true))⟩,
    .op ⟨(some 58), (.mv (.t 1)), (some (57, false))⟩,
    .op ⟨(some 59), (.mv (.t 5)), (some (57, false))⟩,
    .call ⟨(some 60), (.call 20 [(.t 58), (.t 59)]), (some (57, false))⟩ 20 ent_dname_Under,
    .op ⟨(some 61), (.un .not (.t 60)), (some (57, false))⟩,
    .op ⟨(some 62), (.pick (.t 57) (.c (.bool true)) (.t 61)), (some (54, true))⟩,
    .op ⟨(some 63), (.pick (.t 54) (.t 62) (.c (.bool false))), none⟩,
    .op ⟨(some 64), (.mv (.t 63)), none⟩,
    .op ⟨(some 65), (.mv (.t 6)), (some (64, false))⟩,
    .op ⟨(some 66), (.un .not (.t 65)), (some (64, false))⟩,
    .op ⟨(some 67), (.mv (.t 66)), (some (64, false))⟩,
    .op ⟨(some 68), (.mv (.t 5)), (some (67, true))⟩,
    .op ⟨(some 69), (.bin .neq (.t 68) (.c (.str []))), (some (67, true))⟩,
    .op ⟨(some 70), (.pick (.t 67) (.t 69) (.c (.bool false))), (some (64, false))⟩,
    .op ⟨(some 71), (.pick (.t 64) (.c (.bool true)) (.t 70)), none⟩]) (.view [.sel [71] []])
theorem ok_ddilaw25_ViewZones_J35 : AC.ok Tryd.prog (TIof Tryd.prog) 73 0 (kret [(.t 4)] dec_ddilaw25_ViewZones) a_ddilaw25_ViewZones_J35 := (And.intro (And.intro (EntOkB.ok k_dname_Under) True.intro) True.intro)
theorem t_ddilaw25_ViewZones_J35 (v1 : List UInt8) (v5 : List UInt8) (v6 : Bool) (v7 : Bool) (K : Ex → Env → Mem → Option Bool) : den 0 (kret [(.t 4)] dec_ddilaw25_ViewZones) a_ddilaw25_ViewZones_J35 (envOf [(1, (.str v1)), (5, (.str v5)), (6, (.bool v6)), (7, (.bool v7))]) (memOf []) K = ddilaw25_ViewZones_J35 v1 v5 v6 v7 (fun z_v71 => K .norm (envOf [(71, (.bool z_v71))]) (memOf [])) := by
  rw [ddilaw25_ViewZones_J35_eq]; kernel_rfl
noncomputable def s_ddilaw25_ViewZones_J35 : Env → Mem → (Ex → Env → Mem → Option Bool) → Option Bool := fun t m K => chk (fitS0 shp_ddilaw25_ViewZones_J35 t m) (cond (hdS shp_ddilaw25_ViewZones_J35 t m) (ddilaw25_ViewZones_J35 (gS [t 1] 0) (gS [t 5] 0) (gB [t 6] 0) (gB [t 7] 0) (fun z_v71 => K .norm (envOf [(71, (.bool z_v71))]) (memOf []))) none)
theorem o_ddilaw25_ViewZones_J35 : SubOk Tryd.prog (TIof Tryd.prog) 73 0 (kret [(.t 4)] dec_ddilaw25_ViewZones) (scOf a_ddilaw25_ViewZones_J35) s_ddilaw25_ViewZones_J35 :=
  sub_of tabOk follows ok_ddilaw25_ViewZones_J35 (er_of (by kernel_rfl)) shp_ddilaw25_ViewZones_J35 (fun t m K => congrArg (fun z => chk (fitS0 shp_ddilaw25_ViewZones_J35 t m) (cond (hdS shp_ddilaw25_ViewZones_J35 t m) z none)) (t_ddilaw25_ViewZones_J35 (gS [t 1] 0) (gS [t 5] 0) (gB [t 6] 0) (gB [t 7] 0) K).symm)
def shp_ddilaw25_ViewZones : Shp := ⟨[(0, .st [(.l .s), (.l (.sl 6)), (.l (.sl 6)), (.l (.sl 6)), (.l (.sl 1)), (.l (.sl 8))]), (1, .one (.l .s))], []⟩
noncomputable def ddilaw25_ViewZones_i (v0_0 : List UInt8) (v0_1 : List AV) (v0_2 : List AV) (v0_3 : List AV) (v0_4 : List AV) (v0_5 : List AV) (v1 : List UInt8) : Option Bool :=
  (oB (ddilaw25_few ([(.agg [(.str v0_0), (.sl 6 v0_1), (.sl 6 v0_2), (.sl 6 v0_3), (.sl 1 v0_4), (.sl 8 v0_5)])] : List AV)) fun r1 => (oB (ixB r1 (0 : Int)) fun y2 => (bif fitC X_api_View y2.cells then (oB (cutI v1 none (some (if (300 : Int) < (v1.length : Int) then (300 : Int) else (v1.length : Int)))) fun s3 => (bif fitV (.st T_api_View) (.agg [(.str (gS y2.cells 0)), (gC y2.cells 1), (gC y2.cells 2), (gC y2.cells 3), (gC y2.cells 4), (gC y2.cells 5)]) then (oB (view_Zone (gS y2.cells 0) (aL (gC y2.cells 1)) (aL (gC y2.cells 2)) (aL (gC y2.cells 3)) (aL (gC y2.cells 4)) (aL (gC y2.cells 5)) s3) fun r4 => (ddilaw25_ViewZones_L12 s3 r4.1 r4.2 (aL (gC y2.cells 4)) ((aL (gC y2.cells 4)).length : Int) (fun v7q5 => (ddilaw25_ViewZones_J35 s3 r4.1 r4.2 v7q5 (fun v71q6 => (bif v71q6 then (some false) else (oB (ddilaw25_awake) fun r7 => (some r7)))))) FU false (0 : Int))) else none)) else none)))
noncomputable def ddilaw25_ViewZones := hull ddilaw25_ViewZones_i
theorem ddilaw25_ViewZones_eq : ddilaw25_ViewZones = ddilaw25_ViewZones_i := hull_eq _
noncomputable def a_ddilaw25_ViewZones : AC Bool :=
  .seq (.reg [.op ⟨(some 2), (.box (.t 0)), none⟩,
    .op ⟨(some 4), (.mv (.c (.bool false))), none⟩]) (.seq (.draw [] [.op ⟨(some 10), (.load true 6 (.t 2)), none⟩,
    .op ⟨(some 11), (.bsl 6 [(.t 10)]), none⟩,
    .call ⟨(some 12), (.call 12 [(.t 11)]), none⟩ 12 ent_ddilaw25_few,
    .op ⟨(some 13), (.ia 6 (.t 12) (.c (.int .i64 0))), none⟩,
    .et 13 X_api_View,
    .op ⟨(some 14), (.load true 6 (.t 13)), none⟩,
    .op ⟨(some 15), (.mv (.t 1)), none⟩,
    .op ⟨(some 16), (.mv (.t 1)), none⟩,
    .op ⟨(some 17), (.len true (.t 16)), none⟩,
    .op ⟨(some 18), (.mm false (.t 17) [(.c (.int .i64 300))]), none⟩,
    .op ⟨(some 19), (.slcs (.t 15) none (some (.t 18))), none⟩,
    .op ⟨none, (.held [(.t 1), (.t 1), (.t 16), (.t 17), (.c (.int .i64 300)), (.t 15), (.t 18)] []), none⟩] [.st (.eta 14 (.st T_api_View)),
    .op ⟨none, (.store 6 (.t 2) (.t 14)), none⟩,
    .op ⟨(some 1), (.mv (.t 19)), none⟩]) (.seq (.reg [.op ⟨(some 21), (.load true 6 (.t 2)), none⟩,
    .op ⟨(some 22), (.mv (.t 1)), none⟩,
    .call ⟨(some 23), (.call 17 [(.t 21), (.t 22)]), none⟩ 17 ent_view_Zone,
    .op ⟨(some 20), (.mv (.t 23)), none⟩,
    .op ⟨(some 24), (.ext (.t 20) 0), none⟩,
    .op ⟨(some 25), (.ext (.t 20) 1), none⟩,
    .op ⟨(some 5), (.mv (.t 24)), none⟩,
    .op ⟨(some 6), (.mv (.t 25)), none⟩]) (.seq (.reg [.op ⟨(some 7), (.mv (.c (.bool false))), none⟩]) (.seq (.seq (.reg [.op ⟨(some 26), (.fa 4 (.t 2)), none⟩,
    .op ⟨(some 27), (.load false 1 (.t 26)), none⟩,
    .op ⟨(some 28), (.len false (.t 27)), none⟩,
    .op ⟨(some 29), (.mv (.c (.int .i64 0))), none⟩]) (.block 0 (.seq (.view [.sel [1, 5, 6, 7, 27, 28, 29] []]) (.sub (.loop (scOf a_ddilaw25_ViewZones_L12)) s_ddilaw25_ViewZones_L12)))) (.seq (.seq (.seq (.view [.sel [1, 5, 6, 7] []]) (.sub (scOf a_ddilaw25_ViewZones_J35) s_ddilaw25_ViewZones_J35)) (.cond (.t 71) (.seq (.reg [.op ⟨(some 4), (.mv (.c (.bool false))), none⟩]) (.ret)) (.skip))) (.seq (.reg [.call ⟨(some 72), (.call 11 []), none⟩ 11 ent_ddilaw25_awake,
    .op ⟨(some 4), (.mv (.t 72)), none⟩]) (.ret)))))))
theorem ok_ddilaw25_ViewZones : AC.ok Tryd.prog (TIof Tryd.prog) 73 0 (kret [(.t 4)] dec_ddilaw25_ViewZones) a_ddilaw25_ViewZones := (And.intro True.intro (And.intro (And.intro (And.intro (EntOkB.ok k_ddilaw25_few) True.intro) (And.intro True.intro rfl)) (And.intro (And.intro (EntOkB.ok k_view_Zone) True.intro) (And.intro True.intro (And.intro (And.intro True.intro (And.intro True.intro o_ddilaw25_ViewZones_L12)) (And.intro (And.intro (And.intro True.intro o_ddilaw25_ViewZones_J35) (And.intro (And.intro True.intro True.intro) True.intro)) (And.intro (And.intro (EntOkB.ok k_ddilaw25_awake) True.intro) True.intro)))))))
theorem t_ddilaw25_ViewZones (v0_0 : List UInt8) (v0_1 : List AV) (v0_2 : List AV) (v0_3 : List AV) (v0_4 : List AV) (v0_5 : List AV) (v1 : List UInt8) : den 0 (kret [(.t 4)] dec_ddilaw25_ViewZones) a_ddilaw25_ViewZones (envOf [(0, (.agg [(.str v0_0), (.sl 6 v0_1), (.sl 6 v0_2), (.sl 6 v0_3), (.sl 1 v0_4), (.sl 8 v0_5)])), (1, (.str v1))]) (memOf []) (kend (kret [(.t 4)] dec_ddilaw25_ViewZones)) = ddilaw25_ViewZones v0_0 v0_1 v0_2 v0_3 v0_4 v0_5 v1 := by
  rw [ddilaw25_ViewZones_eq]; kernel_rfl
theorem c_ddilaw25_ViewZones : cFn (TIof Tryd.prog) Tryd.f8 = some ⟨73, [(.t 4)], scOf a_ddilaw25_ViewZones⟩ := by kernel_rfl
noncomputable def ent_ddilaw25_ViewZones {R : Type} (xs : List AV) (K : AV → Option R) : Option R := chk (fitS shp_ddilaw25_ViewZones (entry xs) Mem.none) (oB (ddilaw25_ViewZones (gS ((entry xs) 0).cells 0) (gL ((entry xs) 0).cells 1) (gL ((entry xs) 0).cells 2) (gL ((entry xs) 0).cells 3) (gL ((entry xs) 0).cells 4) (gL ((entry xs) 0).cells 5) (gS [(entry xs) 1] 0)) fun r => K (enc_ddilaw25_ViewZones r))
theorem k_ddilaw25_ViewZones {R : Type} : EntOkB Tryd.prog 8 (ent_ddilaw25_ViewZones (R := R)) :=
  ent_of (F := fun xs => ddilaw25_ViewZones (gS ((entry xs) 0).cells 0) (gL ((entry xs) 0).cells 1) (gL ((entry xs) 0).cells 2) (gL ((entry xs) 0).cells 3) (gL ((entry xs) 0).cells 4) (gL ((entry xs) 0).cells 5) (gS [(entry xs) 1] 0)) (enc := enc_ddilaw25_ViewZones) tabOk follows Tryd.func8 (by kernel_rfl) c_ddilaw25_ViewZones (fun z r h => by
    obtain ⟨h1, h2⟩ := cond_some h
    cases h2
    exact (etaRV_eq h1).symm) ok_ddilaw25_ViewZones (er_of (by kernel_rfl)) shp_ddilaw25_ViewZones (fun xs => t_ddilaw25_ViewZones (gS ((entry xs) 0).cells 0) (gL ((entry xs) 0).cells 1) (gL ((entry xs) 0).cells 2) (gL ((entry xs) 0).cells 3) (gL ((entry xs) 0).cells 4) (gL ((entry xs) 0).cells 5) (gS [(entry xs) 1] 0)) (fun xs K r h => by
    unfold ent_ddilaw25_ViewZones at h
    exact ⟨(chk_some h).1, oB_some (chk_some h).2⟩)

end Go.Proofs.YtdedipnhkcaghaaDoor.Dn

