import Derived.Test.YthhnnlipnpfkcaaDoorProg
import Derived.Test.YthhnnlipnpfkcaaDoorXuLibC
import Derived.Test.YthhnnlipnpfkcaaDoorXuDnQx2
set_option linter.all false
namespace Go.Proofs.YthhnnlipnpfkcaaDoor.Dn
open Go Go.Pev
set_option linter.unusedVariables false
set_option linter.unusedSimpArgs false
set_option maxRecDepth 100000
set_option maxHeartbeats 4000000
noncomputable def ddiref08_Reply_i (v0_0 : Int) (v0_1 : Int) (v0_2 : Int) (v0_3 : Bool) (v0_4 : Bool) (v0_5 : Bool) (v0_6 : Bool) (v0_7 : Bool) (v0_8 : Bool) (v0_9 : Bool) (v0_10 : Bool) (v0_11 : Int) (v0_12 : List UInt8) (v0_13 : Int) (v0_14 : List AV) (v0_15 : List AV) (v0_16 : List AV) (v1 : Int) : Option AV :=
  (bif (v0_11 != (0 : Int)) then (some (.agg [(.int .i64 v0_0), (.int .i64 v0_1), (.int .i64 v1), (.bool true), (.bool false), (.bool false), (.bool v0_6), (.bool false), (.bool false), (.bool v0_9), (.bool v0_10), (.int .i64 (1232 : Int)), (.str v0_12), (.int .i64 v0_13), .nils, .nils, .nils])) else (some (.agg [(.int .i64 v0_0), (.int .i64 v0_1), (.int .i64 v1), (.bool true), (.bool false), (.bool false), (.bool v0_6), (.bool false), (.bool false), (.bool v0_9), (.bool v0_10), (.int .i64 (0 : Int)), (.str v0_12), (.int .i64 v0_13), .nils, .nils, .nils])))
noncomputable def ddiref08_Reply := hull ddiref08_Reply_i
theorem ddiref08_Reply_eq : ddiref08_Reply = ddiref08_Reply_i := hull_eq _
noncomputable def ddiref26_typed_L8_b  (v0 : List AV) (v1 : Int) (v2 : List UInt8) (v8 : Int) (a0 : List AV) (next : Int → (List AV) → Option (List AV)) (kx0 : (List AV) → Option (List AV)) : Option (List AV) :=
  (bif (decide (v8 < (v0.length : Int))) then (oB (ixB v0 v8) fun y1 => (bif fitC T_api_Record y1.cells then (bif (((gI y1.cells 1) == v1) || (v1 == (255 : Int))) then (oB (ixB v0 v8) fun y2 => (bif fitC T_api_Record y2.cells then (bif hd a0 a0.length then (bif hd ([(.agg [(.str v2), (.int .i64 (gI y2.cells 1)), (.int .i64 (gI y2.cells 2)), (.bool (gB y2.cells 3)), (.int .u64 (gI y2.cells 4)), (.int .u64 (gI y2.cells 5)), (.str (gS y2.cells 6)), (.str (gS y2.cells 7)), (.str (gS y2.cells 8)), (.int .i64 (gI y2.cells 9)), (.int .i64 (gI y2.cells 10)), (.int .i64 (gI y2.cells 11)), (.int .i64 (gI y2.cells 12)), (.int .i64 (gI y2.cells 13)), (.int .i64 (gI y2.cells 14)), (.int .u64 (gI y2.cells 15))])] : List AV) (([(.agg [(.str v2), (.int .i64 (gI y2.cells 1)), (.int .i64 (gI y2.cells 2)), (.bool (gB y2.cells 3)), (.int .u64 (gI y2.cells 4)), (.int .u64 (gI y2.cells 5)), (.str (gS y2.cells 6)), (.str (gS y2.cells 7)), (.str (gS y2.cells 8)), (.int .i64 (gI y2.cells 9)), (.int .i64 (gI y2.cells 10)), (.int .i64 (gI y2.cells 11)), (.int .i64 (gI y2.cells 12)), (.int .i64 (gI y2.cells 13)), (.int .i64 (gI y2.cells 14)), (.int .u64 (gI y2.cells 15))])] : List AV).length) then (bif decide ((a0.length + ([(.agg [(.str v2), (.int .i64 (gI y2.cells 1)), (.int .i64 (gI y2.cells 2)), (.bool (gB y2.cells 3)), (.int .u64 (gI y2.cells 4)), (.int .u64 (gI y2.cells 5)), (.str (gS y2.cells 6)), (.str (gS y2.cells 7)), (.str (gS y2.cells 8)), (.int .i64 (gI y2.cells 9)), (.int .i64 (gI y2.cells 10)), (.int .i64 (gI y2.cells 11)), (.int .i64 (gI y2.cells 12)), (.int .i64 (gI y2.cells 13)), (.int .i64 (gI y2.cells 14)), (.int .u64 (gI y2.cells 15))])] : List AV).length) * 160 ≤ 140737488355328) then (next (IntKind.i64.wrap (v8 + (1 : Int))) (a0 ++ ([(.agg [(.str v2), (.int .i64 (gI y2.cells 1)), (.int .i64 (gI y2.cells 2)), (.bool (gB y2.cells 3)), (.int .u64 (gI y2.cells 4)), (.int .u64 (gI y2.cells 5)), (.str (gS y2.cells 6)), (.str (gS y2.cells 7)), (.str (gS y2.cells 8)), (.int .i64 (gI y2.cells 9)), (.int .i64 (gI y2.cells 10)), (.int .i64 (gI y2.cells 11)), (.int .i64 (gI y2.cells 12)), (.int .i64 (gI y2.cells 13)), (.int .i64 (gI y2.cells 14)), (.int .u64 (gI y2.cells 15))])] : List AV))) else none) else none) else none) else none)) else (next (IntKind.i64.wrap (v8 + (1 : Int))) a0)) else none)) else (kx0 a0))
noncomputable def ddiref26_typed_L8_i  (v0 : List AV) (v1 : Int) (v2 : List UInt8) (kx0 : (List AV) → Option (List AV)) : Nat → Int → (List AV) → Option (List AV)
  | 0 => (fun _ _ => none)
  | n + 1 => (fun v8 a0 => ddiref26_typed_L8_b v0 v1 v2 v8 a0 (ddiref26_typed_L8_i v0 v1 v2 kx0 n) kx0)
noncomputable def ddiref26_typed_L8 := hull (ddiref26_typed_L8_i)
theorem ddiref26_typed_L8_eq : ddiref26_typed_L8 = ddiref26_typed_L8_i := hull_eq _
noncomputable def ddiref26_typed_i (v0 : List AV) (v1 : Int) (v2 : List UInt8) : Option (List AV) :=
  (bif (hd ([] : List AV) (([] : List AV).length) && true) then (ddiref26_typed_L8 v0 v1 v2 (fun a0q1 => (bif hd a0q1 a0q1.length then (some a0q1) else none)) FU (0 : Int) ([] : List AV)) else none)
noncomputable def ddiref26_typed := hull ddiref26_typed_i
theorem ddiref26_typed_eq : ddiref26_typed = ddiref26_typed_i := hull_eq _
noncomputable def ddiref26_Act_J13_i  (v7 : Int) (b0_0 : Int) (b0_1 : List UInt8) (b0_2 : Bool) (b0_3 : Int) (b0_4 : Int) (b0_5 : Int) (b0_6 : Int) (b0_7 : List AV) (b1_0 : Int) (b1_1 : Int) (b1_2 : Int) (b1_3 : Bool) (b1_4 : Bool) (b1_5 : Bool) (b1_6 : Bool) (b1_7 : Bool) (b1_8 : Bool) (b1_9 : Bool) (b1_10 : Bool) (b1_11 : Int) (b1_12 : List UInt8) (b1_13 : Int) (b1_14 : List AV) (b1_15 : List AV) (b1_16 : List AV) (b2_0 : Int) (b2_1 : Int) (b2_2 : Int) (b2_3 : Bool) (b2_4 : Bool) (b2_5 : Bool) (b2_6 : Bool) (b2_7 : Bool) (b2_8 : Bool) (b2_9 : Bool) (b2_10 : Bool) (b2_11 : Int) (b2_12 : List UInt8) (b2_13 : Int) (b2_14 : List AV) (b2_15 : List AV) (b2_16 : List AV) (b3_0 : Int) (b3_1 : Int) (b3_2 : Int) (b3_3 : Bool) (b3_4 : Bool) (b3_5 : Bool) (b3_6 : Bool) (b3_7 : Bool) (b3_8 : Bool) (b3_9 : Bool) (b3_10 : Bool) (b3_11 : Int) (b3_12 : List UInt8) (b3_13 : Int) (kn : Int → Option AV) : Option AV :=
  (bif (b0_6 == (2 : Int)) then (kn (3 : Int)) else (kn v7))
noncomputable def ddiref26_Act_J13 := hull (ddiref26_Act_J13_i)
theorem ddiref26_Act_J13_eq : ddiref26_Act_J13 = ddiref26_Act_J13_i := hull_eq _
noncomputable def ddiref26_Act_J19_i  (v7 : Int) (b0_0 : Int) (b0_1 : List UInt8) (b0_2 : Bool) (b0_3 : Int) (b0_4 : Int) (b0_5 : Int) (b0_6 : Int) (b0_7 : List AV) (b1_0 : Int) (b1_1 : Int) (b1_2 : Int) (b1_3 : Bool) (b1_4 : Bool) (b1_5 : Bool) (b1_6 : Bool) (b1_7 : Bool) (b1_8 : Bool) (b1_9 : Bool) (b1_10 : Bool) (b1_11 : Int) (b1_12 : List UInt8) (b1_13 : Int) (b1_14 : List AV) (b1_15 : List AV) (b1_16 : List AV) (b2_0 : Int) (b2_1 : Int) (b2_2 : Int) (b2_3 : Bool) (b2_4 : Bool) (b2_5 : Bool) (b2_6 : Bool) (b2_7 : Bool) (b2_8 : Bool) (b2_9 : Bool) (b2_10 : Bool) (b2_11 : Int) (b2_12 : List UInt8) (b2_13 : Int) (b2_14 : List AV) (b2_15 : List AV) (b2_16 : List AV) (b3_0 : Int) (b3_1 : Int) (b3_2 : Int) (b3_3 : Bool) (b3_4 : Bool) (b3_5 : Bool) (b3_6 : Bool) (b3_7 : Bool) (b3_8 : Bool) (b3_9 : Bool) (b3_10 : Bool) (b3_11 : Int) (b3_12 : List UInt8) (b3_13 : Int) (kn : Int → Option AV) : Option AV :=
  (bif (b0_6 == (5 : Int)) then (kn (5 : Int)) else (kn v7))
noncomputable def ddiref26_Act_J19 := hull (ddiref26_Act_J19_i)
theorem ddiref26_Act_J19_eq : ddiref26_Act_J19 = ddiref26_Act_J19_i := hull_eq _
noncomputable def ddiref26_Act_i (v0_0 : Int) (v0_1 : List UInt8) (v0_2 : Bool) (v0_3 : Int) (v0_4 : Int) (v0_5 : Int) (v0_6 : Int) (v0_7 : List AV) (v1_0 : Int) (v1_1 : Int) (v1_2 : Int) (v1_3 : Bool) (v1_4 : Bool) (v1_5 : Bool) (v1_6 : Bool) (v1_7 : Bool) (v1_8 : Bool) (v1_9 : Bool) (v1_10 : Bool) (v1_11 : Int) (v1_12 : List UInt8) (v1_13 : Int) (v1_14 : List AV) (v1_15 : List AV) (v1_16 : List AV) (v2_0 : Int) (v2_1 : Int) (v2_2 : Int) (v2_3 : Bool) (v2_4 : Bool) (v2_5 : Bool) (v2_6 : Bool) (v2_7 : Bool) (v2_8 : Bool) (v2_9 : Bool) (v2_10 : Bool) (v2_11 : Int) (v2_12 : List UInt8) (v2_13 : Int) (v2_14 : List AV) (v2_15 : List AV) (v2_16 : List AV) : Option AV :=
  (bif (v0_6 == (1 : Int)) then (some (.agg [(.int .i64 v2_0), (.int .i64 v2_1), (.int .i64 v2_2), (.bool v2_3), (.bool v2_4), (.bool v2_5), (.bool v2_6), (.bool v2_7), (.bool v2_8), (.bool v2_9), (.bool v2_10), (.int .i64 v2_11), (.str v2_12), (.int .i64 v2_13), (.sl 16 v2_14), (.sl 16 v2_15), (.sl 16 v2_16)])) else (ddiref26_Act_J13 (0 : Int) v0_0 v0_1 v0_2 v0_3 v0_4 v0_5 v0_6 v0_7 v1_0 v1_1 v1_2 v1_3 v1_4 v1_5 v1_6 v1_7 v1_8 v1_9 v1_10 v1_11 v1_12 v1_13 v1_14 v1_15 v1_16 v2_0 v2_1 v2_2 v2_3 v2_4 v2_5 v2_6 v2_7 v2_8 v2_9 v2_10 v2_11 v2_12 v2_13 v2_14 v2_15 v2_16 (0 : Int) (0 : Int) (0 : Int) false false false false false false false false (0 : Int) ([] : List UInt8) (0 : Int) (fun v7q1 => (ddiref26_Act_J19 v7q1 v0_0 v0_1 v0_2 v0_3 v0_4 v0_5 v0_6 v0_7 v1_0 v1_1 v1_2 v1_3 v1_4 v1_5 v1_6 v1_7 v1_8 v1_9 v1_10 v1_11 v1_12 v1_13 v1_14 v1_15 v1_16 v2_0 v2_1 v2_2 v2_3 v2_4 v2_5 v2_6 v2_7 v2_8 v2_9 v2_10 v2_11 v2_12 v2_13 v2_14 v2_15 v2_16 (0 : Int) (0 : Int) (0 : Int) false false false false false false false false (0 : Int) ([] : List UInt8) (0 : Int) (fun v7q2 => (oB (ddiref08_Reply v1_0 v1_1 v1_2 v1_3 v1_4 v1_5 v1_6 v1_7 v1_8 v1_9 v1_10 v1_11 v1_12 v1_13 v1_14 v1_15 v1_16 v7q2) fun r3 => (bif (v0_6 == (4 : Int)) then (oB (ddiref26_typed v0_7 v1_13 v1_12) fun r4 => (bif ((r4.length : Int) == (0 : Int)) then (oB (ddiref26_typed v0_7 (5 : Int) v1_12) fun r5 => (some (.agg [(.int .i64 (gI r3.cells 0)), (.int .i64 (gI r3.cells 1)), (.int .i64 (gI r3.cells 2)), (.bool (gB r3.cells 3)), (.bool (gB r3.cells 4)), (.bool (gB r3.cells 5)), (.bool (gB r3.cells 6)), (.bool v2_7), (.bool (gB r3.cells 8)), (.bool (gB r3.cells 9)), (.bool (gB r3.cells 10)), (.int .i64 (gI r3.cells 11)), (.str (gS r3.cells 12)), (.int .i64 (gI r3.cells 13)), (.sl 16 r5), (.sl 16 ([] : List AV)), (.sl 16 ([] : List AV))]))) else (some (.agg [(.int .i64 (gI r3.cells 0)), (.int .i64 (gI r3.cells 1)), (.int .i64 (gI r3.cells 2)), (.bool (gB r3.cells 3)), (.bool (gB r3.cells 4)), (.bool (gB r3.cells 5)), (.bool (gB r3.cells 6)), (.bool v2_7), (.bool (gB r3.cells 8)), (.bool (gB r3.cells 9)), (.bool (gB r3.cells 10)), (.int .i64 (gI r3.cells 11)), (.str (gS r3.cells 12)), (.int .i64 (gI r3.cells 13)), (.sl 16 r4), (.sl 16 ([] : List AV)), (.sl 16 ([] : List AV))])))) else (some (.agg [(.int .i64 (gI r3.cells 0)), (.int .i64 (gI r3.cells 1)), (.int .i64 (gI r3.cells 2)), (.bool (gB r3.cells 3)), (.bool (gB r3.cells 4)), (.bool (gB r3.cells 5)), (.bool (gB r3.cells 6)), (.bool v2_7), (.bool (gB r3.cells 8)), (.bool (gB r3.cells 9)), (.bool (gB r3.cells 10)), (.int .i64 (gI r3.cells 11)), (.str (gS r3.cells 12)), (.int .i64 (gI r3.cells 13)), (.sl 16 ([] : List AV)), (.sl 16 ([] : List AV)), (.sl 16 ([] : List AV))])))))))))
noncomputable def ddiref26_Act := hull ddiref26_Act_i
theorem ddiref26_Act_eq : ddiref26_Act = ddiref26_Act_i := hull_eq _
def dec_ddilaw26_records (z : AV) : Option Bool := cond (fitRV (.one .b) z) (some (aB z)) none
def enc_ddilaw26_records (r : Bool) : AV := .bool r
def shp_ddilaw26_records_L14 : Shp := ⟨[(0, .one (.l (.sl 16))), (1, .one (.l (.sl 16))), (5, .one (.l (.i .i64)))], []⟩
noncomputable def ddilaw26_records_L14_b  (v0 : List AV) (v1 : List AV) (v5 : Int) (next : Int → Option Bool) (kx0 : Unit → Option Bool) : Option Bool :=
  (bif (decide (v5 < (v0.length : Int))) then (oB (ixB v0 v5) fun y1 => (bif fitC T_api_Record y1.cells then (oB (ixB v1 v5) fun y2 => (bif fitC T_api_Record y2.cells then (bif (!(((gS y1.cells 0) == (gS y2.cells 0)) && (((gI y1.cells 1) == (gI y2.cells 1)) && (((gI y1.cells 2) == (gI y2.cells 2)) && (((gB y1.cells 3) == (gB y2.cells 3)) && (((gI y1.cells 4) == (gI y2.cells 4)) && (((gI y1.cells 5) == (gI y2.cells 5)) && (((gS y1.cells 6) == (gS y2.cells 6)) && (((gS y1.cells 7) == (gS y2.cells 7)) && (((gS y1.cells 8) == (gS y2.cells 8)) && (((gI y1.cells 9) == (gI y2.cells 9)) && (((gI y1.cells 10) == (gI y2.cells 10)) && (((gI y1.cells 11) == (gI y2.cells 11)) && (((gI y1.cells 12) == (gI y2.cells 12)) && (((gI y1.cells 13) == (gI y2.cells 13)) && (((gI y1.cells 14) == (gI y2.cells 14)) && (((gI y1.cells 15) == (gI y2.cells 15)) && true))))))))))))))))) then (some false) else (next (IntKind.i64.wrap (v5 + (1 : Int))))) else none)) else none)) else (kx0 ()))
noncomputable def ddilaw26_records_L14_i  (v0 : List AV) (v1 : List AV) (kx0 : Unit → Option Bool) : Nat → Int → Option Bool
  | 0 => (fun _ => none)
  | n + 1 => (fun v5 => ddilaw26_records_L14_b v0 v1 v5 (ddilaw26_records_L14_i v0 v1 kx0 n) kx0)
noncomputable def ddilaw26_records_L14 := hull (ddilaw26_records_L14_i)
theorem ddilaw26_records_L14_eq : ddilaw26_records_L14 = ddilaw26_records_L14_i := hull_eq _
noncomputable def a_ddilaw26_records_L14 : AC Bool :=
  .seq (.seq (.reg [.op ⟨(some 11), (.mv (.t 5)), none⟩,
    .op ⟨(some 12), (.mv (.t 0)), none⟩,
    .op ⟨(some 13), (.len false (.t 12)), none⟩,
    .op ⟨(some 14), (.bin .lss (.t 11) (.t 13)), none⟩]) (.cond (.t 14) (.skip) (.seq (.view [.sel [] []]) (.exit 0)))) (.seq (.block 1 (.seq (.draw [] [.op ⟨(some 17), (.mv (.t 0)), none⟩,
    .op ⟨(some 18), (.mv (.t 5)), none⟩,
    .op ⟨(some 19), (.ia 16 (.t 17) (.t 18)), none⟩,
    .et 19 T_api_Record,
    .op ⟨(some 20), (.load true 16 (.t 19)), none⟩,
    .op ⟨(some 21), (.mv (.t 1)), none⟩,
    .op ⟨(some 22), (.mv (.t 5)), none⟩,
    .op ⟨(some 23), (.ia 16 (.t 21) (.t 22)), none⟩,
    .et 23 T_api_Record,
    .op ⟨(some 24), (.load true 16 (.t 23)), none⟩] [.op ⟨(some 25), (.eq true true [.s, (.i .i64), (.i .i64), .b, (.i .u64), (.i .u64), .s, .s, .s, (.i .i64), (.i .i64), (.i .i64), (.i .i64), (.i .i64), (.i .i64), (.i .u64)] (.t 20) (.t 24)), none⟩]) (.cond (.t 25) (.seq (.reg [.op ⟨(some 4), (.mv (.c (.bool false))), none⟩]) (.ret)) (.skip)))) (.seq (.reg [.op ⟨(some 15), (.mv (.t 5)), none⟩,
    .op ⟨(some 16), (.bin .add (.t 15) (.c (.int .i64 1))), none⟩,
    .op ⟨(some 5), (.mv (.t 16)), none⟩]) (.view [.sel [0, 1, 5] []])))
theorem ok_ddilaw26_records_L14 : AC.ok Tryd.prog (TIof Tryd.prog) 26 0 (kret [(.t 4)] dec_ddilaw26_records) a_ddilaw26_records_L14 := (And.intro (And.intro True.intro (And.intro True.intro (And.intro True.intro True.intro))) (And.intro (And.intro (And.intro True.intro (And.intro True.intro rfl)) (And.intro (And.intro True.intro True.intro) True.intro)) (And.intro True.intro True.intro)))
theorem t_ddilaw26_records_L14_b (v0 : List AV) (v1 : List AV) (v5 : Int) (K : Ex → Env → Mem → Option Bool) : den 0 (kret [(.t 4)] dec_ddilaw26_records) a_ddilaw26_records_L14 (envOf [(0, (.sl 16 v0)), (1, (.sl 16 v1)), (5, (.int .i64 v5))]) (memOf []) K = ddilaw26_records_L14_b v0 v1 v5 (fun z_v5 => K .norm (envOf [(0, (.sl 16 v0)), (1, (.sl 16 v1)), (5, (.int .i64 z_v5))]) (memOf [])) (fun _ => K (.exit 0) (envOf []) (memOf [])) := by kernel_rfl
theorem t_ddilaw26_records_L14 (v0 : List AV) (v1 : List AV) (K : Ex → Env → Mem → Option Bool) : ∀ (n : Nat) (v5 : Int), iterD (den 0 (kret [(.t 4)] dec_ddilaw26_records) a_ddilaw26_records_L14) n (envOf [(0, (.sl 16 v0)), (1, (.sl 16 v1)), (5, (.int .i64 v5))]) (memOf []) K = ddilaw26_records_L14 v0 v1 (fun _ => K (.exit 0) (envOf []) (memOf [])) n v5 := by
  rw [ddilaw26_records_L14_eq]
  intro n
  induction n with
  | zero => intros; rfl
  | succ n ih =>
    intro v5
    exact (t_ddilaw26_records_L14_b v0 v1 v5 (itK (den 0 (kret [(.t 4)] dec_ddilaw26_records) a_ddilaw26_records_L14) n K)).trans (congrArg (fun q => ddilaw26_records_L14_b v0 v1 v5 q (fun _ => K (.exit 0) (envOf []) (memOf []))) (funext fun v5 => ih v5))
noncomputable def s_ddilaw26_records_L14 : Env → Mem → (Ex → Env → Mem → Option Bool) → Option Bool := fun t m K => chk (fitS0 shp_ddilaw26_records_L14 t m) (cond (hdS shp_ddilaw26_records_L14 t m) (ddilaw26_records_L14 (gL [t 0] 0) (gL [t 1] 0) (fun _ => K (.exit 0) (envOf []) (memOf [])) FU (gI [t 5] 0)) none)
theorem o_ddilaw26_records_L14 : SubOk Tryd.prog (TIof Tryd.prog) 26 0 (kret [(.t 4)] dec_ddilaw26_records) (.loop (scOf a_ddilaw26_records_L14)) s_ddilaw26_records_L14 :=
  loop_of tabOk follows ok_ddilaw26_records_L14 (er_of (by kernel_rfl)) shp_ddilaw26_records_L14 (fun t m K => congrArg (fun z => chk (fitS0 shp_ddilaw26_records_L14 t m) (cond (hdS shp_ddilaw26_records_L14 t m) z none)) (t_ddilaw26_records_L14 (gL [t 0] 0) (gL [t 1] 0) K FU (gI [t 5] 0)).symm)
def shp_ddilaw26_records : Shp := ⟨[(0, .one (.l (.sl 16))), (1, .one (.l (.sl 16)))], []⟩
noncomputable def ddilaw26_records_i (v0 : List AV) (v1 : List AV) : Option Bool :=
  (bif ((v0.length : Int) != (v1.length : Int)) then (some false) else (ddilaw26_records_L14 v0 v1 (fun (_ : Unit) => (some true)) FU (0 : Int)))
noncomputable def ddilaw26_records := hull ddilaw26_records_i
theorem ddilaw26_records_eq : ddilaw26_records = ddilaw26_records_i := hull_eq _
noncomputable def a_ddilaw26_records : AC Bool :=
  .seq (.reg [.op ⟨(some 4), (.mv (.c (.bool false))), none⟩]) (.seq (.seq (.reg [.op ⟨(some 6), (.mv (.t 0)), none⟩,
    .op ⟨(some 7), (.len false (.t 6)), none⟩,
    .op ⟨(some 8), (.mv (.t 1)), none⟩,
    .op ⟨(some 9), (.len false (.t 8)), none⟩,
    .op ⟨(some 10), (.bin .neq (.t 7) (.t 9)), none⟩]) (.cond (.t 10) (.seq (.reg [.op ⟨(some 4), (.mv (.c (.bool false))), none⟩]) (.ret)) (.skip))) (.seq (.seq (.reg [.op ⟨(some 5), (.mv (.c (.int .i64 0))), none⟩]) (.block 0 (.seq (.view [.sel [0, 1, 5] []]) (.sub (.loop (scOf a_ddilaw26_records_L14)) s_ddilaw26_records_L14)))) (.seq (.reg [.op ⟨(some 4), (.mv (.c (.bool true))), none⟩]) (.ret))))
theorem ok_ddilaw26_records : AC.ok Tryd.prog (TIof Tryd.prog) 26 0 (kret [(.t 4)] dec_ddilaw26_records) a_ddilaw26_records := (And.intro True.intro (And.intro (And.intro True.intro (And.intro (And.intro True.intro True.intro) True.intro)) (And.intro (And.intro True.intro (And.intro True.intro o_ddilaw26_records_L14)) (And.intro True.intro True.intro))))
theorem t_ddilaw26_records (v0 : List AV) (v1 : List AV) : den 0 (kret [(.t 4)] dec_ddilaw26_records) a_ddilaw26_records (envOf [(0, (.sl 16 v0)), (1, (.sl 16 v1))]) (memOf []) (kend (kret [(.t 4)] dec_ddilaw26_records)) = ddilaw26_records v0 v1 := by
  rw [ddilaw26_records_eq]; kernel_rfl
theorem c_ddilaw26_records : cFn (TIof Tryd.prog) Tryd.f28 = some ⟨26, [(.t 4)], scOf a_ddilaw26_records⟩ := by kernel_rfl
noncomputable def ent_ddilaw26_records {R : Type} (xs : List AV) (K : AV → Option R) : Option R := chk (fitS shp_ddilaw26_records (entry xs) Mem.none) (oB (ddilaw26_records (gL [(entry xs) 0] 0) (gL [(entry xs) 1] 0)) fun r => K (enc_ddilaw26_records r))
theorem k_ddilaw26_records {R : Type} : EntOkB Tryd.prog 28 (ent_ddilaw26_records (R := R)) :=
  ent_of (F := fun xs => ddilaw26_records (gL [(entry xs) 0] 0) (gL [(entry xs) 1] 0)) (enc := enc_ddilaw26_records) tabOk follows Tryd.func28 (by kernel_rfl) c_ddilaw26_records (fun z r h => by
    obtain ⟨h1, h2⟩ := cond_some h
    cases h2
    exact (etaRV_eq h1).symm) ok_ddilaw26_records (er_of (by kernel_rfl)) shp_ddilaw26_records (fun xs => t_ddilaw26_records (gL [(entry xs) 0] 0) (gL [(entry xs) 1] 0)) (fun xs K r h => by
    unfold ent_ddilaw26_records at h
    exact ⟨(chk_some h).1, oB_some (chk_some h).2⟩)

def dec_ddilaw26_same (z : AV) : Option Bool := cond (fitRV (.one .b) z) (some (aB z)) none
def enc_ddilaw26_same (r : Bool) : AV := .bool r
def shp_ddilaw26_same : Shp := ⟨[(0, .st [(.l (.i .i64)), (.l (.i .i64)), (.l (.i .i64)), (.l .b), (.l .b), (.l .b), (.l .b), (.l .b), (.l .b), (.l .b), (.l .b), (.l (.i .i64)), (.l .s), (.l (.i .i64)), (.l (.sl 16)), (.l (.sl 16)), (.l (.sl 16))]), (1, .st [(.l (.i .i64)), (.l (.i .i64)), (.l (.i .i64)), (.l .b), (.l .b), (.l .b), (.l .b), (.l .b), (.l .b), (.l .b), (.l .b), (.l (.i .i64)), (.l .s), (.l (.i .i64)), (.l (.sl 16)), (.l (.sl 16)), (.l (.sl 16))])], []⟩
noncomputable def ddilaw26_same_i (v0_0 : Int) (v0_1 : Int) (v0_2 : Int) (v0_3 : Bool) (v0_4 : Bool) (v0_5 : Bool) (v0_6 : Bool) (v0_7 : Bool) (v0_8 : Bool) (v0_9 : Bool) (v0_10 : Bool) (v0_11 : Int) (v0_12 : List UInt8) (v0_13 : Int) (v0_14 : List AV) (v0_15 : List AV) (v0_16 : List AV) (v1_0 : Int) (v1_1 : Int) (v1_2 : Int) (v1_3 : Bool) (v1_4 : Bool) (v1_5 : Bool) (v1_6 : Bool) (v1_7 : Bool) (v1_8 : Bool) (v1_9 : Bool) (v1_10 : Bool) (v1_11 : Int) (v1_12 : List UInt8) (v1_13 : Int) (v1_14 : List AV) (v1_15 : List AV) (v1_16 : List AV) : Option Bool :=
  (bif (((((((((((((v0_0 != v1_0) || (v0_1 != v1_1)) || (v0_2 != v1_2)) || (!((v0_3 == v1_3) && true))) || (!((v0_4 == v1_4) && true))) || (!((v0_5 == v1_5) && true))) || (!((v0_6 == v1_6) && true))) || (!((v0_7 == v1_7) && true))) || (!((v0_8 == v1_8) && true))) || (!((v0_9 == v1_9) && true))) || (!((v0_10 == v1_10) && true))) || (v0_11 != v1_11)) || (!((v0_12 == v1_12) && ((v0_13 == v1_13) && true)))) then (some false) else (oB (ddilaw26_records v0_14 v1_14) fun r1 => (bif r1 then (oB (ddilaw26_records v0_15 v1_15) fun r2 => (bif r2 then (oB (ddilaw26_records v0_16 v1_16) fun r3 => (some r3)) else (some false))) else (some false))))
noncomputable def ddilaw26_same := hull ddilaw26_same_i
theorem ddilaw26_same_eq : ddilaw26_same = ddilaw26_same_i := hull_eq _
noncomputable def a_ddilaw26_same : AC Bool :=
  .seq (.reg [.op ⟨(some 2), (.box (.t 0)), none⟩,
    .op ⟨(some 3), (.box (.t 1)), none⟩,
    .op ⟨(some 4), (.mv (.c (.bool false))), none⟩]) (.seq (.seq (.reg [.op ⟨(some 5), (.fa 0 (.t 2)), none⟩,
    .op ⟨(some 6), (.load false 1 (.t 5)), none⟩,
    .op ⟨(some 7), (.fa 0 (.t 3)), none⟩,
    .op ⟨(some 8), (.load false 1 (.t 7)), none⟩,
    .op ⟨(some 9), (.bin .neq (.t 6) (.t 8)), none⟩,
    .op ⟨(some 10), (.mv (.t 9)), none⟩,
    .grp 10 false [⟨(some 11), (.fa 1 (.t 2)), (some (10, false))⟩, ⟨(some 12), (.load false 1 (.t 11)), (some (10, false))⟩, ⟨(some 13), (.fa 1 (.t 3)), (some (10, false))⟩, ⟨(some 14), (.load false 1 (.t 13)), (some (10, false))⟩, ⟨(some 15), (.bin .neq (.t 12) (.t 14)), (some (10, false))⟩] 16 (.t 15),
    .op ⟨(some 17), (.mv (.t 16)), none⟩,
    .grp 17 false [⟨(some 18), (.fa 2 (.t 2)), (some (17, false))⟩, ⟨(some 19), (.load false 1 (.t 18)), (some (17, false))⟩, ⟨(some 20), (.fa 2 (.t 3)), (some (17, false))⟩, ⟨(some 21), (.load false 1 (.t 20)), (some (17, false))⟩, ⟨(some 22), (.bin .neq (.t 19) (.t 21)), (some (17, false))⟩] 23 (.t 22),
    .op ⟨(some 24), (.mv (.t 23)), none⟩,
    .grp 24 false [⟨(some 25), (.fa 3 (.t 2)), (some (24, false))⟩, ⟨(some 26), (.load false 1 (.t 25)), (some (24, false))⟩, ⟨(some 27), (.fa 3 (.t 3)), (some (24, false))⟩, ⟨(some 28), (.load false 1 (.t 27)), (some (24, false))⟩, ⟨(some 29), (.eq true false [.b] (.t 26) (.t 28)), (some (24, false))⟩] 30 (.t 29),
    .op ⟨(some 31), (.mv (.t 30)), none⟩,
    .grp 31 false [⟨(some 32), (.fa 4 (.t 2)), (some (31, false))⟩, ⟨(some 33), (.load false 1 (.t 32)), (some (31, false))⟩, ⟨(some 34), (.fa 4 (.t 3)), (some (31, false))⟩, ⟨(some 35), (.load false 1 (.t 34)), (some (31, false))⟩, ⟨(some 36), (.eq true false [.b] (.t 33) (.t 35)), (some (31, false))⟩] 37 (.t 36),
    .op ⟨(some 38), (.mv (.t 37)), none⟩,
    .grp 38 false [⟨(some 39), (.fa 5 (.t 2)), (some (38, false))⟩, ⟨(some 40), (.load false 1 (.t 39)), (some (38, false))⟩, ⟨(some 41), (.fa 5 (.t 3)), (some (38, false))⟩, ⟨(some 42), (.load false 1 (.t 41)), (some (38, false))⟩, ⟨(some 43), (.eq true false [.b] (.t 40) (.t 42)), (some (38, false))⟩] 44 (.t 43),
    .op ⟨(some 45), (.mv (.t 44)), none⟩,
    .grp 45 false [⟨(some 46), (.fa 6 (.t 2)), (some (45, false))⟩, ⟨(some 47), (.load false 1 (.t 46)), (some (45, false))⟩, ⟨(some 48), (.fa 6 (.t 3)), (some (45, false))⟩, ⟨(some 49), (.load false 1 (.t 48)), (some (45, false))⟩, ⟨(some 50), (.eq true false [.b] (.t 47) (.t 49)), (some (45, false))⟩] 51 (.t 50),
    .op ⟨(some 52), (.mv (.t 51)), none⟩,
    .grp 52 false [⟨(some 53), (.fa 7 (.t 2)), (some (52, false))⟩, ⟨(some 54), (.load false 1 (.t 53)), (some (52, false))⟩, ⟨(some 55), (.fa 7 (.t 3)), (some (52, false))⟩, ⟨(some 56), (.load false 1 (.t 55)), (some (52, false))⟩, ⟨(some 57), (.eq true false [.b] (.t 54) (.t 56)), (some (52, false))⟩] 58 (.t 57),
    .op ⟨(some 59), (.mv (.t 58)), none⟩,
    .grp 59 false [⟨(some 60), (.fa 8 (.t 2)), (some (59, false))⟩, ⟨(some 61), (.load false 1 (.t 60)), (some (59, false))⟩, ⟨(some 62), (.fa 8 (.t 3)), (some (59, false))⟩, ⟨(some 63), (.load false 1 (.t 62)), (some (59, false))⟩, ⟨(some 64), (.eq true false [.b] (.t 61) (.t 63)), (some (59, false))⟩] 65 (.t 64),
    .op ⟨(some 66), (.mv (.t 65)), none⟩,
    .grp 66 false [⟨(some 67), (.fa 9 (.t 2)), (some (66, false))⟩, ⟨(some 68), (.load false 1 (.t 67)), (some (66, false))⟩, ⟨(some 69), (.fa 9 (.t 3)), (some (66, false))⟩, ⟨(some 70), (.load false 1 (.t 69)), (some (66, false))⟩, ⟨(some 71), (.eq true false [.b] (.t 68) (.t 70)), (some (66, false))⟩] 72 (.t 71),
    .op ⟨(some 73), (.mv (.t 72)), none⟩,
    .grp 73 false [⟨(some 74), (.fa 10 (.t 2)), (some (73, false))⟩, ⟨(some 75), (.load false 1 (.t 74)), (some (73, false))⟩, ⟨(some 76), (.fa 10 (.t 3)), (some (73, false))⟩, ⟨(some 77), (.load false 1 (.t 76)), (some (73, false))⟩, ⟨(some 78), (.eq true false [.b] (.t 75) (.t 77)), (some (73, false))⟩] 79 (.t 78),
    .op ⟨(some 80), (.mv (.t 79)), none⟩,
    .grp 80 false [⟨(some 81), (.fa 11 (.t 2)), (some (80, false))⟩, ⟨(some 82), (.load false 1 (.t 81)), (some (80, false))⟩, ⟨(some 83), (.fa 11 (.t 3)), (some (80, false))⟩, ⟨(some 84), (.load false 1 (.t 83)), (some (80, false))⟩, ⟨(some 85), (.bin .neq (.t 82) (.t 84)), (some (80, false))⟩] 86 (.t 85),
    .op ⟨(some 87), (.mv (.t 86)), none⟩,
    .grp 87 false [⟨(some 88), (.fa 12 (.t 2)), (some (87, false))⟩, ⟨(some 89), (.load true 2 (.t 88)), (some (87, false))⟩, ⟨(some 90), (.fa 12 (.t 3)), (some (87, false))⟩, ⟨(some 91), (.load true 2 (.t 90)), (some (87, false))⟩, ⟨(some 92), (.eq true true [.s, (.i .i64)] (.t 89) (.t 91)), (some (87, false))⟩] 93 (.t 92)]) (.cond (.t 93) (.seq (.reg [.op ⟨(some 4), (.mv (.c (.bool false))), none⟩]) (.ret)) (.skip))) (.seq (.reg [.op ⟨(some 94), (.fa 14 (.t 2)), none⟩,
    .op ⟨(some 95), (.load false 1 (.t 94)), none⟩,
    .op ⟨(some 96), (.fa 14 (.t 3)), none⟩,
    .op ⟨(some 97), (.load false 1 (.t 96)), none⟩,
    .call ⟨(some 98), (.call 28 [(.t 95), (.t 97)]), none⟩ 28 ent_ddilaw26_records,
    .op ⟨(some 99), (.mv (.t 98)), none⟩,
    .op ⟨(some 100), (.fa 15 (.t 2)), (some (99, true))⟩,
    .op ⟨(some 101), (.load false 1 (.t 100)), (some (99, true))⟩,
    .op ⟨(some 102), (.fa 15 (.t 3)), (some (99, true))⟩,
    .op ⟨(some 103), (.load false 1 (.t 102)), (some (99, true))⟩,
    .call ⟨(some 104), (.call 28 [(.t 101), (.t 103)]), (some (99, true))⟩ 28 ent_ddilaw26_records,
    .op ⟨(some 105), (.pick (.t 99) (.t 104) (.c (.bool false))), none⟩,
    .op ⟨(some 106), (.mv (.t 105)), none⟩,
    .op ⟨(some 107), (.fa 16 (.t 2)), (some (106, true))⟩,
    .op ⟨(some 108), (.load false 1 (.t 107)), (some (106, true))⟩,
    .op ⟨(some 109), (.fa 16 (.t 3)), (some (106, true))⟩,
    .op ⟨(some 110), (.load false 1 (.t 109)), (some (106, true))⟩,
    .call ⟨(some 111), (.call 28 [(.t 108), (.t 110)]), (some (106, true))⟩ 28 ent_ddilaw26_records,
    .op ⟨(some 112), (.pick (.t 106) (.t 111) (.c (.bool false))), none⟩,
    .op ⟨(some 4), (.mv (.t 112)), none⟩]) (.ret)))
theorem ok_ddilaw26_same : AC.ok Tryd.prog (TIof Tryd.prog) 113 0 (kret [(.t 4)] dec_ddilaw26_same) a_ddilaw26_same := (And.intro True.intro (And.intro (And.intro True.intro (And.intro (And.intro True.intro True.intro) True.intro)) (And.intro (And.intro (EntOkB.ok k_ddilaw26_records) (And.intro (EntOkB.ok k_ddilaw26_records) (And.intro (EntOkB.ok k_ddilaw26_records) True.intro))) True.intro)))
theorem t_ddilaw26_same (v0_0 : Int) (v0_1 : Int) (v0_2 : Int) (v0_3 : Bool) (v0_4 : Bool) (v0_5 : Bool) (v0_6 : Bool) (v0_7 : Bool) (v0_8 : Bool) (v0_9 : Bool) (v0_10 : Bool) (v0_11 : Int) (v0_12 : List UInt8) (v0_13 : Int) (v0_14 : List AV) (v0_15 : List AV) (v0_16 : List AV) (v1_0 : Int) (v1_1 : Int) (v1_2 : Int) (v1_3 : Bool) (v1_4 : Bool) (v1_5 : Bool) (v1_6 : Bool) (v1_7 : Bool) (v1_8 : Bool) (v1_9 : Bool) (v1_10 : Bool) (v1_11 : Int) (v1_12 : List UInt8) (v1_13 : Int) (v1_14 : List AV) (v1_15 : List AV) (v1_16 : List AV) : den 0 (kret [(.t 4)] dec_ddilaw26_same) a_ddilaw26_same (envOf [(0, (.agg [(.int .i64 v0_0), (.int .i64 v0_1), (.int .i64 v0_2), (.bool v0_3), (.bool v0_4), (.bool v0_5), (.bool v0_6), (.bool v0_7), (.bool v0_8), (.bool v0_9), (.bool v0_10), (.int .i64 v0_11), (.str v0_12), (.int .i64 v0_13), (.sl 16 v0_14), (.sl 16 v0_15), (.sl 16 v0_16)])), (1, (.agg [(.int .i64 v1_0), (.int .i64 v1_1), (.int .i64 v1_2), (.bool v1_3), (.bool v1_4), (.bool v1_5), (.bool v1_6), (.bool v1_7), (.bool v1_8), (.bool v1_9), (.bool v1_10), (.int .i64 v1_11), (.str v1_12), (.int .i64 v1_13), (.sl 16 v1_14), (.sl 16 v1_15), (.sl 16 v1_16)]))]) (memOf []) (kend (kret [(.t 4)] dec_ddilaw26_same)) = ddilaw26_same v0_0 v0_1 v0_2 v0_3 v0_4 v0_5 v0_6 v0_7 v0_8 v0_9 v0_10 v0_11 v0_12 v0_13 v0_14 v0_15 v0_16 v1_0 v1_1 v1_2 v1_3 v1_4 v1_5 v1_6 v1_7 v1_8 v1_9 v1_10 v1_11 v1_12 v1_13 v1_14 v1_15 v1_16 := by
  rw [ddilaw26_same_eq]; kernel_rfl
theorem c_ddilaw26_same : cFn (TIof Tryd.prog) Tryd.f17 = some ⟨113, [(.t 4)], scOf a_ddilaw26_same⟩ := by kernel_rfl
noncomputable def ent_ddilaw26_same {R : Type} (xs : List AV) (K : AV → Option R) : Option R := chk (fitS shp_ddilaw26_same (entry xs) Mem.none) (oB (ddilaw26_same (gI ((entry xs) 0).cells 0) (gI ((entry xs) 0).cells 1) (gI ((entry xs) 0).cells 2) (gB ((entry xs) 0).cells 3) (gB ((entry xs) 0).cells 4) (gB ((entry xs) 0).cells 5) (gB ((entry xs) 0).cells 6) (gB ((entry xs) 0).cells 7) (gB ((entry xs) 0).cells 8) (gB ((entry xs) 0).cells 9) (gB ((entry xs) 0).cells 10) (gI ((entry xs) 0).cells 11) (gS ((entry xs) 0).cells 12) (gI ((entry xs) 0).cells 13) (gL ((entry xs) 0).cells 14) (gL ((entry xs) 0).cells 15) (gL ((entry xs) 0).cells 16) (gI ((entry xs) 1).cells 0) (gI ((entry xs) 1).cells 1) (gI ((entry xs) 1).cells 2) (gB ((entry xs) 1).cells 3) (gB ((entry xs) 1).cells 4) (gB ((entry xs) 1).cells 5) (gB ((entry xs) 1).cells 6) (gB ((entry xs) 1).cells 7) (gB ((entry xs) 1).cells 8) (gB ((entry xs) 1).cells 9) (gB ((entry xs) 1).cells 10) (gI ((entry xs) 1).cells 11) (gS ((entry xs) 1).cells 12) (gI ((entry xs) 1).cells 13) (gL ((entry xs) 1).cells 14) (gL ((entry xs) 1).cells 15) (gL ((entry xs) 1).cells 16)) fun r => K (enc_ddilaw26_same r))
theorem k_ddilaw26_same {R : Type} : EntOkB Tryd.prog 17 (ent_ddilaw26_same (R := R)) :=
  ent_of (F := fun xs => ddilaw26_same (gI ((entry xs) 0).cells 0) (gI ((entry xs) 0).cells 1) (gI ((entry xs) 0).cells 2) (gB ((entry xs) 0).cells 3) (gB ((entry xs) 0).cells 4) (gB ((entry xs) 0).cells 5) (gB ((entry xs) 0).cells 6) (gB ((entry xs) 0).cells 7) (gB ((entry xs) 0).cells 8) (gB ((entry xs) 0).cells 9) (gB ((entry xs) 0).cells 10) (gI ((entry xs) 0).cells 11) (gS ((entry xs) 0).cells 12) (gI ((entry xs) 0).cells 13) (gL ((entry xs) 0).cells 14) (gL ((entry xs) 0).cells 15) (gL ((entry xs) 0).cells 16) (gI ((entry xs) 1).cells 0) (gI ((entry xs) 1).cells 1) (gI ((entry xs) 1).cells 2) (gB ((entry xs) 1).cells 3) (gB ((entry xs) 1).cells 4) (gB ((entry xs) 1).cells 5) (gB ((entry xs) 1).cells 6) (gB ((entry xs) 1).cells 7) (gB ((entry xs) 1).cells 8) (gB ((entry xs) 1).cells 9) (gB ((entry xs) 1).cells 10) (gI ((entry xs) 1).cells 11) (gS ((entry xs) 1).cells 12) (gI ((entry xs) 1).cells 13) (gL ((entry xs) 1).cells 14) (gL ((entry xs) 1).cells 15) (gL ((entry xs) 1).cells 16)) (enc := enc_ddilaw26_same) tabOk follows Tryd.func17 (by kernel_rfl) c_ddilaw26_same (fun z r h => by
    obtain ⟨h1, h2⟩ := cond_some h
    cases h2
    exact (etaRV_eq h1).symm) ok_ddilaw26_same (er_of (by kernel_rfl)) shp_ddilaw26_same (fun xs => t_ddilaw26_same (gI ((entry xs) 0).cells 0) (gI ((entry xs) 0).cells 1) (gI ((entry xs) 0).cells 2) (gB ((entry xs) 0).cells 3) (gB ((entry xs) 0).cells 4) (gB ((entry xs) 0).cells 5) (gB ((entry xs) 0).cells 6) (gB ((entry xs) 0).cells 7) (gB ((entry xs) 0).cells 8) (gB ((entry xs) 0).cells 9) (gB ((entry xs) 0).cells 10) (gI ((entry xs) 0).cells 11) (gS ((entry xs) 0).cells 12) (gI ((entry xs) 0).cells 13) (gL ((entry xs) 0).cells 14) (gL ((entry xs) 0).cells 15) (gL ((entry xs) 0).cells 16) (gI ((entry xs) 1).cells 0) (gI ((entry xs) 1).cells 1) (gI ((entry xs) 1).cells 2) (gB ((entry xs) 1).cells 3) (gB ((entry xs) 1).cells 4) (gB ((entry xs) 1).cells 5) (gB ((entry xs) 1).cells 6) (gB ((entry xs) 1).cells 7) (gB ((entry xs) 1).cells 8) (gB ((entry xs) 1).cells 9) (gB ((entry xs) 1).cells 10) (gI ((entry xs) 1).cells 11) (gS ((entry xs) 1).cells 12) (gI ((entry xs) 1).cells 13) (gL ((entry xs) 1).cells 14) (gL ((entry xs) 1).cells 15) (gL ((entry xs) 1).cells 16)) (fun xs K r h => by
    unfold ent_ddilaw26_same at h
    exact ⟨(chk_some h).1, oB_some (chk_some h).2⟩)


end Go.Proofs.YthhnnlipnpfkcaaDoor.Dn

