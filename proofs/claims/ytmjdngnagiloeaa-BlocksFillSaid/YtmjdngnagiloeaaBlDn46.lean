import Derived.Test.YtmjdngnagiloeaaProg
import Derived.Test.YtmjdngnagiloeaaBlLibD
import Derived.Test.YtmjdngnagiloeaaBlDn46x3
set_option linter.all false
namespace Go.Proofs.Ytmjdngnagiloeaa.Dn
open Go Go.Pev
set_option linter.unusedVariables false
set_option linter.unusedSimpArgs false
set_option maxRecDepth 100000
set_option maxHeartbeats 4000000
def qps  (K : Ex → Env → Mem → Option Bool) := (fun z_v6 => K .norm (qk [(6, (.bool z_v6))]) (qi []))
def qyw : Shp := ⟨[(8, .one (.l (.sl 4)))], []⟩
noncomputable section
def qma  (v8 : List AV) (kn : Bool → Option Bool) : Option Bool :=
  (bif ((v8.length : Int) == (0 : Int)) then (oB (qhk) fun r1 => (kn r1)) else (kn false))
def qjq := hull (qma)
theorem qpt : qjq = qma := ql _
def qhn : AC Bool :=
  .seq (.reg [ao 55 (.mv 8),
 ao 56 (.len false 55),
 ao 57 (.bin .eql 56 (.c (.int .i64 0))),
 ao 58 (.mv 57),
 .call (pg 59 58 true (.call 13 [])) 13 qno,
 ao 60 (.pick 58 59 (.c (.bool false))),
 ao 6 (.mv 60)]) (.view [.sel [6] []])
theorem qzz : AC.ok Try.prog (TIof Try.prog) 202 0 (kret [.t 6] decB) qhn := qp (zA (qd.ok qt8) trivial)
theorem q05 (v8 : List AV) (K : Ex → Env → Mem → Option Bool) : den 0 (kret [.t 6] decB) qhn (qk [(8, (.sl 4 v8))]) (qi []) K = qjq v8 (qps K) := by
  rw [qpt]; kernel_rfl
def qqt := subE (R := Bool) qyw fun t m K => qjq (gL [t 8] 0) (qps K)
theorem q06 : qdb Try.prog (TIof Try.prog) 202 0 (kret [.t 6] decB) (scOf qhn) (qqt) :=
  qis tabOk follows (qzz) (qy (by kernel_rfl)) fun t m K => q05 _ K
def qgp  (v0 : List AV) (v2 : Int) (v8 : List AV) (Ai : Bool) (Aj Ak Al Am : Int) (An Ao : List UInt8) (Ap : Int) (K : Ex → Env → Mem → Option Bool) := (fun z_a1 => K (.exit 0) (qk [(0, (.sl 8 v0)), (2, (.int .u64 v2)), (7, (.ptr 0 0)), (8, (.sl 4 v8)), (9, (.own 1 z_a1.length))]) (qi [(some (.box true (qb Ai Aj Ak Al Am An Ao Ap))), (some (.arr true 4 z_a1))]))
def qyx : Shp := ⟨[(0, .one (.l (.sl 8))), (2, .one (.l (.i .u64))), (7, .one (.ptr 0 0)), (8, .one (.l (.sl 4))), (9, .one (.own 1)), (67, .one (.l (.sl 8))), (68, .one (.l (.i .i64))), (69, .one (.l (.i .i64)))], [.box true (lk qa), .arr true 4]⟩
def qlq (v0 : List AV) (v2 : Int) (v8 v67 : List AV) (v68 v69 : Int) (Ai : Bool) (Aj Ak Al Am : Int) (An Ao : List UInt8) (Ap : Int) (a1 : List AV) : Env := qk [(0, (.sl 8 v0)), (2, (.int .u64 v2)), (7, (.ptr 0 0)), (8, (.sl 4 v8)), (9, (.own 1 a1.length)), (67, (.sl 8 v67)), (68, (.int .i64 v68)), (69, (.int .i64 v69))]
def qlr (v0 : List AV) (v2 : Int) (v8 v67 : List AV) (v68 v69 : Int) (Ai : Bool) (Aj Ak Al Am : Int) (An Ao : List UInt8) (Ap : Int) (a1 : List AV) : Mem := qi [(some (.box true (qb Ai Aj Ak Al Am An Ao Ap))), (some (.arr true 4 a1))]
def qep  (v0 : List AV) (v2 : Int) (v8 v67 : List AV) (v68 v69 : Int) (Ai : Bool) (Aj Ak Al Am : Int) (An Ao : List UInt8) (Ap : Int) (a1 : List AV) (next : Int → (List AV) → Option Bool) (kx0 : (List AV) → Option Bool) : Option Bool :=
  (bif (decide (v69 < v68)) then (oB (ixB v67 v69) fun y1 => (bif fitC qa y1.cells then (bif hd a1 a1.length then (bif hd ([(.agg [(.bool (gB y1.cells 0)), (.int .u64 (gI y1.cells 1)), (.int .u64 (gI y1.cells 2)), (.int .i64 (gI y1.cells 3))])] : List AV) (([(.agg [(.bool (gB y1.cells 0)), (.int .u64 (gI y1.cells 1)), (.int .u64 (gI y1.cells 2)), (.int .i64 (gI y1.cells 3))])] : List AV).length) then (bif decide ((a1.length + ([(.agg [(.bool (gB y1.cells 0)), (.int .u64 (gI y1.cells 1)), (.int .u64 (gI y1.cells 2)), (.int .i64 (gI y1.cells 3))])] : List AV).length) * 32 ≤ 140737488355328) then (next (IntKind.i64.wrap (v69 + (1 : Int))) (a1 ++ ([(.agg [(.bool (gB y1.cells 0)), (.int .u64 (gI y1.cells 1)), (.int .u64 (gI y1.cells 2)), (.int .i64 (gI y1.cells 3))])] : List AV))) else none) else none) else none) else none)) else (kx0 a1))
def qho  (v0 : List AV) (v2 : Int) (v8 v67 : List AV) (v68 : Int) (Ai : Bool) (Aj Ak Al Am : Int) (An Ao : List UInt8) (Ap : Int) (kx0 : (List AV) → Option Bool) : Nat → Int → (List AV) → Option Bool
  | 0 => (fun _ _ => none)
  | n + 1 => (fun v69 a1 => qep v0 v2 v8 v67 v68 v69 Ai Aj Ak Al Am An Ao Ap a1 (qho v0 v2 v8 v67 v68 Ai Aj Ak Al Am An Ao Ap kx0 n) kx0)
def qge := hull (qho)
theorem qpu : qge = qho := ql _
def qeq : AC Bool :=
  .seq (.reg [ao 70 (.bin .lss 69 68)]) (.seq (.cond 70 (.skip) (.seq (.view [.sel [0, 2, 7, 8, 9] [0, 1]]) (.exit 0))) (.seq (.block 1 (.seq (.reg [ao 71 (.ia 8 67 69),
 .st (.etac 71 qa),
 ao 72 (.load true 8 71),
 ao 11 (.alloc [(.bool false), (.int .u64 0), (.int .u64 0), (.int .i64 0), (.int .i64 0), (.str []), (.str []), (.int .i64 0)]),
 an (.store 8 11 72)]) (.reg [ao 73 (.mv 9),
 ao 74 (.fa 0 11),
 ao 75 (.load true 4 74),
 ao 76 (.bsl 4 [75]),
 ao 77 (.app 4 32 73 76),
 ao 9 (.mv 77)]))) (.seq (.reg [ao 78 (.bin .add 69 (.c (.int .i64 1))),
 ao 69 (.mv 78)]) (.view [.sel [0, 2, 7, 8, 9, 67, 68, 69] [0, 1]]))))
theorem qz0 : AC.ok Try.prog (TIof Try.prog) 202 0 (kret [.t 6] decB) qeq := qp trivial
theorem qyy (v0 : List AV) (v2 : Int) (v8 v67 : List AV) (v68 v69 : Int) (Ai : Bool) (Aj Ak Al Am : Int) (An Ao : List UInt8) (Ap : Int) (a1 : List AV) (K : Ex → Env → Mem → Option Bool) : den 0 (kret [.t 6] decB) qeq (qlq v0 v2 v8 v67 v68 v69 Ai Aj Ak Al Am An Ao Ap a1) (qlr v0 v2 v8 v67 v68 v69 Ai Aj Ak Al Am An Ao Ap a1) K = qep v0 v2 v8 v67 v68 v69 Ai Aj Ak Al Am An Ao Ap a1 (fun z_v69 z_a1 => K .norm (qlq v0 v2 v8 v67 v68 z_v69 Ai Aj Ak Al Am An Ao Ap z_a1) (qlr v0 v2 v8 v67 v68 z_v69 Ai Aj Ak Al Am An Ao Ap z_a1)) (qgp v0 v2 v8 Ai Aj Ak Al Am An Ao Ap K) := by kernel_rfl
theorem q07 (v0 : List AV) (v2 : Int) (v8 v67 : List AV) (v68 : Int) (Ai : Bool) (Aj Ak Al Am : Int) (An Ao : List UInt8) (Ap : Int) (K : Ex → Env → Mem → Option Bool) : ∀ (n : Nat) (v69 : Int) (a1 : List AV), qgc (den 0 (kret [.t 6] decB) qeq) n (qlq v0 v2 v8 v67 v68 v69 Ai Aj Ak Al Am An Ao Ap a1) (qlr v0 v2 v8 v67 v68 v69 Ai Aj Ak Al Am An Ao Ap a1) K = qge v0 v2 v8 v67 v68 Ai Aj Ak Al Am An Ao Ap (qgp v0 v2 v8 Ai Aj Ak Al Am An Ao Ap K) n v69 a1 := by
  rw [qpu]
  intro n
  induction n with
  | zero => intros; rfl
  | succ n ih =>
 intro v69 a1
 exact (qyy v0 v2 v8 v67 v68 v69 Ai Aj Ak Al Am An Ao Ap a1 (itK (den 0 (kret [.t 6] decB) qeq) n K)).trans (congrArg (fun q => qep v0 v2 v8 v67 v68 v69 Ai Aj Ak Al Am An Ao Ap a1 q (qgp v0 v2 v8 Ai Aj Ak Al Am An Ao Ap K)) (funext fun v69 => funext fun a1 => ih v69 a1))
def qqu := subE (R := Bool) qyx fun t m K => qf (bxC (m.s 0)) (qge (gL [t 0] 0) (gI [t 2] 0) (gL [t 8] 0) (gL [t 67] 0) (gI [t 68] 0)) (qgp (gL [t 0] 0) (gI [t 2] 0) (gL [t 8] 0) (gB (bxC (m.s 0)) 0) (gI (bxC (m.s 0)) 1) (gI (bxC (m.s 0)) 2) (gI (bxC (m.s 0)) 3) (gI (bxC (m.s 0)) 4) (gS (bxC (m.s 0)) 5) (gS (bxC (m.s 0)) 6) (gI (bxC (m.s 0)) 7) K) FU (gI [t 69] 0) (arL (m.s 1))
theorem q08 : qdb Try.prog (TIof Try.prog) 202 0 (kret [.t 6] decB) (.loop (scOf qeq)) (qqu) :=
  qgd tabOk follows (qz0) (qy (by kernel_rfl)) fun t m K => q07 _ _ _ _ _ _ _ _ _ _ _ _ _ K FU _ _
def qpv  (v0 v8 : List AV) (v13 Ai : Bool) (Aj Ak Al Am : Int) (An Ao : List UInt8) (Ap : Int) (a1 : List AV) (A2 : Bool) (A3 A4 : Int) (A6 : Bool) (A7 A8 : Int) (K : Ex → Env → Mem → Option Bool) := (fun z_v99 => K .norm (qk [(0, (.sl 8 v0)), (7, (.ptr 0 0)), (8, (.sl 4 v8)), (9, (.own 1 a1.length)), (13, (.bool v13)), (14, (.ptr 2 0)), (15, (.ptr 3 0)), (99, (.bool z_v99))]) (qi [(some (.box true (qb Ai Aj Ak Al Am An Ao Ap))), (some (.arr true 4 a1)), (some (.box true (qbl A2 A3 A4))), (some (.box true (qbl A6 A7 A8)))]))
def qyz : Shp := ⟨[(0, .one (.l (.sl 8))), (7, .one (.ptr 0 0)), (8, .one (.l (.sl 4))), (9, .one (.own 1)), (13, .one (.l .b)), (14, .one (.ptr 2 0)), (15, .one (.ptr 3 0)), (16, .one (.l .b))], [.box true (lk qa), .arr true 4, .box true (lk qdj), .box true (lk qdj)]⟩
def qmb  (v0 v8 : List AV) (v13 v16 Ai : Bool) (Aj Ak Al Am : Int) (An Ao : List UInt8) (Ap : Int) (a1 : List AV) (A2 : Bool) (A3 A4 : Int) (A6 : Bool) (A7 A8 : Int) (kn : Bool → Option Bool) : Option Bool :=
  (bif v16 then (oB (qgm Ai Aj Ak Al A6 A7 A8) fun r1 => (kn r1)) else (kn false))
def qjr := hull (qmb)
theorem qpw : qjr = qmb := ql _
def qhp : AC Bool :=
  .seq (.reg [ao 93 (.mv 16),
 ao 94 (.mv 93),
 ag 95 94 true (.fa 0 7),
 ag 96 94 true (.load true 4 95),
 ag 97 94 true (.load true 3 15),
 .call (pg 98 94 true (.call 35 [96, 97])) 35 qjs,
 ao 99 (.pick 94 98 (.c (.bool false)))]) (.view [.sel [0, 7, 8, 9, 13, 14, 15, 99] [0, 1, 2, 3]])
theorem qz1 : AC.ok Try.prog (TIof Try.prog) 202 0 (kret [.t 6] decB) qhp := qp (zA (qd.ok qnz) trivial)
theorem q09 (v0 v8 : List AV) (v13 v16 Ai : Bool) (Aj Ak Al Am : Int) (An Ao : List UInt8) (Ap : Int) (a1 : List AV) (A2 : Bool) (A3 A4 : Int) (A6 : Bool) (A7 A8 : Int) (K : Ex → Env → Mem → Option Bool) : den 0 (kret [.t 6] decB) qhp (qk [(0, (.sl 8 v0)), (7, (.ptr 0 0)), (8, (.sl 4 v8)), (9, (.own 1 a1.length)), (13, (.bool v13)), (14, (.ptr 2 0)), (15, (.ptr 3 0)), (16, (.bool v16))]) (qi [(some (.box true (qb Ai Aj Ak Al Am An Ao Ap))), (some (.arr true 4 a1)), (some (.box true (qbl A2 A3 A4))), (some (.box true (qbl A6 A7 A8)))]) K = qjr v0 v8 v13 v16 Ai Aj Ak Al Am An Ao Ap a1 A2 A3 A4 A6 A7 A8 (qpv v0 v8 v13 Ai Aj Ak Al Am An Ao Ap a1 A2 A3 A4 A6 A7 A8 K) := by
  rw [qpw]; kernel_rfl
def qqv := subE (R := Bool) qyz fun t m K => qcj (bxC (m.s 3)) (qcj (bxC (m.s 2)) (qf (bxC (m.s 0)) (qjr (gL [t 0] 0) (gL [t 8] 0) (gB [t 13] 0) (gB [t 16] 0)) (arL (m.s 1)))) (qpv (gL [t 0] 0) (gL [t 8] 0) (gB [t 13] 0) (gB (bxC (m.s 0)) 0) (gI (bxC (m.s 0)) 1) (gI (bxC (m.s 0)) 2) (gI (bxC (m.s 0)) 3) (gI (bxC (m.s 0)) 4) (gS (bxC (m.s 0)) 5) (gS (bxC (m.s 0)) 6) (gI (bxC (m.s 0)) 7) (arL (m.s 1)) (gB (bxC (m.s 2)) 0) (gI (bxC (m.s 2)) 1) (gI (bxC (m.s 2)) 2) (gB (bxC (m.s 3)) 0) (gI (bxC (m.s 3)) 1) (gI (bxC (m.s 3)) 2) K)
theorem q1a : qdb Try.prog (TIof Try.prog) 202 0 (kret [.t 6] decB) (scOf qhp) (qqv) :=
  qis tabOk follows (qz1) (qy (by kernel_rfl)) fun t m K => q09 _ _ _ _ _ _ _ _ _ _ _ _ _ _ _ _ _ _ _ K
def qpx  (v0 v8 : List AV) (v13 Ai : Bool) (Aj Ak Al Am : Int) (An Ao : List UInt8) (Ap : Int) (a1 : List AV) (K : Ex → Env → Mem → Option Bool) := (fun z_b2_0 z_b2_1 z_b2_2 => K .norm (qk [(0, (.sl 8 v0)), (7, (.ptr 0 0)), (8, (.sl 4 v8)), (9, (.own 1 a1.length)), (13, (.bool v13)), (14, (.ptr 2 0))]) (qi [(some (.box true (qb Ai Aj Ak Al Am An Ao Ap))), (some (.arr true 4 a1)), (some (.box true (qbl z_b2_0 z_b2_1 z_b2_2)))]))
def qy0 : Shp := ⟨[(0, .one (.l (.sl 8))), (2, .one (.l (.i .u64))), (7, .one (.ptr 0 0)), (8, .one (.l (.sl 4))), (9, .one (.own 1)), (13, .one (.l .b)), (14, .one (.ptr 2 0))], [.box true (lk qa), .arr true 4, .box true (lk qdj)]⟩
def qmc  (v0 : List AV) (v2 : Int) (v8 : List AV) (v13 Ai : Bool) (Aj Ak Al Am : Int) (An Ao : List UInt8) (Ap : Int) (a1 : List AV) (A2 : Bool) (A3 A4 : Int) (kn : Bool → Int → Int → Option Bool) : Option Bool :=
  (oB (q2t A2 A3 A4 v2) fun r1 => (bif (hd a1 (a1.length) && true) then (qjr v0 v8 v13 r1.2 Ai Aj Ak Al Am An Ao Ap a1 A2 A3 A4 (gB r1.1.cells 0) (gI r1.1.cells 1) (gI r1.1.cells 2) (fun v99q2 => (bif v99q2 then (kn (gB r1.1.cells 0) (gI r1.1.cells 1) (gI r1.1.cells 2)) else (kn A2 A3 A4)))) else none))
def qgf := hull (qmc)
theorem qpy : qgf = qmc := ql _
def qhq : AC Bool :=
  .seq (.reg [ao 88 (.load true 3 14),
 ao 89 (.mv 2),
 .call (po 90 (.call 39 [88, 89])) 39 qbae,
 ao 87 (.mv 90),
 ao 91 (.ext 87 0),
 ao 92 (.ext 87 1),
 ao 15 (.alloc [(.bool false), (.int .u64 0), (.int .u64 0)]),
 an (.store 3 15 91),
 ao 16 (.mv 92)]) (.seq (.seq (.view [.sel [0, 7, 8, 9, 13, 14, 15, 16] [0, 1, 2, 3]]) (.sub (scOf qhp) qqv)) (.cond 99 (.seq (.reg [ao 100 (.load true 3 15),
 an (.store 3 14 100)]) (.view [.sel [0, 7, 8, 9, 13, 14] [0, 1, 2]])) (.seq (.skip) (.view [.sel [0, 7, 8, 9, 13, 14] [0, 1, 2]]))))
theorem qz2 : AC.ok Try.prog (TIof Try.prog) 202 0 (kret [.t 6] decB) qhq := qp (zA (qd.ok qbqg) (zA q1a trivial))
theorem q1b (v0 : List AV) (v2 : Int) (v8 : List AV) (v13 Ai : Bool) (Aj Ak Al Am : Int) (An Ao : List UInt8) (Ap : Int) (a1 : List AV) (A2 : Bool) (A3 A4 : Int) (K : Ex → Env → Mem → Option Bool) : den 0 (kret [.t 6] decB) qhq (qk [(0, (.sl 8 v0)), (2, (.int .u64 v2)), (7, (.ptr 0 0)), (8, (.sl 4 v8)), (9, (.own 1 a1.length)), (13, (.bool v13)), (14, (.ptr 2 0))]) (qi [(some (.box true (qb Ai Aj Ak Al Am An Ao Ap))), (some (.arr true 4 a1)), (some (.box true (qbl A2 A3 A4)))]) K = qgf v0 v2 v8 v13 Ai Aj Ak Al Am An Ao Ap a1 A2 A3 A4 (qpx v0 v8 v13 Ai Aj Ak Al Am An Ao Ap a1 K) := by
  rw [qpy]; kernel_rfl
def qqw := subE (R := Bool) qy0 fun t m K => qcj (bxC (m.s 2)) (qf (bxC (m.s 0)) (qgf (gL [t 0] 0) (gI [t 2] 0) (gL [t 8] 0) (gB [t 13] 0)) (arL (m.s 1))) (qpx (gL [t 0] 0) (gL [t 8] 0) (gB [t 13] 0) (gB (bxC (m.s 0)) 0) (gI (bxC (m.s 0)) 1) (gI (bxC (m.s 0)) 2) (gI (bxC (m.s 0)) 3) (gI (bxC (m.s 0)) 4) (gS (bxC (m.s 0)) 5) (gS (bxC (m.s 0)) 6) (gI (bxC (m.s 0)) 7) (arL (m.s 1)) K)
theorem q1c : qdb Try.prog (TIof Try.prog) 202 0 (kret [.t 6] decB) (scOf qhq) (qqw) :=
  qis tabOk follows (qz2) (qy (by kernel_rfl)) fun t m K => q1b _ _ _ _ _ _ _ _ _ _ _ _ _ _ _ _ K
def qpz  (v0 v8 : List AV) (v13 : Bool) (v17 v18 v102 v103 : Int) (Ai : Bool) (Aj Ak Al Am : Int) (An Ao : List UInt8) (Ap : Int) (a1 : List AV) (A2 : Bool) (A3 A4 : Int) (A6 : Bool) (A7 A8 A9 : Int) (K : Ex → Env → Mem → Option Bool) := (fun z_v132 => K .norm (qk [(0, (.sl 8 v0)), (7, (.ptr 0 0)), (8, (.sl 4 v8)), (9, (.own 1 a1.length)), (13, (.bool v13)), (14, (.ptr 2 0)), (17, (.int .i64 v17)), (18, (.int .i64 v18)), (19, (.ptr 3 0)), (101, (.own 1 a1.length)), (102, (.int .i64 v102)), (103, (.int .i64 v103)), (132, (.bool z_v132))]) (qi [(some (.box true (qb Ai Aj Ak Al Am An Ao Ap))), (some (.arr false 4 a1)), (some (.box true (qbl A2 A3 A4))), (some (.box true (qc A6 A7 A8 A9)))]))
def qy1 : Shp := ⟨[(0, .one (.l (.sl 8))), (7, .one (.ptr 0 0)), (8, .one (.l (.sl 4))), (9, .one (.own 1)), (13, .one (.l .b)), (14, .one (.ptr 2 0)), (17, .one (.l (.i .i64))), (18, .one (.l (.i .i64))), (19, .one (.ptr 3 0)), (101, .one (.own 1)), (102, .one (.l (.i .i64))), (103, .one (.l (.i .i64)))], [.box true (lk qa), .arr false 4, .box true (lk qdj), .box true (lk qe)]⟩
def qmd  (v0 v8 : List AV) (v13 : Bool) (v17 v18 v102 v103 : Int) (Ai : Bool) (Aj Ak Al Am : Int) (An Ao : List UInt8) (Ap : Int) (a1 : List AV) (A2 : Bool) (A3 A4 : Int) (A6 : Bool) (A7 A8 A9 : Int) (kn : Bool → Option Bool) : Option Bool :=
  (oB (qg3 A6 A7 A8 A9 Ai Aj Ak Al) fun r1 => (bif (!r1) then (kn true) else (bif (decide (v18 > (0 : Int))) then (bif (decide (v18 < (v8.length : Int))) then (bif hd a1 a1.length then (bif decide (0 ≤ (IntKind.i64.wrap (v18 - (1 : Int))) ∧ (IntKind.i64.wrap (v18 - (1 : Int))) < a1.length) then (bif hd a1 a1.length then (oB (a1[(IntKind.i64.wrap (v18 - (1 : Int))).toNat]?) fun y2 => (oB (rdE y2 0 true 4) fun z3 => (bif fitV (.st qe) z3 then (oB (qka (gB z3.cells 0) (gI z3.cells 1) (gI z3.cells 2) (gI z3.cells 3) A6 A7 A8 A9) fun r4 => (kn (decide (r4 ≥ (0 : Int))))) else none))) else none) else none) else none) else (kn false)) else (kn false))))
def qgg := hull (qmd)
theorem qp0 : qgg = qmd := ql _
def qhr : AC Bool :=
  .seq (.draw [] [ao 108 (.load true 4 19),
 ao 109 (.fa 0 7),
 ao 110 (.load true 4 109),
 .call (po 111 (.call 37 [108, 110])) 37 qix,
 ao 112 (.un .not 111),
 ao 113 (.mv 112),
 ag 114 113 false (.mv 18),
 ag 115 113 false (.bin .gtr 114 (.c (.int .i64 0))),
 ag 116 113 false (.mv 115),
 ag 117 116 true (.mv 18),
 ag 118 116 true (.mv 8),
 ag 119 116 true (.len false 118),
 ag 120 116 true (.bin .lss 117 119),
 ag 121 113 false (.pick 116 120 (.c (.bool false))),
 ag 122 113 false (.mv 121),
 ag 123 122 true (.mv 9),
 ag 124 122 true (.mv 18),
 ag 125 122 true (.bin .sub 124 (.c (.int .i64 1))),
 ag 126 122 true (.ia 4 123 125),
 ag 127 122 true (.load true 4 126),
 .stg 122 true (.eta 127 (.st qe)),
 ag 128 122 true (.load true 4 19)] [.call (pg 129 122 true (.call 40 [127, 128])) 40 qnb,
 ag 130 122 true (.bin .geq 129 (.c (.int .i64 0))),
 ag 131 113 false (.pick 122 130 (.c (.bool false))),
 ao 132 (.pick 113 (.c (.bool true)) 131)]) (.view [.sel [0, 7, 8, 9, 13, 14, 17, 18, 19, 101, 102, 103, 132] [0, 1, 2, 3]])
theorem qz3 : AC.ok Try.prog (TIof Try.prog) 202 0 (kret [.t 6] decB) qhr := qp (zA (qd.ok qnc) (zA (qd.ok qtv) (zA rfl trivial)))
theorem q1d (v0 v8 : List AV) (v13 : Bool) (v17 v18 v102 v103 : Int) (Ai : Bool) (Aj Ak Al Am : Int) (An Ao : List UInt8) (Ap : Int) (a1 : List AV) (A2 : Bool) (A3 A4 : Int) (A6 : Bool) (A7 A8 A9 : Int) (K : Ex → Env → Mem → Option Bool) : den 0 (kret [.t 6] decB) qhr (qk [(0, (.sl 8 v0)), (7, (.ptr 0 0)), (8, (.sl 4 v8)), (9, (.own 1 a1.length)), (13, (.bool v13)), (14, (.ptr 2 0)), (17, (.int .i64 v17)), (18, (.int .i64 v18)), (19, (.ptr 3 0)), (101, (.own 1 a1.length)), (102, (.int .i64 v102)), (103, (.int .i64 v103))]) (qi [(some (.box true (qb Ai Aj Ak Al Am An Ao Ap))), (some (.arr false 4 a1)), (some (.box true (qbl A2 A3 A4))), (some (.box true (qc A6 A7 A8 A9)))]) K = qgg v0 v8 v13 v17 v18 v102 v103 Ai Aj Ak Al Am An Ao Ap a1 A2 A3 A4 A6 A7 A8 A9 (qpz v0 v8 v13 v17 v18 v102 v103 Ai Aj Ak Al Am An Ao Ap a1 A2 A3 A4 A6 A7 A8 A9 K) := by
  rw [qp0]; kernel_rfl
def qqx := subE (R := Bool) qy1 fun t m K => qh (bxC (m.s 3)) (qcj (bxC (m.s 2)) (qf (bxC (m.s 0)) (qgg (gL [t 0] 0) (gL [t 8] 0) (gB [t 13] 0) (gI [t 17] 0) (gI [t 18] 0) (gI [t 102] 0) (gI [t 103] 0)) (arL (m.s 1)))) (qpz (gL [t 0] 0) (gL [t 8] 0) (gB [t 13] 0) (gI [t 17] 0) (gI [t 18] 0) (gI [t 102] 0) (gI [t 103] 0) (gB (bxC (m.s 0)) 0) (gI (bxC (m.s 0)) 1) (gI (bxC (m.s 0)) 2) (gI (bxC (m.s 0)) 3) (gI (bxC (m.s 0)) 4) (gS (bxC (m.s 0)) 5) (gS (bxC (m.s 0)) 6) (gI (bxC (m.s 0)) 7) (arL (m.s 1)) (gB (bxC (m.s 2)) 0) (gI (bxC (m.s 2)) 1) (gI (bxC (m.s 2)) 2) (gB (bxC (m.s 3)) 0) (gI (bxC (m.s 3)) 1) (gI (bxC (m.s 3)) 2) (gI (bxC (m.s 3)) 3) K)
theorem q1e : qdb Try.prog (TIof Try.prog) 202 0 (kret [.t 6] decB) (scOf qhr) (qqx) :=
  qis tabOk follows (qz3) (qy (by kernel_rfl)) fun t m K => q1d _ _ _ _ _ _ _ _ _ _ _ _ _ _ _ _ _ _ _ _ _ _ _ K
def qgq  (v0 v8 : List AV) (v13 : Bool) (v17 v102 v103 : Int) (Ai : Bool) (Aj Ak Al Am : Int) (An Ao : List UInt8) (Ap : Int) (a1 : List AV) (A2 : Bool) (A3 A4 : Int) (A6 : Bool) (A7 A8 A9 : Int) (K : Ex → Env → Mem → Option Bool) := (fun (_ : Unit) => K (.exit 4) (qk [(0, (.sl 8 v0)), (7, (.ptr 0 0)), (8, (.sl 4 v8)), (9, (.own 1 a1.length)), (13, (.bool v13)), (14, (.ptr 2 0)), (17, (.int .i64 v17)), (19, (.ptr 3 0)), (101, (.own 1 a1.length)), (102, (.int .i64 v102)), (103, (.int .i64 v103))]) (qi [(some (.box true (qb Ai Aj Ak Al Am An Ao Ap))), (some (.arr false 4 a1)), (some (.box true (qbl A2 A3 A4))), (some (.box true (qc A6 A7 A8 A9)))]))
def qy2 : Shp := ⟨[(0, .one (.l (.sl 8))), (7, .one (.ptr 0 0)), (8, .one (.l (.sl 4))), (9, .one (.own 1)), (13, .one (.l .b)), (14, .one (.ptr 2 0)), (17, .one (.l (.i .i64))), (19, .one (.ptr 3 0)), (101, .one (.own 1)), (102, .one (.l (.i .i64))), (103, .one (.l (.i .i64))), (135, .one (.l (.sl 4))), (136, .one (.l (.i .i64))), (137, .one (.l (.i .i64)))], [.box true (lk qa), .arr false 4, .box true (lk qdj), .box true (lk qe)]⟩
def qls (v0 v8 : List AV) (v13 : Bool) (v17 v102 v103 : Int) (v135 : List AV) (v136 v137 : Int) (Ai : Bool) (Aj Ak Al Am : Int) (An Ao : List UInt8) (Ap : Int) (a1 : List AV) (A2 : Bool) (A3 A4 : Int) (A6 : Bool) (A7 A8 A9 : Int) : Env := qk [(0, (.sl 8 v0)), (7, (.ptr 0 0)), (8, (.sl 4 v8)), (9, (.own 1 a1.length)), (13, (.bool v13)), (14, (.ptr 2 0)), (17, (.int .i64 v17)), (19, (.ptr 3 0)), (101, (.own 1 a1.length)), (102, (.int .i64 v102)), (103, (.int .i64 v103)), (135, (.sl 4 v135)), (136, (.int .i64 v136)), (137, (.int .i64 v137))]
def qlt (v0 v8 : List AV) (v13 : Bool) (v17 v102 v103 : Int) (v135 : List AV) (v136 v137 : Int) (Ai : Bool) (Aj Ak Al Am : Int) (An Ao : List UInt8) (Ap : Int) (a1 : List AV) (A2 : Bool) (A3 A4 : Int) (A6 : Bool) (A7 A8 A9 : Int) : Mem := qi [(some (.box true (qb Ai Aj Ak Al Am An Ao Ap))), (some (.arr false 4 a1)), (some (.box true (qbl A2 A3 A4))), (some (.box true (qc A6 A7 A8 A9)))]
def qer  (v0 v8 : List AV) (v13 : Bool) (v17 v102 v103 : Int) (v135 : List AV) (v136 v137 : Int) (Ai : Bool) (Aj Ak Al Am : Int) (An Ao : List UInt8) (Ap : Int) (a1 : List AV) (A2 : Bool) (A3 A4 : Int) (A6 : Bool) (A7 A8 A9 : Int) (next : Int → Option Bool) (kx4 : Unit → Option Bool) : Option Bool :=
  (bif (decide (v137 < v136)) then (oB (ixB v135 v137) fun y1 => (bif fitC qe y1.cells then (oB (qkf A6 A7 A8 A9 (gB y1.cells 0) (gI y1.cells 1) (gI y1.cells 2) (gI y1.cells 3)) fun r2 => (bif r2 then (some false) else (next (IntKind.i64.wrap (v137 + (1 : Int)))))) else none)) else (kx4 ()))
def qhs  (v0 v8 : List AV) (v13 : Bool) (v17 v102 v103 : Int) (v135 : List AV) (v136 : Int) (Ai : Bool) (Aj Ak Al Am : Int) (An Ao : List UInt8) (Ap : Int) (a1 : List AV) (A2 : Bool) (A3 A4 : Int) (A6 : Bool) (A7 A8 A9 : Int) (kx4 : Unit → Option Bool) : Nat → Int → Option Bool
  | 0 => (fun _ => none)
  | n + 1 => (fun v137 => qer v0 v8 v13 v17 v102 v103 v135 v136 v137 Ai Aj Ak Al Am An Ao Ap a1 A2 A3 A4 A6 A7 A8 A9 (qhs v0 v8 v13 v17 v102 v103 v135 v136 Ai Aj Ak Al Am An Ao Ap a1 A2 A3 A4 A6 A7 A8 A9 kx4 n) kx4)
def qgh := hull (qhs)
theorem qp1 : qgh = qhs := ql _
def qes : AC Bool :=
  .seq (.reg [ao 138 (.bin .lss 137 136)]) (.seq (.cond 138 (.skip) (.seq (.view [.sel [0, 7, 8, 9, 13, 14, 17, 19, 101, 102, 103] [0, 1, 2, 3]]) (.exit 4))) (.seq (.block 5 (.seq (.reg [ao 139 (.ia 4 135 137),
 .st (.etac 139 qe),
 ao 140 (.load true 4 139),
 ao 21 (.alloc [(.bool false), (.int .u64 0), (.int .u64 0), (.int .i64 0)]),
 an (.store 4 21 140)]) (.seq (.reg [ao 141 (.load true 4 19),
 ao 142 (.load true 4 21),
 .call (po 143 (.call 36 [141, 142])) 36 qnk]) (.cond 143 (.seq (.reg [ao 6 (.mv (.c (.bool false)))]) (.ret)) (.skip))))) (.seq (.reg [ao 144 (.bin .add 137 (.c (.int .i64 1))),
 ao 137 (.mv 144)]) (.view [.sel [0, 7, 8, 9, 13, 14, 17, 19, 101, 102, 103, 135, 136, 137] [0, 1, 2, 3]]))))
theorem qz4 : AC.ok Try.prog (TIof Try.prog) 202 0 (kret [.t 6] decB) qes := qp (zA (qd.ok qt5) trivial)
theorem qy3 (v0 v8 : List AV) (v13 : Bool) (v17 v102 v103 : Int) (v135 : List AV) (v136 v137 : Int) (Ai : Bool) (Aj Ak Al Am : Int) (An Ao : List UInt8) (Ap : Int) (a1 : List AV) (A2 : Bool) (A3 A4 : Int) (A6 : Bool) (A7 A8 A9 : Int) (K : Ex → Env → Mem → Option Bool) : den 0 (kret [.t 6] decB) qes (qls v0 v8 v13 v17 v102 v103 v135 v136 v137 Ai Aj Ak Al Am An Ao Ap a1 A2 A3 A4 A6 A7 A8 A9) (qlt v0 v8 v13 v17 v102 v103 v135 v136 v137 Ai Aj Ak Al Am An Ao Ap a1 A2 A3 A4 A6 A7 A8 A9) K = qer v0 v8 v13 v17 v102 v103 v135 v136 v137 Ai Aj Ak Al Am An Ao Ap a1 A2 A3 A4 A6 A7 A8 A9 (fun z_v137 => K .norm (qls v0 v8 v13 v17 v102 v103 v135 v136 z_v137 Ai Aj Ak Al Am An Ao Ap a1 A2 A3 A4 A6 A7 A8 A9) (qlt v0 v8 v13 v17 v102 v103 v135 v136 z_v137 Ai Aj Ak Al Am An Ao Ap a1 A2 A3 A4 A6 A7 A8 A9)) (qgq v0 v8 v13 v17 v102 v103 Ai Aj Ak Al Am An Ao Ap a1 A2 A3 A4 A6 A7 A8 A9 K) := by kernel_rfl
theorem q1f (v0 v8 : List AV) (v13 : Bool) (v17 v102 v103 : Int) (v135 : List AV) (v136 : Int) (Ai : Bool) (Aj Ak Al Am : Int) (An Ao : List UInt8) (Ap : Int) (a1 : List AV) (A2 : Bool) (A3 A4 : Int) (A6 : Bool) (A7 A8 A9 : Int) (K : Ex → Env → Mem → Option Bool) : ∀ (n : Nat) (v137 : Int), qgc (den 0 (kret [.t 6] decB) qes) n (qls v0 v8 v13 v17 v102 v103 v135 v136 v137 Ai Aj Ak Al Am An Ao Ap a1 A2 A3 A4 A6 A7 A8 A9) (qlt v0 v8 v13 v17 v102 v103 v135 v136 v137 Ai Aj Ak Al Am An Ao Ap a1 A2 A3 A4 A6 A7 A8 A9) K = qgh v0 v8 v13 v17 v102 v103 v135 v136 Ai Aj Ak Al Am An Ao Ap a1 A2 A3 A4 A6 A7 A8 A9 (qgq v0 v8 v13 v17 v102 v103 Ai Aj Ak Al Am An Ao Ap a1 A2 A3 A4 A6 A7 A8 A9 K) n v137 := by
  rw [qp1]
  intro n
  induction n with
  | zero => intros; rfl
  | succ n ih =>
 intro v137
 exact (qy3 v0 v8 v13 v17 v102 v103 v135 v136 v137 Ai Aj Ak Al Am An Ao Ap a1 A2 A3 A4 A6 A7 A8 A9 (itK (den 0 (kret [.t 6] decB) qes) n K)).trans (congrArg (fun q => qer v0 v8 v13 v17 v102 v103 v135 v136 v137 Ai Aj Ak Al Am An Ao Ap a1 A2 A3 A4 A6 A7 A8 A9 q (qgq v0 v8 v13 v17 v102 v103 Ai Aj Ak Al Am An Ao Ap a1 A2 A3 A4 A6 A7 A8 A9 K)) (funext fun v137 => ih v137))
def qqy := subE (R := Bool) qy2 fun t m K => qh (bxC (m.s 3)) (qcj (bxC (m.s 2)) (qf (bxC (m.s 0)) (qgh (gL [t 0] 0) (gL [t 8] 0) (gB [t 13] 0) (gI [t 17] 0) (gI [t 102] 0) (gI [t 103] 0) (gL [t 135] 0) (gI [t 136] 0)) (arL (m.s 1)))) (qgq (gL [t 0] 0) (gL [t 8] 0) (gB [t 13] 0) (gI [t 17] 0) (gI [t 102] 0) (gI [t 103] 0) (gB (bxC (m.s 0)) 0) (gI (bxC (m.s 0)) 1) (gI (bxC (m.s 0)) 2) (gI (bxC (m.s 0)) 3) (gI (bxC (m.s 0)) 4) (gS (bxC (m.s 0)) 5) (gS (bxC (m.s 0)) 6) (gI (bxC (m.s 0)) 7) (arL (m.s 1)) (gB (bxC (m.s 2)) 0) (gI (bxC (m.s 2)) 1) (gI (bxC (m.s 2)) 2) (gB (bxC (m.s 3)) 0) (gI (bxC (m.s 3)) 1) (gI (bxC (m.s 3)) 2) (gI (bxC (m.s 3)) 3) K) FU (gI [t 137] 0)
theorem q1g : qdb Try.prog (TIof Try.prog) 202 0 (kret [.t 6] decB) (.loop (scOf qes)) (qqy) :=
  qgd tabOk follows (qz4) (qy (by kernel_rfl)) fun t m K => q1f _ _ _ _ _ _ _ _ _ _ _ _ _ _ _ _ _ _ _ _ _ _ _ _ K FU _
def qgr  (v0 v8 : List AV) (v13 Ai : Bool) (Aj Ak Al Am : Int) (An Ao : List UInt8) (Ap : Int) (K : Ex → Env → Mem → Option Bool) := (fun z_v17 => K (.exit 2) (qk [(0, (.sl 8 v0)), (7, (.ptr 0 0)), (8, (.sl 4 v8)), (13, (.bool v13)), (17, (.int .i64 z_v17))]) (qi [(some (.box true (qb Ai Aj Ak Al Am An Ao Ap)))]))
def qy4 : Shp := ⟨[(0, .one (.l (.sl 8))), (7, .one (.ptr 0 0)), (8, .one (.l (.sl 4))), (9, .one (.own 1)), (13, .one (.l .b)), (14, .one (.ptr 2 0)), (17, .one (.l (.i .i64))), (101, .one (.own 1)), (102, .one (.l (.i .i64))), (103, .one (.l (.i .i64)))], [.box true (lk qa), .arr false 4, .box true (lk qdj)]⟩
def qlu (v0 v8 : List AV) (v13 : Bool) (v17 v102 v103 : Int) (Ai : Bool) (Aj Ak Al Am : Int) (An Ao : List UInt8) (Ap : Int) (a1 : List AV) (A2 : Bool) (A3 A4 : Int) : Env := qk [(0, (.sl 8 v0)), (7, (.ptr 0 0)), (8, (.sl 4 v8)), (9, (.own 1 a1.length)), (13, (.bool v13)), (14, (.ptr 2 0)), (17, (.int .i64 v17)), (101, (.own 1 a1.length)), (102, (.int .i64 v102)), (103, (.int .i64 v103))]
def qlv (v0 v8 : List AV) (v13 : Bool) (v17 v102 v103 : Int) (Ai : Bool) (Aj Ak Al Am : Int) (An Ao : List UInt8) (Ap : Int) (a1 : List AV) (A2 : Bool) (A3 A4 : Int) : Mem := qi [(some (.box true (qb Ai Aj Ak Al Am An Ao Ap))), (some (.arr false 4 a1)), (some (.box true (qbl A2 A3 A4)))]
def qet  (v0 v8 : List AV) (v13 : Bool) (v17 v102 v103 : Int) (Ai : Bool) (Aj Ak Al Am : Int) (An Ao : List UInt8) (Ap : Int) (a1 : List AV) (A2 : Bool) (A3 A4 : Int) (next : Int → Int → Option Bool) (kx2 : Int → Option Bool) : Option Bool :=
  (bif (decide (v103 < v102)) then (bif hd a1 a1.length then (bif decide (0 ≤ v103 ∧ v103 < a1.length) then (bif hd a1 a1.length then (oB (a1[v103.toNat]?) fun y1 => (oB (rdE y1 0 true 4) fun z2 => (bif fitV (.st qe) z2 then (bif (hd a1 (a1.length) && (hd a1 (a1.length) && true)) then (qgg v0 v8 v13 v17 v103 v102 v103 Ai Aj Ak Al Am An Ao Ap a1 A2 A3 A4 (gB z2.cells 0) (gI z2.cells 1) (gI z2.cells 2) (gI z2.cells 3) (fun v132q3 => (bif v132q3 then (some false) else (bif hd a1 a1.length then (oB (cutI a1 none (some v103)) fun s4 => (bif (hd a1 (a1.length) && (hd a1 (a1.length) && true)) then (qgh v0 v8 v13 v17 v102 v103 s4 (s4.length : Int) Ai Aj Ak Al Am An Ao Ap a1 A2 A3 A4 (gB z2.cells 0) (gI z2.cells 1) (gI z2.cells 2) (gI z2.cells 3) (fun (_ : Unit) => (oB (qgm (gB z2.cells 0) (gI z2.cells 1) (gI z2.cells 2) (gI z2.cells 3) A2 A3 A4) fun r5 => (bif r5 then (next (IntKind.i64.wrap (v17 + (1 : Int))) (IntKind.i64.wrap (v103 + (1 : Int)))) else (next v17 (IntKind.i64.wrap (v103 + (1 : Int))))))) FU (0 : Int)) else none)) else none)))) else none) else none))) else none) else none) else none) else (kx2 v17))
def qht  (v0 v8 : List AV) (v13 : Bool) (v102 : Int) (Ai : Bool) (Aj Ak Al Am : Int) (An Ao : List UInt8) (Ap : Int) (a1 : List AV) (A2 : Bool) (A3 A4 : Int) (kx2 : Int → Option Bool) : Nat → Int → Int → Option Bool
  | 0 => (fun _ _ => none)
  | n + 1 => (fun v17 v103 => qet v0 v8 v13 v17 v102 v103 Ai Aj Ak Al Am An Ao Ap a1 A2 A3 A4 (qht v0 v8 v13 v102 Ai Aj Ak Al Am An Ao Ap a1 A2 A3 A4 kx2 n) kx2)
def qdz := hull (qht)
theorem qp2 : qdz = qht := ql _
def qeu : AC Bool :=
  .seq (.reg [ao 104 (.bin .lss 103 102)]) (.seq (.cond 104 (.skip) (.seq (.view [.sel [0, 7, 8, 13, 17] [0]]) (.exit 2))) (.seq (.block 3 (.seq (.reg [ao 105 (.mv 103),
 ao 106 (.ia 4 101 103),
 ao 107 (.load true 4 106),
 .st (.eta 107 (.st qe)),
 ao 19 (.alloc [(.bool false), (.int .u64 0), (.int .u64 0), (.int .i64 0)]),
 ao 18 (.mv 105),
 an (.store 4 19 107)]) (.seq (.seq (.seq (.view [.sel [0, 7, 8, 9, 13, 14, 17, 18, 19, 101, 102, 103] [0, 1, 2, 3]]) (.sub (scOf qhr) qqx)) (.cond 132 (.seq (.reg [ao 6 (.mv (.c (.bool false)))]) (.ret)) (.skip))) (.seq (.seq (.reg [ao 133 (.mv 9),
 ao 134 (.mv 18),
 ao 135 (.slc 4 133 none (some 134)),
 ao 136 (.len false 135),
 ao 137 (.mv (.c (.int .i64 0)))]) (.block 4 (.seq (.view [.sel [0, 7, 8, 9, 13, 14, 17, 19, 101, 102, 103, 135, 136, 137] [0, 1, 2, 3]]) (.sub (.loop (scOf qes)) qqy)))) (.seq (.reg [ao 145 (.load true 4 19),
 ao 146 (.load true 3 14),
 .call (po 147 (.call 35 [145, 146])) 35 qjs]) (.cond 147 (.reg [ao 148 (.mv 17),
 ao 149 (.bin .add 148 (.c (.int .i64 1))),
 ao 17 (.mv 149)]) (.skip))))))) (.seq (.reg [ao 150 (.bin .add 103 (.c (.int .i64 1))),
 ao 103 (.mv 150)]) (.view [.sel [0, 7, 8, 9, 13, 14, 17, 101, 102, 103] [0, 1, 2]]))))
theorem qz5 : AC.ok Try.prog (TIof Try.prog) 202 0 (kret [.t 6] decB) qeu := qp (zA q1e (zA q1g (zA (qd.ok qnz) trivial)))
theorem qy5 (v0 v8 : List AV) (v13 : Bool) (v17 v102 v103 : Int) (Ai : Bool) (Aj Ak Al Am : Int) (An Ao : List UInt8) (Ap : Int) (a1 : List AV) (A2 : Bool) (A3 A4 : Int) (K : Ex → Env → Mem → Option Bool) : den 0 (kret [.t 6] decB) qeu (qlu v0 v8 v13 v17 v102 v103 Ai Aj Ak Al Am An Ao Ap a1 A2 A3 A4) (qlv v0 v8 v13 v17 v102 v103 Ai Aj Ak Al Am An Ao Ap a1 A2 A3 A4) K = qet v0 v8 v13 v17 v102 v103 Ai Aj Ak Al Am An Ao Ap a1 A2 A3 A4 (fun z_v17 z_v103 => K .norm (qlu v0 v8 v13 z_v17 v102 z_v103 Ai Aj Ak Al Am An Ao Ap a1 A2 A3 A4) (qlv v0 v8 v13 z_v17 v102 z_v103 Ai Aj Ak Al Am An Ao Ap a1 A2 A3 A4)) (qgr v0 v8 v13 Ai Aj Ak Al Am An Ao Ap K) := by kernel_rfl
theorem q1h (v0 v8 : List AV) (v13 : Bool) (v102 : Int) (Ai : Bool) (Aj Ak Al Am : Int) (An Ao : List UInt8) (Ap : Int) (a1 : List AV) (A2 : Bool) (A3 A4 : Int) (K : Ex → Env → Mem → Option Bool) : ∀ (n : Nat) (v17 v103 : Int), qgc (den 0 (kret [.t 6] decB) qeu) n (qlu v0 v8 v13 v17 v102 v103 Ai Aj Ak Al Am An Ao Ap a1 A2 A3 A4) (qlv v0 v8 v13 v17 v102 v103 Ai Aj Ak Al Am An Ao Ap a1 A2 A3 A4) K = qdz v0 v8 v13 v102 Ai Aj Ak Al Am An Ao Ap a1 A2 A3 A4 (qgr v0 v8 v13 Ai Aj Ak Al Am An Ao Ap K) n v17 v103 := by
  rw [qp2]
  intro n
  induction n with
  | zero => intros; rfl
  | succ n ih =>
 intro v17 v103
 exact (qy5 v0 v8 v13 v17 v102 v103 Ai Aj Ak Al Am An Ao Ap a1 A2 A3 A4 (itK (den 0 (kret [.t 6] decB) qeu) n K)).trans (congrArg (fun q => qet v0 v8 v13 v17 v102 v103 Ai Aj Ak Al Am An Ao Ap a1 A2 A3 A4 q (qgr v0 v8 v13 Ai Aj Ak Al Am An Ao Ap K)) (funext fun v17 => funext fun v103 => ih v17 v103))
def qqz := subE (R := Bool) qy4 fun t m K => qcj (bxC (m.s 2)) (qf (bxC (m.s 0)) (qdz (gL [t 0] 0) (gL [t 8] 0) (gB [t 13] 0) (gI [t 102] 0)) (arL (m.s 1))) (qgr (gL [t 0] 0) (gL [t 8] 0) (gB [t 13] 0) (gB (bxC (m.s 0)) 0) (gI (bxC (m.s 0)) 1) (gI (bxC (m.s 0)) 2) (gI (bxC (m.s 0)) 3) (gI (bxC (m.s 0)) 4) (gS (bxC (m.s 0)) 5) (gS (bxC (m.s 0)) 6) (gI (bxC (m.s 0)) 7) K) FU (gI [t 17] 0) (gI [t 103] 0)
theorem q1i : qdb Try.prog (TIof Try.prog) 202 0 (kret [.t 6] decB) (.loop (scOf qeu)) (qqz) :=
  qgd tabOk follows (qz5) (qy (by kernel_rfl)) fun t m K => q1h _ _ _ _ _ _ _ _ _ _ _ _ _ _ _ _ K FU _ _
def qga  (v0 : List AV) (v13 : Bool) (v17 : Int) (v25 : Bool) (v151 : List AV) (v152 v153 : Int) (Ai : Bool) (Aj Ak Al Am : Int) (An Ao : List UInt8) (Ap : Int) (K : Ex → Env → Mem → Option Bool) := (fun z_v26 => K (.exit 8) (qk [(0, (.sl 8 v0)), (7, (.ptr 0 0)), (13, (.bool v13)), (17, (.int .i64 v17)), (25, (.bool v25)), (26, (.bool z_v26)), (151, (.sl 4 v151)), (152, (.int .i64 v152)), (153, (.int .i64 v153))]) (qi [(some (.box true (qb Ai Aj Ak Al Am An Ao Ap)))]))
def qxe : Shp := ⟨[(0, .one (.l (.sl 8))), (7, .one (.ptr 0 0)), (13, .one (.l .b)), (17, .one (.l (.i .i64))), (24, .one (.ptr 1 0)), (25, .one (.l .b)), (26, .one (.l .b)), (151, .one (.l (.sl 4))), (152, .one (.l (.i .i64))), (153, .one (.l (.i .i64))), (173, .one (.l (.sl 8))), (174, .one (.l (.i .i64))), (175, .one (.l (.i .i64)))], [.box true (lk qa), .box true (lk qe)]⟩
def qk8 (v0 : List AV) (v13 : Bool) (v17 : Int) (v25 v26 : Bool) (v151 : List AV) (v152 v153 : Int) (v173 : List AV) (v174 v175 : Int) (Ai : Bool) (Aj Ak Al Am : Int) (An Ao : List UInt8) (Ap : Int) (Au : Bool) (Av Aw Ax : Int) : Env := qk [(0, (.sl 8 v0)), (7, (.ptr 0 0)), (13, (.bool v13)), (17, (.int .i64 v17)), (24, (.ptr 1 0)), (25, (.bool v25)), (26, (.bool v26)), (151, (.sl 4 v151)), (152, (.int .i64 v152)), (153, (.int .i64 v153)), (173, (.sl 8 v173)), (174, (.int .i64 v174)), (175, (.int .i64 v175))]
def qk9 (v0 : List AV) (v13 : Bool) (v17 : Int) (v25 v26 : Bool) (v151 : List AV) (v152 v153 : Int) (v173 : List AV) (v174 v175 : Int) (Ai : Bool) (Aj Ak Al Am : Int) (An Ao : List UInt8) (Ap : Int) (Au : Bool) (Av Aw Ax : Int) : Mem := qi [(some (.box true (qb Ai Aj Ak Al Am An Ao Ap))), (some (.box true (qc Au Av Aw Ax)))]
def qd5  (v0 : List AV) (v13 : Bool) (v17 : Int) (v25 v26 : Bool) (v151 : List AV) (v152 v153 : Int) (v173 : List AV) (v174 v175 : Int) (Ai : Bool) (Aj Ak Al Am : Int) (An Ao : List UInt8) (Ap : Int) (Au : Bool) (Av Aw Ax : Int) (next : Bool → Int → Option Bool) (kx8 : Bool → Option Bool) : Option Bool :=
  (bif (decide (v175 < v174)) then (oB (ixB v173 v175) fun y1 => (bif fitC qa y1.cells then (bif v26 then (next true (IntKind.i64.wrap (v175 + (1 : Int)))) else (oB (qkf Au Av Aw Ax (gB y1.cells 0) (gI y1.cells 1) (gI y1.cells 2) (gI y1.cells 3)) fun r2 => (next r2 (IntKind.i64.wrap (v175 + (1 : Int)))))) else none)) else (kx8 v26))
def qg5  (v0 : List AV) (v13 : Bool) (v17 : Int) (v25 : Bool) (v151 : List AV) (v152 v153 : Int) (v173 : List AV) (v174 : Int) (Ai : Bool) (Aj Ak Al Am : Int) (An Ao : List UInt8) (Ap : Int) (Au : Bool) (Av Aw Ax : Int) (kx8 : Bool → Option Bool) : Nat → Bool → Int → Option Bool
  | 0 => (fun _ _ => none)
  | n + 1 => (fun v26 v175 => qd5 v0 v13 v17 v25 v26 v151 v152 v153 v173 v174 v175 Ai Aj Ak Al Am An Ao Ap Au Av Aw Ax (qg5 v0 v13 v17 v25 v151 v152 v153 v173 v174 Ai Aj Ak Al Am An Ao Ap Au Av Aw Ax kx8 n) kx8)
def qfy := hull (qg5)
theorem qoq : qfy = qg5 := ql _
def qd6 : AC Bool :=
  .seq (.reg [ao 176 (.bin .lss 175 174)]) (.seq (.cond 176 (.skip) (.seq (.view [.sel [0, 7, 13, 17, 25, 26, 151, 152, 153] [0]]) (.exit 8))) (.seq (.block 9 (.seq (.reg [ao 177 (.ia 8 173 175),
 .st (.etac 177 qa),
 ao 178 (.load true 8 177),
 ao 28 (.alloc [(.bool false), (.int .u64 0), (.int .u64 0), (.int .i64 0), (.int .i64 0), (.str []), (.str []), (.int .i64 0)]),
 an (.store 8 28 178)]) (.reg [ao 179 (.mv 26),
 ao 180 (.mv 179),
 ag 181 180 false (.load true 4 24),
 ag 182 180 false (.fa 0 28),
 ag 183 180 false (.load true 4 182),
 .call (pg 184 180 false (.call 36 [181, 183])) 36 qnk,
 ao 185 (.pick 180 (.c (.bool true)) 184),
 ao 26 (.mv 185)]))) (.seq (.reg [ao 186 (.bin .add 175 (.c (.int .i64 1))),
 ao 175 (.mv 186)]) (.view [.sel [0, 7, 13, 17, 24, 25, 26, 151, 152, 153, 173, 174, 175] [0, 1]]))))
theorem qy6 : AC.ok Try.prog (TIof Try.prog) 202 0 (kret [.t 6] decB) qd6 := qp (zA (qd.ok qt5) trivial)
theorem qxf (v0 : List AV) (v13 : Bool) (v17 : Int) (v25 v26 : Bool) (v151 : List AV) (v152 v153 : Int) (v173 : List AV) (v174 v175 : Int) (Ai : Bool) (Aj Ak Al Am : Int) (An Ao : List UInt8) (Ap : Int) (Au : Bool) (Av Aw Ax : Int) (K : Ex → Env → Mem → Option Bool) : den 0 (kret [.t 6] decB) qd6 (qk8 v0 v13 v17 v25 v26 v151 v152 v153 v173 v174 v175 Ai Aj Ak Al Am An Ao Ap Au Av Aw Ax) (qk9 v0 v13 v17 v25 v26 v151 v152 v153 v173 v174 v175 Ai Aj Ak Al Am An Ao Ap Au Av Aw Ax) K = qd5 v0 v13 v17 v25 v26 v151 v152 v153 v173 v174 v175 Ai Aj Ak Al Am An Ao Ap Au Av Aw Ax (fun z_v26 z_v175 => K .norm (qk8 v0 v13 v17 v25 z_v26 v151 v152 v153 v173 v174 z_v175 Ai Aj Ak Al Am An Ao Ap Au Av Aw Ax) (qk9 v0 v13 v17 v25 z_v26 v151 v152 v153 v173 v174 z_v175 Ai Aj Ak Al Am An Ao Ap Au Av Aw Ax)) (qga v0 v13 v17 v25 v151 v152 v153 Ai Aj Ak Al Am An Ao Ap K) := by kernel_rfl
theorem qz6 (v0 : List AV) (v13 : Bool) (v17 : Int) (v25 : Bool) (v151 : List AV) (v152 v153 : Int) (v173 : List AV) (v174 : Int) (Ai : Bool) (Aj Ak Al Am : Int) (An Ao : List UInt8) (Ap : Int) (Au : Bool) (Av Aw Ax : Int) (K : Ex → Env → Mem → Option Bool) : ∀ (n : Nat) (v26 : Bool) (v175 : Int), qgc (den 0 (kret [.t 6] decB) qd6) n (qk8 v0 v13 v17 v25 v26 v151 v152 v153 v173 v174 v175 Ai Aj Ak Al Am An Ao Ap Au Av Aw Ax) (qk9 v0 v13 v17 v25 v26 v151 v152 v153 v173 v174 v175 Ai Aj Ak Al Am An Ao Ap Au Av Aw Ax) K = qfy v0 v13 v17 v25 v151 v152 v153 v173 v174 Ai Aj Ak Al Am An Ao Ap Au Av Aw Ax (qga v0 v13 v17 v25 v151 v152 v153 Ai Aj Ak Al Am An Ao Ap K) n v26 v175 := by
  rw [qoq]
  intro n
  induction n with
  | zero => intros; rfl
  | succ n ih =>
 intro v26 v175
 exact (qxf v0 v13 v17 v25 v26 v151 v152 v153 v173 v174 v175 Ai Aj Ak Al Am An Ao Ap Au Av Aw Ax (itK (den 0 (kret [.t 6] decB) qd6) n K)).trans (congrArg (fun q => qd5 v0 v13 v17 v25 v26 v151 v152 v153 v173 v174 v175 Ai Aj Ak Al Am An Ao Ap Au Av Aw Ax q (qga v0 v13 v17 v25 v151 v152 v153 Ai Aj Ak Al Am An Ao Ap K)) (funext fun v26 => funext fun v175 => ih v26 v175))
def qp3 := subE (R := Bool) qxe fun t m K => qh (bxC (m.s 1)) (qf (bxC (m.s 0)) (qfy (gL [t 0] 0) (gB [t 13] 0) (gI [t 17] 0) (gB [t 25] 0) (gL [t 151] 0) (gI [t 152] 0) (gI [t 153] 0) (gL [t 173] 0) (gI [t 174] 0))) (qga (gL [t 0] 0) (gB [t 13] 0) (gI [t 17] 0) (gB [t 25] 0) (gL [t 151] 0) (gI [t 152] 0) (gI [t 153] 0) (gB (bxC (m.s 0)) 0) (gI (bxC (m.s 0)) 1) (gI (bxC (m.s 0)) 2) (gI (bxC (m.s 0)) 3) (gI (bxC (m.s 0)) 4) (gS (bxC (m.s 0)) 5) (gS (bxC (m.s 0)) 6) (gI (bxC (m.s 0)) 7) K) FU (gB [t 26] 0) (gI [t 175] 0)
theorem qz7 : qdb Try.prog (TIof Try.prog) 202 0 (kret [.t 6] decB) (.loop (scOf qd6)) (qp3) :=
  qgd tabOk follows (qy6) (qy (by kernel_rfl)) fun t m K => qz6 _ _ _ _ _ _ _ _ _ _ _ _ _ _ _ _ _ _ _ _ _ K FU _ _
def qgb  (v13 : Bool) (v17 : Int) (K : Ex → Env → Mem → Option Bool) := (fun (_ : Unit) => K (.exit 6) (qk [(13, (.bool v13)), (17, (.int .i64 v17))]) (qi []))
def qxg : Shp := ⟨[(0, .one (.l (.sl 8))), (7, .one (.ptr 0 0)), (13, .one (.l .b)), (17, .one (.l (.i .i64))), (151, .one (.l (.sl 4))), (152, .one (.l (.i .i64))), (153, .one (.l (.i .i64)))], [.box true (lk qa)]⟩
def qla (v0 : List AV) (v13 : Bool) (v17 : Int) (v151 : List AV) (v152 v153 : Int) (Ai : Bool) (Aj Ak Al Am : Int) (An Ao : List UInt8) (Ap : Int) : Env := qk [(0, (.sl 8 v0)), (7, (.ptr 0 0)), (13, (.bool v13)), (17, (.int .i64 v17)), (151, (.sl 4 v151)), (152, (.int .i64 v152)), (153, (.int .i64 v153))]
def qlb (v0 : List AV) (v13 : Bool) (v17 : Int) (v151 : List AV) (v152 v153 : Int) (Ai : Bool) (Aj Ak Al Am : Int) (An Ao : List UInt8) (Ap : Int) : Mem := qi [(some (.box true (qb Ai Aj Ak Al Am An Ao Ap)))]
def qd7  (v0 : List AV) (v13 : Bool) (v17 : Int) (v151 : List AV) (v152 v153 : Int) (Ai : Bool) (Aj Ak Al Am : Int) (An Ao : List UInt8) (Ap : Int) (next : Int → Option Bool) (kx6 : Unit → Option Bool) : Option Bool :=
  (bif (decide (v153 < v152)) then (oB (ixB v151 v153) fun y1 => (bif fitC qe y1.cells then (bif (((gB y1.cells 0) == Ai) && (((gI y1.cells 1) == Aj) && (((gI y1.cells 2) == Ak) && (((gI y1.cells 3) == Al) && true)))) then (next (IntKind.i64.wrap (v153 + (1 : Int)))) else (oB (qrh (gB y1.cells 0) (gI y1.cells 1) (gI y1.cells 2) (IntKind.i64.wrap ((gI y1.cells 3) - (1 : Int)))) fun r2 => (oB (qfc v0 Ai Aj Ak Al) fun r3 => (qfy v0 v13 v17 r2.2 v151 v152 v153 r3 (r3.length : Int) Ai Aj Ak Al Am An Ao Ap (gB r2.1.cells 0) (gI r2.1.cells 1) (gI r2.1.cells 2) (gI r2.1.cells 3) (fun v26q4 => (bif ((!r2.2) || (!v26q4)) then (some false) else (next (IntKind.i64.wrap (v153 + (1 : Int)))))) FU false (0 : Int))))) else none)) else (kx6 ()))
def qg6  (v0 : List AV) (v13 : Bool) (v17 : Int) (v151 : List AV) (v152 : Int) (Ai : Bool) (Aj Ak Al Am : Int) (An Ao : List UInt8) (Ap : Int) (kx6 : Unit → Option Bool) : Nat → Int → Option Bool
  | 0 => (fun _ => none)
  | n + 1 => (fun v153 => qd7 v0 v13 v17 v151 v152 v153 Ai Aj Ak Al Am An Ao Ap (qg6 v0 v13 v17 v151 v152 Ai Aj Ak Al Am An Ao Ap kx6 n) kx6)
def qdn := hull (qg6)
theorem qor : qdn = qg6 := ql _
def qd8 : AC Bool :=
  .seq (.reg [ao 154 (.bin .lss 153 152)]) (.seq (.cond 154 (.skip) (.seq (.view [.sel [13, 17] []]) (.exit 6))) (.seq (.block 7 (.seq (.reg [ao 155 (.ia 4 151 153),
 .st (.etac 155 qe),
 ao 156 (.load true 4 155),
 ao 23 (.alloc [(.bool false), (.int .u64 0), (.int .u64 0), (.int .i64 0)]),
 an (.store 4 23 156)]) (.seq (.seq (.reg [ao 157 (.load true 4 23),
 ao 158 (.fa 0 7),
 ao 159 (.load true 4 158),
 ao 160 (.eq false true [.b, (.i .u64), (.i .u64), (.i .i64)] 157 159)]) (.cond 160 (.exit 7) (.skip))) (.seq (.reg [ao 162 (.fa 0 23),
 ao 163 (.load true 3 162),
 ao 164 (.fa 3 23),
 ao 165 (.load false 1 164),
 ao 166 (.bin .sub 165 (.c (.int .i64 1))),
 .call (po 167 (.call 41 [163, 166])) 41 qzk,
 ao 161 (.mv 167),
 ao 168 (.ext 161 0),
 ao 169 (.ext 161 1),
 ao 24 (.alloc [(.bool false), (.int .u64 0), (.int .u64 0), (.int .i64 0)]),
 an (.store 4 24 168),
 ao 25 (.mv 169)]) (.seq (.reg [ao 26 (.mv (.c (.bool false)))]) (.seq (.seq (.reg [ao 170 (.mv 0),
 ao 171 (.fa 0 7),
 ao 172 (.load true 4 171),
 .callc (po 173 (.call 30 [170, 172])) 30 qmy,
 ao 174 (.len false 173),
 ao 175 (.mv (.c (.int .i64 0)))]) (.block 8 (.seq (.view [.sel [0, 7, 13, 17, 24, 25, 26, 151, 152, 153, 173, 174, 175] [0, 2]]) (.sub (.loop (scOf qd6)) qp3)))) (.seq (.reg [ao 187 (.mv 25),
 ao 188 (.un .not 187),
 ao 189 (.mv 188),
 .grp 189 false [(pg 190 189 false (.mv 26)), (pg 191 189 false (.un .not 190))] 192 191]) (.cond 192 (.seq (.reg [ao 6 (.mv (.c (.bool false)))]) (.ret)) (.skip))))))))) (.seq (.reg [ao 193 (.bin .add 153 (.c (.int .i64 1))),
 ao 153 (.mv 193)]) (.view [.sel [0, 7, 13, 17, 151, 152, 153] [0]]))))
theorem qy7 : AC.ok Try.prog (TIof Try.prog) 202 0 (kret [.t 6] decB) qd8 := qp (zA (qd.ok qbdm) (zA (qd.ok qst) (zA qz7 trivial)))
theorem qxh (v0 : List AV) (v13 : Bool) (v17 : Int) (v151 : List AV) (v152 v153 : Int) (Ai : Bool) (Aj Ak Al Am : Int) (An Ao : List UInt8) (Ap : Int) (K : Ex → Env → Mem → Option Bool) : den 0 (kret [.t 6] decB) qd8 (qla v0 v13 v17 v151 v152 v153 Ai Aj Ak Al Am An Ao Ap) (qlb v0 v13 v17 v151 v152 v153 Ai Aj Ak Al Am An Ao Ap) K = qd7 v0 v13 v17 v151 v152 v153 Ai Aj Ak Al Am An Ao Ap (fun z_v153 => K .norm (qla v0 v13 v17 v151 v152 z_v153 Ai Aj Ak Al Am An Ao Ap) (qlb v0 v13 v17 v151 v152 z_v153 Ai Aj Ak Al Am An Ao Ap)) (qgb v13 v17 K) := by kernel_rfl
theorem qz8 (v0 : List AV) (v13 : Bool) (v17 : Int) (v151 : List AV) (v152 : Int) (Ai : Bool) (Aj Ak Al Am : Int) (An Ao : List UInt8) (Ap : Int) (K : Ex → Env → Mem → Option Bool) : ∀ (n : Nat) (v153 : Int), qgc (den 0 (kret [.t 6] decB) qd8) n (qla v0 v13 v17 v151 v152 v153 Ai Aj Ak Al Am An Ao Ap) (qlb v0 v13 v17 v151 v152 v153 Ai Aj Ak Al Am An Ao Ap) K = qdn v0 v13 v17 v151 v152 Ai Aj Ak Al Am An Ao Ap (qgb v13 v17 K) n v153 := by
  rw [qor]
  intro n
  induction n with
  | zero => intros; rfl
  | succ n ih =>
 intro v153
 exact (qxh v0 v13 v17 v151 v152 v153 Ai Aj Ak Al Am An Ao Ap (itK (den 0 (kret [.t 6] decB) qd8) n K)).trans (congrArg (fun q => qd7 v0 v13 v17 v151 v152 v153 Ai Aj Ak Al Am An Ao Ap q (qgb v13 v17 K)) (funext fun v153 => ih v153))
def qp4 := subE (R := Bool) qxg fun t m K => qf (bxC (m.s 0)) (qdn (gL [t 0] 0) (gB [t 13] 0) (gI [t 17] 0) (gL [t 151] 0) (gI [t 152] 0)) (qgb (gB [t 13] 0) (gI [t 17] 0) K) FU (gI [t 153] 0)
theorem qz9 : qdb Try.prog (TIof Try.prog) 202 0 (kret [.t 6] decB) (.loop (scOf qd8)) (qp4) :=
  qgd tabOk follows (qy7) (qy (by kernel_rfl)) fun t m K => qz8 _ _ _ _ _ _ _ _ _ _ _ _ _ K FU _
def qgi : Shp := ⟨[(0, .one (.l (.sl 8))), (1, .one (.l (.i .u8))), (2, .one (.l (.i .u64)))], []⟩
def qom (v0 : List AV) (v1 v2 : Int) : Option Bool :=
  (oB (qrc v0) fun r1 => (oB (qmq r1) fun r2 => (bif ((r2 != (0 : Int)) || ((r1.length : Int) == (0 : Int))) then (oB (qhk) fun r3 => (some r3)) else (bif decide ((r1.length : Int) ≠ 0) then (oB (ixB r1 ((IntKind.i64.wrap v1).tmod (r1.length : Int))) fun y4 => (bif fitC qa y4.cells then (oB (qkx r1 (gB y4.cells 0) (gI y4.cells 1) (gI y4.cells 2) (gI y4.cells 3)) fun r5 => (bif ((gI y4.cells 4) != (1 : Int)) then (qjq r5 (fun v6q6 => (some v6q6))) else (bif decide ((([] : List AV).length + r5.length) * 32 ≤ 140737488355328) then (oB (qfc r1 (gB y4.cells 0) (gI y4.cells 1) (gI y4.cells 2) (gI y4.cells 3)) fun r7 => (bif (hd r5 (r5.length) && true) then (qge r1 v2 r5 r7 (r7.length : Int) (gB y4.cells 0) (gI y4.cells 1) (gI y4.cells 2) (gI y4.cells 3) (gI y4.cells 4) (gS y4.cells 5) (gS y4.cells 6) (gI y4.cells 7) (fun a1q8 => (oB (qlp (gB y4.cells 0) (gI y4.cells 1) (gI y4.cells 2) (gI y4.cells 3)) fun r9 => (bif (hd a1q8 (a1q8.length) && true) then (qgf r1 v2 r5 r9.2 (gB y4.cells 0) (gI y4.cells 1) (gI y4.cells 2) (gI y4.cells 3) (gI y4.cells 4) (gS y4.cells 5) (gS y4.cells 6) (gI y4.cells 7) a1q8 (gB r9.1.cells 0) (gI r9.1.cells 1) (gI r9.1.cells 2) (fun b2_0q10 b2_1q11 b2_2q12 => (bif (hd a1q8 (a1q8.length) && (hd a1q8 (a1q8.length) && true)) then (qdz r1 r5 r9.2 (a1q8.length : Int) (gB y4.cells 0) (gI y4.cells 1) (gI y4.cells 2) (gI y4.cells 3) (gI y4.cells 4) (gS y4.cells 5) (gS y4.cells 6) (gI y4.cells 7) a1q8 b2_0q10 b2_1q11 b2_2q12 (fun v17q13 => (qdn r1 r9.2 v17q13 r5 (r5.length : Int) (gB y4.cells 0) (gI y4.cells 1) (gI y4.cells 2) (gI y4.cells 3) (gI y4.cells 4) (gS y4.cells 5) (gS y4.cells 6) (gI y4.cells 7) (fun (_ : Unit) => (bif (r9.2 && (v17q13 == (1 : Int))) then (oB (qhk) fun r14 => (some r14)) else (some false))) FU (0 : Int))) FU (0 : Int) (0 : Int)) else none))) else none))) FU (0 : Int) r5) else none)) else none))) else none)) else none))))
def qgx := hull qom
theorem qtb : qgx = qom := ql _
def qon : AC Bool :=
  .seq (.reg [ao 6 (.mv (.c (.bool false)))]) (.seq (.reg [ao 29 (.mv 0),
 .callc (po 30 (.call 10 [29])) 10 q10,
 ao 0 (.mv 30)]) (.seq (.seq (.reg [ao 31 (.mv 0),
 .call (po 32 (.call 11 [31])) 11 qtw,
 ao 33 (.bin .neq 32 (.c (.int .i64 0))),
 ao 34 (.mv 33),
 .grp 34 false [(pg 35 34 false (.mv 0)), (pg 36 34 false (.len false 35)), (pg 37 34 false (.bin .eql 36 (.c (.int .i64 0))))] 38 37]) (.cond 38 (.seq (.reg [.call (po 39 (.call 13 [])) 13 qno,
 ao 6 (.mv 39)]) (.ret)) (.skip))) (.seq (.reg [ao 40 (.mv 0),
 ao 41 (.mv 1),
 ao 42 (.conv (.int .i64) 41),
 ao 43 (.mv 0),
 ao 44 (.len false 43),
 ao 45 (.bin .rem 42 44),
 ao 46 (.ia 8 40 45),
 .st (.etac 46 qa),
 ao 47 (.load true 8 46),
 ao 7 (.alloc [(.bool false), (.int .u64 0), (.int .u64 0), (.int .i64 0), (.int .i64 0), (.str []), (.str []), (.int .i64 0)]),
 an (.store 8 7 47)]) (.seq (.reg [ao 48 (.mv 0),
 ao 49 (.fa 0 7),
 ao 50 (.load true 4 49),
 .callc (po 51 (.call 33 [48, 50])) 33 qvr,
 ao 8 (.mv 51)]) (.seq (.seq (.reg [ao 52 (.fa 4 7),
 ao 53 (.load false 1 52),
 ao 54 (.bin .neq 53 (.c (.int .i64 1)))]) (.cond 54 (.seq (.seq (.view [.sel [8] []]) (.sub (scOf qhn) qqt)) (.ret)) (.skip))) (.seq (.reg [ao 9 (.mv (.c .nils))]) (.seq (.reg [ao 61 (.mv 9),
 ao 62 (.mv 8),
 ao 63 (.app 4 32 61 62),
 ao 9 (.mv 63)]) (.seq (.seq (.reg [ao 64 (.mv 0),
 ao 65 (.fa 0 7),
 ao 66 (.load true 4 65),
 .callc (po 67 (.call 30 [64, 66])) 30 qmy,
 ao 68 (.len false 67),
 ao 69 (.mv (.c (.int .i64 0)))]) (.block 0 (.seq (.view [.sel [0, 2, 7, 8, 9, 67, 68, 69] [0, 1]]) (.sub (.loop (scOf qeq)) qqu)))) (.seq (.reg [ao 80 (.fa 0 7),
 ao 81 (.load true 4 80),
 .call (po 82 (.call 38 [81])) 38 q02,
 ao 79 (.mv 82),
 ao 83 (.ext 79 0),
 ao 84 (.ext 79 1),
 ao 12 (.alloc [(.bool false), (.int .u64 0), (.int .u64 0), (.bool false), (.int .u64 0), (.int .u64 0)]),
 an (.store 6 12 83),
 ao 13 (.mv 84)]) (.seq (.reg [ao 85 (.fa 0 12),
 ao 86 (.load true 3 85),
 ao 14 (.alloc [(.bool false), (.int .u64 0), (.int .u64 0)]),
 an (.store 3 14 86)]) (.seq (.seq (.view [.sel [0, 2, 7, 8, 9, 13, 14] [0, 1, 3]]) (.sub (scOf qhq) qqw)) (.seq (.reg [ao 17 (.mv (.c (.int .i64 0)))]) (.seq (.seq (.reg [ao 101 (.mv 9),
 ao 102 (.len false 101),
 ao 103 (.mv (.c (.int .i64 0)))]) (.block 2 (.seq (.view [.frz [1], .sel [0, 7, 8, 9, 13, 14, 17, 101, 102, 103] [0, 1, 2]]) (.sub (.loop (scOf qeu)) qqz)))) (.seq (.seq (.reg [ao 151 (.mv 8),
 ao 152 (.len false 151),
 ao 153 (.mv (.c (.int .i64 0)))]) (.block 6 (.seq (.view [.sel [0, 7, 13, 17, 151, 152, 153] [0]]) (.sub (.loop (scOf qd8)) qp4)))) (.seq (.reg [ao 194 (.mv 13),
 ao 195 (.mv 194),
 .grp 195 true [(pg 196 195 true (.mv 17)), (pg 197 195 true (.bin .eql 196 (.c (.int .i64 1))))] 198 197,
 ao 199 (.mv 198),
 .call (pg 200 199 true (.call 13 [])) 13 qno,
 ao 201 (.pick 199 200 (.c (.bool false))),
 ao 6 (.mv 201)]) (.ret))))))))))))))))
theorem q4q : AC.ok Try.prog (TIof Try.prog) 202 0 (kret [.t 6] decB) qon := qp (zA (qd.ok qbiv) (zA (qd.ok q42) (zA (qd.ok qt8) (zA (qd.ok q78) (zA q06 (zA (qd.ok qst) (zA q08 (zA (qd.ok qbhk) (zA q1c (zA q1i (zA qz9 (zA (qd.ok qt8) trivial))))))))))))
theorem q5n (v0 : List AV) (v1 v2 : Int) : den 0 (kret [.t 6] decB) qon (qk [(0, (.sl 8 v0)), (1, (.int .u8 v1)), (2, (.int .u64 v2))]) (qi []) (kend (kret [.t 6] decB)) = qgx v0 v1 v2 := by
  rw [qtb]; kernel_rfl
theorem q5o : cFn (TIof Try.prog) Try.f9 = some ⟨202, [.t 6], scOf qon⟩ := by kernel_rfl
def q5p (xs : List AV) : Option Bool := qgx (gL [(qm xs) 0] 0) (gI [(qm xs) 1] 0) (gI [(qm xs) 2] 0)
def q3j {R : Type} : List AV → (AV → Option R) → Option R := entF qgi q5p AV.bool
theorem q5q {R : Type} : qd Try.prog 9 (q3j (R := R)) :=
  qce tabOk follows Try.func9 (by kernel_rfl) q5o hdeB q4q (qy (by kernel_rfl)) fun xs => q5n _ _ _
end
end Go.Proofs.Ytmjdngnagiloeaa.Dn
