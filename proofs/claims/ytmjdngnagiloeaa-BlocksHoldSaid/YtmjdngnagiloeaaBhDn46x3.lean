import Derived.Test.YtmjdngnagiloeaaProg
import Derived.Test.YtmjdngnagiloeaaBhLibD
import Derived.Test.YtmjdngnagiloeaaBhDn46x2
set_option linter.all false
namespace Go.Proofs.Ytmjdngnagiloeaa.Dn
open Go Go.Pev
set_option linter.unusedVariables false
set_option linter.unusedSimpArgs false
set_option maxRecDepth 100000
set_option maxHeartbeats 4000000
def qf5  (v0 : List AV) (Ai : Bool) (Aj Ak : Int) (K : Ex → Env → Mem → Option Bool) := (fun z_v5 => K (.exit 0) (qj [(0, (.sl 8 v0)), (3, (.ptr 0 0)), (5, (.int .i64 z_v5))]) (qh [(some (.box true (qbr Ai Aj Ak)))]))
def qxd : Shp := ⟨[(0, .one (.l (.sl 8))), (3, .one (.ptr 0 0)), (5, .one (.l (.i .i64))), (21, .one (.l (.sl 8))), (22, .one (.l (.i .i64))), (23, .one (.l (.i .i64)))], [.box true (lk qd2)]⟩
def qkw (v0 : List AV) (v5 : Int) (v21 : List AV) (v22 v23 : Int) (Ai : Bool) (Aj Ak : Int) : Env := qj [(0, (.sl 8 v0)), (3, (.ptr 0 0)), (5, (.int .i64 v5)), (21, (.sl 8 v21)), (22, (.int .i64 v22)), (23, (.int .i64 v23))]
def qkx (v0 : List AV) (v5 : Int) (v21 : List AV) (v22 v23 : Int) (Ai : Bool) (Aj Ak : Int) : Mem := qh [(some (.box true (qbr Ai Aj Ak)))]
noncomputable section
def qeh  (v0 : List AV) (v5 : Int) (v21 : List AV) (v22 v23 : Int) (Ai : Bool) (Aj Ak : Int) (next : Int → Int → Option Bool) (kx0 : Int → Option Bool) : Option Bool :=
  (bif (decide (v23 < v22)) then (oB (ixB v21 v23) fun y1 => (bif fitC qa y1.cells then (oB (qf2 (gB y1.cells 0) (gI y1.cells 1) (gI y1.cells 2) (gI y1.cells 3) Ai Aj Ak) fun r2 => (bif r2 then (next (IntKind.i64.wrap (v5 + (1 : Int))) (IntKind.i64.wrap (v23 + (1 : Int)))) else (next v5 (IntKind.i64.wrap (v23 + (1 : Int)))))) else none)) else (kx0 v5))
def qgz  (v0 v21 : List AV) (v22 : Int) (Ai : Bool) (Aj Ak : Int) (kx0 : Int → Option Bool) : Nat → Int → Int → Option Bool
  | 0 => (fun _ _ => none)
  | n + 1 => (fun v5 v23 => qeh v0 v5 v21 v22 v23 Ai Aj Ak (qgz v0 v21 v22 Ai Aj Ak kx0 n) kx0)
def qfz := hull (qgz)
theorem qoo : qfz = qgz := qk _
def qei : AC Bool :=
  .seq (.reg [ao 24 (.bin .lss 23 22)]) (.seq (.cond 24 (.skip) (.seq (.view [.sel [0, 3, 5] [0]]) (.exit 0))) (.seq (.block 1 (.seq (.reg [ao 25 (.ia 8 21 23),
 .st (.etac 25 qa),
 ao 26 (.load true 8 25),
 ao 7 (.alloc [(.bool false), (.int .u64 0), (.int .u64 0), (.int .i64 0), (.int .i64 0), (.str []), (.str []), (.int .i64 0)]),
 an (.store 8 7 26)]) (.seq (.reg [ao 27 (.fa 0 7),
 ao 28 (.load true 4 27),
 ao 29 (.load true 3 3),
 .call (po 30 (.call 35 [28, 29])) 35 qi3]) (.cond 30 (.reg [ao 31 (.mv 5),
 ao 32 (.bin .add 31 (.c (.int .i64 1))),
 ao 5 (.mv 32)]) (.skip))))) (.seq (.reg [ao 33 (.bin .add 23 (.c (.int .i64 1))),
 ao 23 (.mv 33)]) (.view [.sel [0, 3, 5, 21, 22, 23] [0]]))))
theorem qx6 : AC.ok Try.prog (TIof Try.prog) 110 0 (kret [.t 4] decB) qei := qo (zA (qd.ok qmw) trivial)
theorem qxe (v0 : List AV) (v5 : Int) (v21 : List AV) (v22 v23 : Int) (Ai : Bool) (Aj Ak : Int) (K : Ex → Env → Mem → Option Bool) : den 0 (kret [.t 4] decB) qei (qkw v0 v5 v21 v22 v23 Ai Aj Ak) (qkx v0 v5 v21 v22 v23 Ai Aj Ak) K = qeh v0 v5 v21 v22 v23 Ai Aj Ak (fun z_v5 z_v23 => K .norm (qkw v0 z_v5 v21 v22 z_v23 Ai Aj Ak) (qkx v0 z_v5 v21 v22 z_v23 Ai Aj Ak)) (qf5 v0 Ai Aj Ak K) := by kernel_rfl
theorem qy2 (v0 v21 : List AV) (v22 : Int) (Ai : Bool) (Aj Ak : Int) (K : Ex → Env → Mem → Option Bool) : ∀ (n : Nat) (v5 v23 : Int), qg4 (den 0 (kret [.t 4] decB) qei) n (qkw v0 v5 v21 v22 v23 Ai Aj Ak) (qkx v0 v5 v21 v22 v23 Ai Aj Ak) K = qfz v0 v21 v22 Ai Aj Ak (qf5 v0 Ai Aj Ak K) n v5 v23 := by
  rw [qoo]
  intro n
  induction n with
  | zero => intros; rfl
  | succ n ih =>
 intro v5 v23
 exact (qxe v0 v5 v21 v22 v23 Ai Aj Ak (itK (den 0 (kret [.t 4] decB) qei) n K)).trans (congrArg (fun q => qeh v0 v5 v21 v22 v23 Ai Aj Ak q (qf5 v0 Ai Aj Ak K)) (funext fun v5 => funext fun v23 => ih v5 v23))
def qpi := subE (R := Bool) qxd fun t m K => qc2 (bxC (m.s 0)) (qfz (gL [t 0] 0) (gL [t 21] 0) (gI [t 22] 0)) (qf5 (gL [t 0] 0) (gB (bxC (m.s 0)) 0) (gI (bxC (m.s 0)) 1) (gI (bxC (m.s 0)) 2) K) FU (gI [t 5] 0) (gI [t 23] 0)
theorem qy3 : qdh Try.prog (TIof Try.prog) 110 0 (kret [.t 4] decB) (.loop (scOf qei)) (qpi) :=
  qie tabOk follows (qx6) (qbh (by kernel_rfl)) fun t m K => qy2 _ _ _ _ _ _ K FU _ _
def qop  (v0 : List AV) (v5 v10 : Int) (Ai : Bool) (Aj Ak : Int) (Au : Bool) (Av Aw Ax Bv : Int) (Bw Bx : List UInt8) (By : Int) (K : Ex → Env → Mem → Option Bool) := (fun z_v67 => K .norm (qj [(0, (.sl 8 v0)), (3, (.ptr 0 0)), (5, (.int .i64 v5)), (8, (.ptr 1 0)), (10, (.int .i64 v10)), (67, (.bool z_v67))]) (qh [(some (.box true (qbr Ai Aj Ak))), (some (.box true (qb Au Av Aw Ax Bv Bw Bx By)))]))
def qxf : Shp := ⟨[(0, .one (.l (.sl 8))), (3, .one (.ptr 0 0)), (5, .one (.l (.i .i64))), (8, .one (.ptr 1 0)), (10, .one (.l (.i .i64))), (11, .one (.ptr 2 0)), (12, .one (.l .b))], [.box true (lk qd2), .box true (lk qa), .box true (lk qa)]⟩
def qle  (v0 : List AV) (v5 v10 : Int) (v12 Ai : Bool) (Aj Ak : Int) (Au : Bool) (Av Aw Ax Bv : Int) (Bw Bx : List UInt8) (By : Int) (A2 : Bool) (A3 A4 A5 Be : Int) (Bf Bg : List UInt8) (Bh : Int) (kn : Bool → Option Bool) : Option Bool :=
  (bif ((!v12) || (!((A2 == Au) && ((A3 == Av) && ((A4 == Aw) && ((A5 == Ax) && ((Be == Bv) && ((Bf == Bw) && ((Bg == Bx) && ((Bh == By) && true)))))))))) then (kn true) else (oB (qf2 Au Av Aw Ax Ai Aj Ak) fun r1 => (kn (!r1))))
def qi0 := hull (qle)
theorem qoq : qi0 = qle := qk _
def qg0 : AC Bool :=
  .seq (.reg [ao 54 (.mv 12),
 ao 55 (.un .not 54),
 ao 56 (.mv 55),
 .grp 56 false [(pg 57 56 false (.load true 8 11)), (pg 58 56 false (.load true 8 8)), (pg 59 56 false (.eq true true [.b, (.i .u64), (.i .u64), (.i .i64), (.i .i64), .s, .s, (.i .i64)] 57 58))] 60 59,
 ao 61 (.mv 60),
 ag 62 61 false (.fa 0 8),
 ag 63 61 false (.load true 4 62),
 ag 64 61 false (.load true 3 3),
 .call (pg 65 61 false (.call 35 [63, 64])) 35 qi3,
 ag 66 61 false (.un .not 65),
 ao 67 (.pick 61 (.c (.bool true)) 66)]) (.view [.sel [0, 3, 5, 8, 10, 67] [0, 1]])
theorem qx7 : AC.ok Try.prog (TIof Try.prog) 110 0 (kret [.t 4] decB) qg0 := qo (zA (qd.ok qmw) trivial)
theorem qy4 (v0 : List AV) (v5 v10 : Int) (v12 Ai : Bool) (Aj Ak : Int) (Au : Bool) (Av Aw Ax Bv : Int) (Bw Bx : List UInt8) (By : Int) (A2 : Bool) (A3 A4 A5 Be : Int) (Bf Bg : List UInt8) (Bh : Int) (K : Ex → Env → Mem → Option Bool) : den 0 (kret [.t 4] decB) qg0 (qj [(0, (.sl 8 v0)), (3, (.ptr 0 0)), (5, (.int .i64 v5)), (8, (.ptr 1 0)), (10, (.int .i64 v10)), (11, (.ptr 2 0)), (12, (.bool v12))]) (qh [(some (.box true (qbr Ai Aj Ak))), (some (.box true (qb Au Av Aw Ax Bv Bw Bx By))), (some (.box true (qb A2 A3 A4 A5 Be Bf Bg Bh)))]) K = qi0 v0 v5 v10 v12 Ai Aj Ak Au Av Aw Ax Bv Bw Bx By A2 A3 A4 A5 Be Bf Bg Bh (qop v0 v5 v10 Ai Aj Ak Au Av Aw Ax Bv Bw Bx By K) := by
  rw [qoq]; kernel_rfl
def qpj := subE (R := Bool) qxf fun t m K => qe (bxC (m.s 2)) (qe (bxC (m.s 1)) (qc2 (bxC (m.s 0)) (qi0 (gL [t 0] 0) (gI [t 5] 0) (gI [t 10] 0) (gB [t 12] 0)))) (qop (gL [t 0] 0) (gI [t 5] 0) (gI [t 10] 0) (gB (bxC (m.s 0)) 0) (gI (bxC (m.s 0)) 1) (gI (bxC (m.s 0)) 2) (gB (bxC (m.s 1)) 0) (gI (bxC (m.s 1)) 1) (gI (bxC (m.s 1)) 2) (gI (bxC (m.s 1)) 3) (gI (bxC (m.s 1)) 4) (gS (bxC (m.s 1)) 5) (gS (bxC (m.s 1)) 6) (gI (bxC (m.s 1)) 7) K)
theorem qy5 : qdh Try.prog (TIof Try.prog) 110 0 (kret [.t 4] decB) (scOf qg0) (qpj) :=
  qke tabOk follows (qx7) (qbh (by kernel_rfl)) fun t m K => qy4 _ _ _ _ _ _ _ _ _ _ _ _ _ _ _ _ _ _ _ _ _ _ _ K
def qor  (v0 : List AV) (v5 v10 : Int) (v14 Ai : Bool) (Aj Ak : Int) (Au : Bool) (Av Aw Ax Bv : Int) (Bw Bx : List UInt8) (By : Int) (A2 : Bool) (A3 A4 A5 Be : Int) (Bf Bg : List UInt8) (Bh : Int) (K : Ex → Env → Mem → Option Bool) := (fun z_v101 => K .norm (qj [(0, (.sl 8 v0)), (3, (.ptr 0 0)), (5, (.int .i64 v5)), (8, (.ptr 1 0)), (10, (.int .i64 v10)), (13, (.ptr 2 0)), (14, (.bool v14)), (101, (.bool z_v101))]) (qh [(some (.box true (qbr Ai Aj Ak))), (some (.box true (qb Au Av Aw Ax Bv Bw Bx By))), (some (.box true (qb A2 A3 A4 A5 Be Bf Bg Bh)))]))
def qxg : Shp := ⟨[(0, .one (.l (.sl 8))), (3, .one (.ptr 0 0)), (5, .one (.l (.i .i64))), (8, .one (.ptr 1 0)), (10, .one (.l (.i .i64))), (13, .one (.ptr 2 0)), (14, .one (.l .b))], [.box true (lk qd2), .box true (lk qa), .box true (lk qa)]⟩
def qg1  (v0 : List AV) (v5 v10 : Int) (v14 Ai : Bool) (Aj Ak : Int) (Au : Bool) (Av Aw Ax Bv : Int) (Bw Bx : List UInt8) (By : Int) (A2 : Bool) (A3 A4 A5 Be : Int) (Bf Bg : List UInt8) (Bh : Int) (kn : Bool → Option Bool) : Option Bool :=
  (bif v14 then (bif (decide (A5 ≥ Ax)) then (kn true) else (bif (Be == (3 : Int)) then (kn true) else (bif (Be == (2 : Int)) then (kn (Bv != (3 : Int))) else (kn false)))) else (kn false))
def qi1 := hull (qg1)
theorem qky : qi1 = qg1 := qk _
def qg2 : AC Bool :=
  .seq (.reg [ao 77 (.mv 14),
 ao 78 (.mv 77),
 ag 79 78 true (.fa 0 13),
 ag 80 78 true (.fa 3 79),
 ag 81 78 true (.load false 1 80),
 ag 82 78 true (.fa 0 8),
 ag 83 78 true (.fa 3 82),
 ag 84 78 true (.load false 1 83),
 ag 85 78 true (.bin .geq 81 84),
 ag 86 78 true (.mv 85),
 ag 87 86 false (.fa 4 13),
 ag 88 86 false (.load false 1 87),
 ag 89 86 false (.bin .eql 88 (.c (.int .i64 3))),
 ag 90 78 true (.pick 86 (.c (.bool true)) 89),
 ag 91 78 true (.mv 90),
 ag 92 91 false (.fa 4 13),
 ag 93 91 false (.load false 1 92),
 ag 94 91 false (.bin .eql 93 (.c (.int .i64 2))),
 ag 95 91 false (.mv 94),
 ag 96 95 true (.fa 4 8),
 ag 97 95 true (.load false 1 96),
 ag 98 95 true (.bin .neq 97 (.c (.int .i64 3))),
 ag 99 91 false (.pick 95 98 (.c (.bool false))),
 ag 100 78 true (.pick 91 (.c (.bool true)) 99),
 ao 101 (.pick 78 100 (.c (.bool false)))]) (.view [.sel [0, 3, 5, 8, 10, 13, 14, 101] [0, 1, 2]])
theorem qx8 : AC.ok Try.prog (TIof Try.prog) 110 0 (kret [.t 4] decB) qg2 := qo trivial
theorem qy6 (v0 : List AV) (v5 v10 : Int) (v14 Ai : Bool) (Aj Ak : Int) (Au : Bool) (Av Aw Ax Bv : Int) (Bw Bx : List UInt8) (By : Int) (A2 : Bool) (A3 A4 A5 Be : Int) (Bf Bg : List UInt8) (Bh : Int) (K : Ex → Env → Mem → Option Bool) : den 0 (kret [.t 4] decB) qg2 (qj [(0, (.sl 8 v0)), (3, (.ptr 0 0)), (5, (.int .i64 v5)), (8, (.ptr 1 0)), (10, (.int .i64 v10)), (13, (.ptr 2 0)), (14, (.bool v14))]) (qh [(some (.box true (qbr Ai Aj Ak))), (some (.box true (qb Au Av Aw Ax Bv Bw Bx By))), (some (.box true (qb A2 A3 A4 A5 Be Bf Bg Bh)))]) K = qi1 v0 v5 v10 v14 Ai Aj Ak Au Av Aw Ax Bv Bw Bx By A2 A3 A4 A5 Be Bf Bg Bh (qor v0 v5 v10 v14 Ai Aj Ak Au Av Aw Ax Bv Bw Bx By A2 A3 A4 A5 Be Bf Bg Bh K) := by
  rw [qky]; kernel_rfl
def qpk := subE (R := Bool) qxg fun t m K => qe (bxC (m.s 2)) (qe (bxC (m.s 1)) (qc2 (bxC (m.s 0)) (qi1 (gL [t 0] 0) (gI [t 5] 0) (gI [t 10] 0) (gB [t 14] 0)))) (qor (gL [t 0] 0) (gI [t 5] 0) (gI [t 10] 0) (gB [t 14] 0) (gB (bxC (m.s 0)) 0) (gI (bxC (m.s 0)) 1) (gI (bxC (m.s 0)) 2) (gB (bxC (m.s 1)) 0) (gI (bxC (m.s 1)) 1) (gI (bxC (m.s 1)) 2) (gI (bxC (m.s 1)) 3) (gI (bxC (m.s 1)) 4) (gS (bxC (m.s 1)) 5) (gS (bxC (m.s 1)) 6) (gI (bxC (m.s 1)) 7) (gB (bxC (m.s 2)) 0) (gI (bxC (m.s 2)) 1) (gI (bxC (m.s 2)) 2) (gI (bxC (m.s 2)) 3) (gI (bxC (m.s 2)) 4) (gS (bxC (m.s 2)) 5) (gS (bxC (m.s 2)) 6) (gI (bxC (m.s 2)) 7) K)
theorem qy7 : qdh Try.prog (TIof Try.prog) 110 0 (kret [.t 4] decB) (scOf qg2) (qpk) :=
  qke tabOk follows (qx8) (qbh (by kernel_rfl)) fun t m K => qy6 _ _ _ _ _ _ _ _ _ _ _ _ _ _ _ _ _ _ _ _ _ _ _ K
def qf6  (v5 : Int) (K : Ex → Env → Mem → Option Bool) := (fun z_v10 => K (.exit 2) (qj [(5, (.int .i64 v5)), (10, (.int .i64 z_v10))]) (qh []))
def qxh : Shp := ⟨[(0, .one (.l (.sl 8))), (3, .one (.ptr 0 0)), (5, .one (.l (.i .i64))), (8, .one (.ptr 1 0)), (9, .one (.l .b)), (10, .one (.l (.i .i64)))], [.box true (lk qd2), .box true (lk qa)]⟩
def qkz (v0 : List AV) (v5 : Int) (v9 : Bool) (v10 : Int) (Ai : Bool) (Aj Ak : Int) (Au : Bool) (Av Aw Ax Bv : Int) (Bw Bx : List UInt8) (By : Int) : Env := qj [(0, (.sl 8 v0)), (3, (.ptr 0 0)), (5, (.int .i64 v5)), (8, (.ptr 1 0)), (9, (.bool v9)), (10, (.int .i64 v10))]
def qk0 (v0 : List AV) (v5 : Int) (v9 : Bool) (v10 : Int) (Ai : Bool) (Aj Ak : Int) (Au : Bool) (Av Aw Ax Bv : Int) (Bw Bx : List UInt8) (By : Int) : Mem := qh [(some (.box true (qbr Ai Aj Ak))), (some (.box true (qb Au Av Aw Ax Bv Bw Bx By)))]
def qfd  (v0 : List AV) (v5 : Int) (v9 : Bool) (v10 : Int) (Ai : Bool) (Aj Ak : Int) (Au : Bool) (Av Aw Ax Bv : Int) (Bw Bx : List UInt8) (By : Int) (next : Bool → Int → Bool → Int → Int → Int → Int → (List UInt8) → (List UInt8) → Int → Option Bool) (kx2 : Int → Option Bool) : Option Bool :=
  (bif (v9 && (decide (v10 ≤ (v0.length : Int)))) then (oB (qli v0 Au Av Aw Ax) fun r1 => (qi0 v0 v5 v10 r1.2 Ai Aj Ak Au Av Aw Ax Bv Bw Bx By (gB r1.1.cells 0) (gI r1.1.cells 1) (gI r1.1.cells 2) (gI r1.1.cells 3) (gI r1.1.cells 4) (gS r1.1.cells 5) (gS r1.1.cells 6) (gI r1.1.cells 7) (fun v67q2 => (bif v67q2 then (some false) else (oB (qkt v0 Au Av Aw Ax) fun r3 => (qi1 v0 v5 (IntKind.i64.wrap (v10 + (1 : Int))) r3.2 Ai Aj Ak Au Av Aw Ax Bv Bw Bx By (gB r3.1.cells 0) (gI r3.1.cells 1) (gI r3.1.cells 2) (gI r3.1.cells 3) (gI r3.1.cells 4) (gS r3.1.cells 5) (gS r3.1.cells 6) (gI r3.1.cells 7) (fun v101q4 => (bif v101q4 then (some false) else (next r3.2 (IntKind.i64.wrap (v10 + (1 : Int))) (gB r3.1.cells 0) (gI r3.1.cells 1) (gI r3.1.cells 2) (gI r3.1.cells 3) (gI r3.1.cells 4) (gS r3.1.cells 5) (gS r3.1.cells 6) (gI r3.1.cells 7)))))))))) else (kx2 v10))
def qej  (v0 : List AV) (v5 : Int) (Ai : Bool) (Aj Ak : Int) (kx2 : Int → Option Bool) : Nat → Bool → Int → Bool → Int → Int → Int → Int → (List UInt8) → (List UInt8) → Int → Option Bool
  | 0 => (fun _ _ _ _ _ _ _ _ _ _ => none)
  | n + 1 => (fun v9 v10 Au Av Aw Ax Bv Bw Bx By => qfd v0 v5 v9 v10 Ai Aj Ak Au Av Aw Ax Bv Bw Bx By (qej v0 v5 Ai Aj Ak kx2 n) kx2)
def qi2 := hull (qej)
theorem qos : qi2 = qej := qk _
def qek : AC Bool :=
  .seq (.seq (.reg [ao 40 (.mv 9),
 ao 41 (.mv 40),
 .grp 41 true [(pg 42 41 true (.mv 10)), (pg 43 41 true (.mv 0)), (pg 44 41 true (.len false 43)), (pg 45 41 true (.bin .leq 42 44))] 46 45]) (.cond 46 (.skip) (.seq (.view [.sel [5, 10] []]) (.exit 2)))) (.block 3 (.seq (.reg [ao 48 (.mv 0),
 ao 49 (.fa 0 8),
 ao 50 (.load true 4 49),
 .call (po 51 (.call 24 [48, 50])) 24 qme,
 ao 47 (.mv 51),
 ao 52 (.ext 47 0),
 ao 53 (.ext 47 1),
 ao 11 (.alloc [(.bool false), (.int .u64 0), (.int .u64 0), (.int .i64 0), (.int .i64 0), (.str []), (.str []), (.int .i64 0)]),
 an (.store 8 11 52),
 ao 12 (.mv 53)]) (.seq (.seq (.seq (.view [.sel [0, 3, 5, 8, 10, 11, 12] [0, 1, 2]]) (.sub (scOf qg0) qpj)) (.cond 67 (.seq (.reg [ao 4 (.mv (.c (.bool false)))]) (.ret)) (.skip))) (.seq (.reg [ao 68 (.mv 10),
 ao 69 (.bin .add 68 (.c (.int .i64 1))),
 ao 10 (.mv 69)]) (.seq (.reg [ao 71 (.mv 0),
 ao 72 (.fa 0 8),
 ao 73 (.load true 4 72),
 .call (po 74 (.call 26 [71, 73])) 26 qrb,
 ao 70 (.mv 74),
 ao 75 (.ext 70 0),
 ao 76 (.ext 70 1),
 ao 13 (.alloc [(.bool false), (.int .u64 0), (.int .u64 0), (.int .i64 0), (.int .i64 0), (.str []), (.str []), (.int .i64 0)]),
 an (.store 8 13 75),
 ao 14 (.mv 76)]) (.seq (.seq (.seq (.view [.sel [0, 3, 5, 8, 10, 13, 14] [0, 1, 2]]) (.sub (scOf qg2) qpk)) (.cond 101 (.seq (.reg [ao 4 (.mv (.c (.bool false)))]) (.ret)) (.skip))) (.seq (.reg [ao 102 (.load true 8 13),
 ao 103 (.mv 14),
 an (.store 8 8 102),
 ao 9 (.mv 103)]) (.view [.sel [0, 3, 5, 8, 9, 10] [0, 1]]))))))))
theorem qx9 : AC.ok Try.prog (TIof Try.prog) 110 0 (kret [.t 4] decB) qek := qo (zA (qd.ok qr3) (zA qy5 (zA (qd.ok q1m) (zA qy7 trivial))))
theorem qxi (v0 : List AV) (v5 : Int) (v9 : Bool) (v10 : Int) (Ai : Bool) (Aj Ak : Int) (Au : Bool) (Av Aw Ax Bv : Int) (Bw Bx : List UInt8) (By : Int) (K : Ex → Env → Mem → Option Bool) : den 0 (kret [.t 4] decB) qek (qkz v0 v5 v9 v10 Ai Aj Ak Au Av Aw Ax Bv Bw Bx By) (qk0 v0 v5 v9 v10 Ai Aj Ak Au Av Aw Ax Bv Bw Bx By) K = qfd v0 v5 v9 v10 Ai Aj Ak Au Av Aw Ax Bv Bw Bx By (fun z_v9 z_v10 z_b1_0 z_b1_1 z_b1_2 z_b1_3 z_b1_4 z_b1_5 z_b1_6 z_b1_7 => K .norm (qkz v0 v5 z_v9 z_v10 Ai Aj Ak z_b1_0 z_b1_1 z_b1_2 z_b1_3 z_b1_4 z_b1_5 z_b1_6 z_b1_7) (qk0 v0 v5 z_v9 z_v10 Ai Aj Ak z_b1_0 z_b1_1 z_b1_2 z_b1_3 z_b1_4 z_b1_5 z_b1_6 z_b1_7)) (qf6 v5 K) := by kernel_rfl
theorem qy8 (v0 : List AV) (v5 : Int) (Ai : Bool) (Aj Ak : Int) (K : Ex → Env → Mem → Option Bool) : ∀ (n : Nat) (v9 : Bool) (v10 : Int) (Au : Bool) (Av Aw Ax Bv : Int) (Bw Bx : List UInt8) (By : Int), qg4 (den 0 (kret [.t 4] decB) qek) n (qkz v0 v5 v9 v10 Ai Aj Ak Au Av Aw Ax Bv Bw Bx By) (qk0 v0 v5 v9 v10 Ai Aj Ak Au Av Aw Ax Bv Bw Bx By) K = qi2 v0 v5 Ai Aj Ak (qf6 v5 K) n v9 v10 Au Av Aw Ax Bv Bw Bx By := by
  rw [qos]
  intro n
  induction n with
  | zero => intros; rfl
  | succ n ih =>
 intro v9 v10 Au Av Aw Ax Bv Bw Bx By
 exact (qxi v0 v5 v9 v10 Ai Aj Ak Au Av Aw Ax Bv Bw Bx By (itK (den 0 (kret [.t 4] decB) qek) n K)).trans (congrArg (fun q => qfd v0 v5 v9 v10 Ai Aj Ak Au Av Aw Ax Bv Bw Bx By q (qf6 v5 K)) (funext fun v9 => funext fun v10 => funext fun Au => funext fun Av => funext fun Aw => funext fun Ax => funext fun Bv => funext fun Bw => funext fun Bx => funext fun By => ih v9 v10 Au Av Aw Ax Bv Bw Bx By))
def qpl := subE (R := Bool) qxh fun t m K => qe (bxC (m.s 1)) (qc2 (bxC (m.s 0)) (qi2 (gL [t 0] 0) (gI [t 5] 0)) (qf6 (gI [t 5] 0) K) FU (gB [t 9] 0) (gI [t 10] 0))
theorem qy9 : qdh Try.prog (TIof Try.prog) 110 0 (kret [.t 4] decB) (.loop (scOf qek)) (qpl) :=
  qie tabOk follows (qx9) (qbh (by kernel_rfl)) fun t m K => qy8 _ _ _ _ _ K FU _ _ _ _ _ _ _ _ _ _
def qf0 : Shp := ⟨[(0, .one (.l (.sl 8))), (1, .st (lk qd2))], []⟩
def qni (v0 : List AV) (Aq : Bool) (Ar As : Int) : Option Bool :=
  (oB (qpx v0) fun r1 => (oB (qls r1) fun r2 => (bif (r2 != (0 : Int)) then (oB (qjp) fun r3 => (some r3)) else (qfz r1 r1 (r1.length : Int) Aq Ar As (fun v5q4 => (oB (qku r1 Aq Ar As) fun r5 => (qi2 r1 v5q4 Aq Ar As (fun v10q6 => (bif (v10q6 == v5q4) then (oB (qjp) fun r7 => (some r7)) else (some false))) FU r5.2 (0 : Int) (gB r5.1.cells 0) (gI r5.1.cells 1) (gI r5.1.cells 2) (gI r5.1.cells 3) (gI r5.1.cells 4) (gS r5.1.cells 5) (gS r5.1.cells 6) (gI r5.1.cells 7)))) FU (0 : Int) (0 : Int)))))
def qgc := hull qni
theorem qry : qgc = qni := qk _
def qnj : AC Bool :=
  .seq (.reg [ao 3 (.box 1),
 ao 4 (.mv (.c (.bool false)))]) (.seq (.reg [ao 15 (.mv 0),
 .callc (po 16 (.call 10 [15])) 10 qzp,
 ao 0 (.mv 16)]) (.seq (.seq (.reg [ao 17 (.mv 0),
 .call (po 18 (.call 11 [17])) 11 qsk,
 ao 19 (.bin .neq 18 (.c (.int .i64 0)))]) (.cond 19 (.seq (.reg [.call (po 20 (.call 13 [])) 13 qqf,
 ao 4 (.mv 20)]) (.ret)) (.skip))) (.seq (.reg [ao 5 (.mv (.c (.int .i64 0)))]) (.seq (.seq (.reg [ao 21 (.mv 0),
 ao 22 (.len false 21),
 ao 23 (.mv (.c (.int .i64 0)))]) (.block 0 (.seq (.view [.sel [0, 3, 5, 21, 22, 23] [0]]) (.sub (.loop (scOf qei)) qpi)))) (.seq (.reg [ao 35 (.mv 0),
 ao 36 (.load true 3 3),
 .call (po 37 (.call 28 [35, 36])) 28 qrf,
 ao 34 (.mv 37),
 ao 38 (.ext 34 0),
 ao 39 (.ext 34 1),
 ao 8 (.alloc [(.bool false), (.int .u64 0), (.int .u64 0), (.int .i64 0), (.int .i64 0), (.str []), (.str []), (.int .i64 0)]),
 an (.store 8 8 38),
 ao 9 (.mv 39)]) (.seq (.reg [ao 10 (.mv (.c (.int .i64 0)))]) (.seq (.block 2 (.seq (.view [.sel [0, 3, 5, 8, 9, 10] [0, 1]]) (.sub (.loop (scOf qek)) qpl))) (.seq (.reg [ao 104 (.mv 10),
 ao 105 (.mv 5),
 ao 106 (.bin .eql 104 105),
 ao 107 (.mv 106),
 .call (pg 108 107 true (.call 13 [])) 13 qqf,
 ao 109 (.pick 107 108 (.c (.bool false))),
 ao 4 (.mv 109)]) (.ret)))))))))
theorem q2i : AC.ok Try.prog (TIof Try.prog) 110 0 (kret [.t 4] decB) qnj := qo (zA (qd.ok qbgb) (zA (qd.ok q2w) (zA (qd.ok q0h) (zA qy3 (zA (qd.ok q1n) (zA qy9 (zA (qd.ok q0h) trivial)))))))
theorem q3i (v0 : List AV) (Aq : Bool) (Ar As : Int) : den 0 (kret [.t 4] decB) qnj (qj [(0, (.sl 8 v0)), (1, .agg (qbr Aq Ar As))]) (qh []) (kend (kret [.t 4] decB)) = qgc v0 Aq Ar As := by
  rw [qry]; kernel_rfl
theorem q3j : cFn (TIof Try.prog) Try.f7 = some ⟨110, [.t 4], scOf qnj⟩ := by kernel_rfl
def q3k (xs : List AV) : Option Bool := qc2 ((ql xs) 1).cells (qgc (gL [(ql xs) 0] 0))
def q09 {R : Type} : List AV → (AV → Option R) → Option R := entF qf0 q3k AV.bool
theorem q3l {R : Type} : qd Try.prog 7 (q09 (R := R)) :=
  qch tabOk follows Try.func7 (by kernel_rfl) q3j hdeB q2i (qbh (by kernel_rfl)) fun xs => q3i _ _ _ _
end
end Go.Proofs.Ytmjdngnagiloeaa.Dn
