import Derived.Test.YtmjdngnagiloeaaProg
import Derived.Test.YtmjdngnagiloeaaBsLibD
import Derived.Test.YtmjdngnagiloeaaBsDn46x2
set_option linter.all false
namespace Go.Proofs.Ytmjdngnagiloeaa.Dn
open Go Go.Pev
set_option linter.unusedVariables false
set_option linter.unusedSimpArgs false
set_option maxRecDepth 100000
set_option maxHeartbeats 4000000
def qot  (v0 : List AV) (Ai : Bool) (Aj Ak Al : Int) (K : Ex → Env → Mem → Option Bool) := (fun z_v56 => K .norm (qj [(0, (.sl 8 v0)), (5, (.ptr 0 0)), (56, (.bool z_v56))]) (qg [(some (.box true (qb Ai Aj Ak Al)))]))
def qxr : Shp := ⟨[(0, .one (.l (.sl 8))), (5, .one (.ptr 0 0)), (7, .one (.l (.sl 8))), (9, .one (.l (.sl 8))), (10, .one (.l (.i .i64)))], [.box true (lk qi)]⟩
noncomputable section
def qk9  (v0 v7 v9 : List AV) (v10 : Int) (Ai : Bool) (Aj Ak Al : Int) (kn : Bool → Option Bool) : Option Bool :=
  (oB (qfe v7) fun r1 => (bif (((r1 != (0 : Int)) || ((v7.length : Int) != (IntKind.i64.wrap ((v0.length : Int) + (1 : Int))))) || (v10 != (0 : Int))) then (kn true) else (oB (qgg v9 v0) fun r2 => (kn (!r2)))))
def qi0 := hull (qk9)
theorem qou : qi0 = qk9 := qk _
def qgz : AC Bool :=
  .seq (.reg [ao 36 (.mv 7),
 .call (po 37 (.call 11 [36])) 11 qgj,
 ao 38 (.bin .neq 37 (.c (.int .i64 0))),
 ao 39 (.mv 38),
 .grp 39 false [(pg 40 39 false (.mv 7)), (pg 41 39 false (.len false 40)), (pg 42 39 false (.mv 0)), (pg 43 39 false (.len false 42)), (pg 44 39 false (.bin .add 43 (.c (.int .i64 1)))), (pg 45 39 false (.bin .neq 41 44))] 46 45,
 ao 47 (.mv 46),
 .grp 47 false [(pg 48 47 false (.mv 10)), (pg 49 47 false (.bin .neq 48 (.c (.int .i64 0))))] 50 49,
 ao 51 (.mv 50),
 ag 52 51 false (.mv 9),
 ag 53 51 false (.mv 0),
 .call (pg 54 51 false (.call 19 [52, 53])) 19 qm6,
 ag 55 51 false (.un .not 54),
 ao 56 (.pick 51 (.c (.bool true)) 55)]) (.view [.sel [0, 5, 56] [0]])
theorem qyn : AC.ok Try.prog (TIof Try.prog) 137 0 (kret [.t 6] decB) qgz := qo (zA (qd.ok qln) (zA (qd.ok qur) trivial))
theorem qzl (v0 v7 v9 : List AV) (v10 : Int) (Ai : Bool) (Aj Ak Al : Int) (K : Ex → Env → Mem → Option Bool) : den 0 (kret [.t 6] decB) qgz (qj [(0, (.sl 8 v0)), (5, (.ptr 0 0)), (7, (.sl 8 v7)), (9, (.sl 8 v9)), (10, (.int .i64 v10))]) (qg [(some (.box true (qb Ai Aj Ak Al)))]) K = qi0 v0 v7 v9 v10 Ai Aj Ak Al (qot v0 Ai Aj Ak Al K) := by
  rw [qou]; kernel_rfl
def qpv := subE (R := Bool) qxr fun t m K => qe (bxC (m.s 0)) (qi0 (gL [t 0] 0) (gL [t 7] 0) (gL [t 9] 0) (gI [t 10] 0)) (qot (gL [t 0] 0) (gB (bxC (m.s 0)) 0) (gI (bxC (m.s 0)) 1) (gI (bxC (m.s 0)) 2) (gI (bxC (m.s 0)) 3) K)
theorem qzm : qdh Try.prog (TIof Try.prog) 137 0 (kret [.t 6] decB) (scOf qgz) (qpv) :=
  qgx tabOk follows (qyn) (qbe (by kernel_rfl)) fun t m K => qzl _ _ _ _ _ _ _ _ K
def qov  (v0 : List AV) (Au : Bool) (Av Aw Ax : Int) (K : Ex → Env → Mem → Option Bool) := (fun (_ : Unit) => K .norm (qj [(0, (.sl 8 v0)), (5, (.ptr 0 0))]) (qg [(some (.box true (qb Au Av Aw Ax)))]))
def qxs : Shp := ⟨[(0, .one (.l (.sl 8))), (4, .one (.ptr 0 0)), (5, .one (.ptr 1 0)), (7, .one (.l (.sl 8))), (8, .one (.l (.i .i64)))], [.box true (lk qa), .box true (lk qi)]⟩
def qla  (v0 v7 : List AV) (v8 : Int) (Ai : Bool) (Aj Ak Al Am : Int) (An Ao : List UInt8) (Ap : Int) (Au : Bool) (Av Aw Ax : Int) (kn : Unit → Option Bool) : Option Bool :=
  (bif (v8 == (0 : Int)) then (oB (qip v7 Ai Aj Ak Al) fun r1 => (qi0 v0 v7 r1.1 r1.2 Au Av Aw Ax (fun v56q2 => (bif v56q2 then (some false) else (kn ()))))) else (kn ()))
def qft := hull (qla)
theorem qow : qft = qla := qk _
def qg0 : AC Bool :=
  .seq (.reg [ao 27 (.mv 8),
 ao 28 (.bin .eql 27 (.c (.int .i64 0)))]) (.cond 28 (.seq (.reg [ao 30 (.mv 7),
 ao 31 (.fa 0 4),
 ao 32 (.load true 4 31),
 .callc (po 33 (.call 17 [30, 32])) 17 qmx,
 ao 29 (.mv 33),
 ao 34 (.ext 29 0),
 ao 35 (.ext 29 1),
 ao 9 (.mv 34),
 ao 10 (.mv 35)]) (.seq (.seq (.view [.sel [0, 5, 7, 9, 10] [1]]) (.sub (scOf qgz) qpv)) (.cond 56 (.seq (.reg [ao 6 (.mv (.c (.bool false)))]) (.ret)) (.seq (.skip) (.view [.sel [0, 5] [0]]))))) (.seq (.skip) (.view [.sel [0, 5] [1]])))
theorem qyo : AC.ok Try.prog (TIof Try.prog) 137 0 (kret [.t 6] decB) qg0 := qo (zA (qd.ok qt9) (zA qzm trivial))
theorem qzn (v0 v7 : List AV) (v8 : Int) (Ai : Bool) (Aj Ak Al Am : Int) (An Ao : List UInt8) (Ap : Int) (Au : Bool) (Av Aw Ax : Int) (K : Ex → Env → Mem → Option Bool) : den 0 (kret [.t 6] decB) qg0 (qj [(0, (.sl 8 v0)), (4, (.ptr 0 0)), (5, (.ptr 1 0)), (7, (.sl 8 v7)), (8, (.int .i64 v8))]) (qg [(some (.box true (qc Ai Aj Ak Al Am An Ao Ap))), (some (.box true (qb Au Av Aw Ax)))]) K = qft v0 v7 v8 Ai Aj Ak Al Am An Ao Ap Au Av Aw Ax (qov v0 Au Av Aw Ax K) := by
  rw [qow]; kernel_rfl
def qpw := subE (R := Bool) qxs fun t m K => qe (bxC (m.s 1)) (qh (bxC (m.s 0)) (qft (gL [t 0] 0) (gL [t 7] 0) (gI [t 8] 0))) (qov (gL [t 0] 0) (gB (bxC (m.s 1)) 0) (gI (bxC (m.s 1)) 1) (gI (bxC (m.s 1)) 2) (gI (bxC (m.s 1)) 3) K)
theorem qzo : qdh Try.prog (TIof Try.prog) 137 0 (kret [.t 6] decB) (scOf qg0) (qpw) :=
  qgx tabOk follows (qyo) (qbe (by kernel_rfl)) fun t m K => qzn _ _ _ _ _ _ _ _ _ _ _ _ _ _ _ K
def qox  (v0 : List AV) (Ai : Bool) (Aj Ak Al : Int) (K : Ex → Env → Mem → Option Bool) := (fun z_v77 => K .norm (qj [(0, (.sl 8 v0)), (5, (.ptr 0 0)), (77, (.bool z_v77))]) (qg [(some (.box true (qb Ai Aj Ak Al)))]))
def qxt : Shp := ⟨[(0, .one (.l (.sl 8))), (5, .one (.ptr 0 0)), (7, .one (.l (.sl 8))), (8, .one (.l (.i .i64)))], [.box true (lk qi)]⟩
def qlb  (v0 v7 : List AV) (v8 : Int) (Ai : Bool) (Aj Ak Al : Int) (kn : Bool → Option Bool) : Option Bool :=
  (bif (v8 == (0 : Int)) then (oB (qfe v7) fun r1 => (bif (r1 != (0 : Int)) then (kn true) else (kn ((v7.length : Int) != (IntKind.i64.wrap ((v0.length : Int) - (1 : Int))))))) else (kn false))
def qfu := hull (qlb)
theorem qoy : qfu = qlb := qk _
def qg1 : AC Bool :=
  .seq (.reg [ao 63 (.mv 8),
 ao 64 (.bin .eql 63 (.c (.int .i64 0))),
 ao 65 (.mv 64),
 ag 66 65 true (.mv 7),
 .call (pg 67 65 true (.call 11 [66])) 11 qgj,
 ag 68 65 true (.bin .neq 67 (.c (.int .i64 0))),
 ag 69 65 true (.mv 68),
 ag 70 69 false (.mv 7),
 ag 71 69 false (.len false 70),
 ag 72 69 false (.mv 0),
 ag 73 69 false (.len false 72),
 ag 74 69 false (.bin .sub 73 (.c (.int .i64 1))),
 ag 75 69 false (.bin .neq 71 74),
 ag 76 65 true (.pick 69 (.c (.bool true)) 75),
 ao 77 (.pick 65 76 (.c (.bool false)))]) (.view [.sel [0, 5, 77] [0]])
theorem qyp : AC.ok Try.prog (TIof Try.prog) 137 0 (kret [.t 6] decB) qg1 := qo (zA (qd.ok qln) trivial)
theorem qzp (v0 v7 : List AV) (v8 : Int) (Ai : Bool) (Aj Ak Al : Int) (K : Ex → Env → Mem → Option Bool) : den 0 (kret [.t 6] decB) qg1 (qj [(0, (.sl 8 v0)), (5, (.ptr 0 0)), (7, (.sl 8 v7)), (8, (.int .i64 v8))]) (qg [(some (.box true (qb Ai Aj Ak Al)))]) K = qfu v0 v7 v8 Ai Aj Ak Al (qox v0 Ai Aj Ak Al K) := by
  rw [qoy]; kernel_rfl
def qpx := subE (R := Bool) qxt fun t m K => qe (bxC (m.s 0)) (qfu (gL [t 0] 0) (gL [t 7] 0) (gI [t 8] 0)) (qox (gL [t 0] 0) (gB (bxC (m.s 0)) 0) (gI (bxC (m.s 0)) 1) (gI (bxC (m.s 0)) 2) (gI (bxC (m.s 0)) 3) K)
theorem qzq : qdh Try.prog (TIof Try.prog) 137 0 (kret [.t 6] decB) (scOf qg1) (qpx) :=
  qgx tabOk follows (qyp) (qbe (by kernel_rfl)) fun t m K => qzp _ _ _ _ _ _ _ K
def qoz  (v0 : List AV) (Ai : Bool) (Aj Ak Al : Int) (K : Ex → Env → Mem → Option Bool) := (fun z_v112 => K .norm (qj [(0, (.sl 8 v0)), (5, (.ptr 0 0)), (112, (.bool z_v112))]) (qg [(some (.box true (qb Ai Aj Ak Al)))]))
def qxu : Shp := ⟨[(0, .one (.l (.sl 8))), (5, .one (.ptr 0 0)), (7, .one (.l (.sl 8))), (11, .one (.l (.sl 8))), (12, .one (.l (.i .i64)))], [.box true (lk qi)]⟩
def qlc  (v0 v7 v11 : List AV) (v12 : Int) (Ai : Bool) (Aj Ak Al : Int) (kn : Bool → Option Bool) : Option Bool :=
  (oB (qfe v7) fun r1 => (bif (((r1 != (0 : Int)) || ((v7.length : Int) != (IntKind.i64.wrap ((v0.length : Int) + (1 : Int))))) || (v12 != (0 : Int))) then (kn true) else (oB (qgg v11 v0) fun r2 => (kn (!r2)))))
def qi1 := hull (qlc)
theorem qo0 : qi1 = qlc := qk _
def qg2 : AC Bool :=
  .seq (.reg [ao 92 (.mv 7),
 .call (po 93 (.call 11 [92])) 11 qgj,
 ao 94 (.bin .neq 93 (.c (.int .i64 0))),
 ao 95 (.mv 94),
 .grp 95 false [(pg 96 95 false (.mv 7)), (pg 97 95 false (.len false 96)), (pg 98 95 false (.mv 0)), (pg 99 95 false (.len false 98)), (pg 100 95 false (.bin .add 99 (.c (.int .i64 1)))), (pg 101 95 false (.bin .neq 97 100))] 102 101,
 ao 103 (.mv 102),
 .grp 103 false [(pg 104 103 false (.mv 12)), (pg 105 103 false (.bin .neq 104 (.c (.int .i64 0))))] 106 105,
 ao 107 (.mv 106),
 ag 108 107 false (.mv 11),
 ag 109 107 false (.mv 0),
 .call (pg 110 107 false (.call 19 [108, 109])) 19 qm6,
 ag 111 107 false (.un .not 110),
 ao 112 (.pick 107 (.c (.bool true)) 111)]) (.view [.sel [0, 5, 112] [0]])
theorem qyq : AC.ok Try.prog (TIof Try.prog) 137 0 (kret [.t 6] decB) qg2 := qo (zA (qd.ok qln) (zA (qd.ok qur) trivial))
theorem qzr (v0 v7 v11 : List AV) (v12 : Int) (Ai : Bool) (Aj Ak Al : Int) (K : Ex → Env → Mem → Option Bool) : den 0 (kret [.t 6] decB) qg2 (qj [(0, (.sl 8 v0)), (5, (.ptr 0 0)), (7, (.sl 8 v7)), (11, (.sl 8 v11)), (12, (.int .i64 v12))]) (qg [(some (.box true (qb Ai Aj Ak Al)))]) K = qi1 v0 v7 v11 v12 Ai Aj Ak Al (qoz v0 Ai Aj Ak Al K) := by
  rw [qo0]; kernel_rfl
def qpy := subE (R := Bool) qxu fun t m K => qe (bxC (m.s 0)) (qi1 (gL [t 0] 0) (gL [t 7] 0) (gL [t 11] 0) (gI [t 12] 0)) (qoz (gL [t 0] 0) (gB (bxC (m.s 0)) 0) (gI (bxC (m.s 0)) 1) (gI (bxC (m.s 0)) 2) (gI (bxC (m.s 0)) 3) K)
theorem qzs : qdh Try.prog (TIof Try.prog) 137 0 (kret [.t 6] decB) (scOf qg2) (qpy) :=
  qgx tabOk follows (qyq) (qbe (by kernel_rfl)) fun t m K => qzr _ _ _ _ _ _ _ _ K
def qo1  (v0 : List AV) (Ai : Bool) (Aj Ak Al : Int) (K : Ex → Env → Mem → Option Bool) := (fun (_ : Unit) => K .norm (qj [(0, (.sl 8 v0)), (5, (.ptr 0 0))]) (qg [(some (.box true (qb Ai Aj Ak Al)))]))
def qxv : Shp := ⟨[(0, .one (.l (.sl 8))), (5, .one (.ptr 0 0)), (7, .one (.l (.sl 8))), (8, .one (.l (.i .i64)))], [.box true (lk qi)]⟩
def qld  (v0 v7 : List AV) (v8 : Int) (Ai : Bool) (Aj Ak Al : Int) (kn : Unit → Option Bool) : Option Bool :=
  (bif (v8 == (0 : Int)) then (oB (qlh v7 Ai Aj Ak Al) fun r1 => (qi1 v0 v7 r1.1 r1.2 Ai Aj Ak Al (fun v112q2 => (bif v112q2 then (some false) else (kn ()))))) else (kn ()))
def qfv := hull (qld)
theorem qo2 : qfv = qld := qk _
def qg3 : AC Bool :=
  .seq (.reg [ao 84 (.mv 8),
 ao 85 (.bin .eql 84 (.c (.int .i64 0)))]) (.cond 85 (.seq (.reg [ao 87 (.mv 7),
 ao 88 (.load true 4 5),
 .callc (po 89 (.call 22 [87, 88])) 22 qps,
 ao 86 (.mv 89),
 ao 90 (.ext 86 0),
 ao 91 (.ext 86 1),
 ao 11 (.mv 90),
 ao 12 (.mv 91)]) (.seq (.seq (.view [.sel [0, 5, 7, 11, 12] [0]]) (.sub (scOf qg2) qpy)) (.cond 112 (.seq (.reg [ao 6 (.mv (.c (.bool false)))]) (.ret)) (.seq (.skip) (.view [.sel [0, 5] [0]]))))) (.seq (.skip) (.view [.sel [0, 5] [0]])))
theorem qyr : AC.ok Try.prog (TIof Try.prog) 137 0 (kret [.t 6] decB) qg3 := qo (zA (qd.ok qyk) (zA qzs trivial))
theorem qzt (v0 v7 : List AV) (v8 : Int) (Ai : Bool) (Aj Ak Al : Int) (K : Ex → Env → Mem → Option Bool) : den 0 (kret [.t 6] decB) qg3 (qj [(0, (.sl 8 v0)), (5, (.ptr 0 0)), (7, (.sl 8 v7)), (8, (.int .i64 v8))]) (qg [(some (.box true (qb Ai Aj Ak Al)))]) K = qfv v0 v7 v8 Ai Aj Ak Al (qo1 v0 Ai Aj Ak Al K) := by
  rw [qo2]; kernel_rfl
def qpz := subE (R := Bool) qxv fun t m K => qe (bxC (m.s 0)) (qfv (gL [t 0] 0) (gL [t 7] 0) (gI [t 8] 0)) (qo1 (gL [t 0] 0) (gB (bxC (m.s 0)) 0) (gI (bxC (m.s 0)) 1) (gI (bxC (m.s 0)) 2) (gI (bxC (m.s 0)) 3) K)
theorem qzu : qdh Try.prog (TIof Try.prog) 137 0 (kret [.t 6] decB) (scOf qg3) (qpz) :=
  qgx tabOk follows (qyr) (qbe (by kernel_rfl)) fun t m K => qzt _ _ _ _ _ _ _ K
def qfw : Shp := ⟨[(0, .one (.l (.sl 8))), (1, .st (lk qa)), (2, .st (lk qi))], []⟩
def qnj (v0 : List AV) (Aq : Bool) (Ar As At Ay : Int) (Az A0 : List UInt8) (A1 : Int) (Br : Bool) (Bs Bt Bu : Int) : Option Bool :=
  (oB (qqb v0) fun r1 => (oB (qqu Aq Ar As At Ay Az A0 A1) fun r2 => (oB (qfe r1) fun r3 => (bif (r3 != (0 : Int)) then (oB (qjp) fun r4 => (some r4)) else (oB (qn1 r1 (gB r2.cells 0) (gI r2.cells 1) (gI r2.cells 2) (gI r2.cells 3) (gI r2.cells 4) (gS r2.cells 5) (gS r2.cells 6) (gI r2.cells 7)) fun r5 => (qft r1 r5.1 r5.2 (gB r2.cells 0) (gI r2.cells 1) (gI r2.cells 2) (gI r2.cells 3) (gI r2.cells 4) (gS r2.cells 5) (gS r2.cells 6) (gI r2.cells 7) Br Bs Bt Bu (fun (_ : Unit) => (oB (qip r1 Br Bs Bt Bu) fun r6 => (qfu r1 r6.1 r6.2 Br Bs Bt Bu (fun v77q7 => (bif v77q7 then (some false) else (oB (qlu r1 Br Bs Bt Bu) fun r8 => (qfv r1 r8.1 r8.2 Br Bs Bt Bu (fun (_ : Unit) => (oB (qlh r1 Br Bs Bt Bu) fun r9 => (bif (r9.2 != (0 : Int)) then (oB (qjp) fun r10 => (some r10)) else (oB (qfe r9.1) fun r11 => (bif (r11 == (0 : Int)) then (bif ((r9.1.length : Int) == (IntKind.i64.wrap ((r1.length : Int) - (1 : Int)))) then (oB (qjp) fun r12 => (some r12)) else (some false)) else (some false)))))))))))))))))))
def qf5 := hull qnj
theorem qsa : qf5 = qnj := qk _
def qnk : AC Bool :=
  .seq (.reg [ao 4 (.box 1),
 ao 5 (.box 2),
 ao 6 (.mv (.c (.bool false)))]) (.seq (.draw [] [ao 13 (.mv 0),
 .call (po 14 (.call 10 [13])) 10 q0d,
 ao 15 (.load true 8 4)] [.call (po 16 (.call 14 [15])) 14 q05,
 ao 0 (.mv 14),
 an (.store 8 4 16)]) (.seq (.seq (.reg [ao 17 (.mv 0),
 .call (po 18 (.call 11 [17])) 11 qgj,
 ao 19 (.bin .neq 18 (.c (.int .i64 0)))]) (.cond 19 (.seq (.reg [.call (po 20 (.call 13 [])) 13 qqt,
 ao 6 (.mv 20)]) (.ret)) (.skip))) (.seq (.reg [ao 22 (.mv 0),
 ao 23 (.load true 8 4),
 .callc (po 24 (.call 15 [22, 23])) 15 qv5,
 ao 21 (.mv 24),
 ao 25 (.ext 21 0),
 ao 26 (.ext 21 1),
 ao 7 (.mv 25),
 ao 8 (.mv 26)]) (.seq (.seq (.view [.sel [0, 4, 5, 7, 8] [0, 1]]) (.sub (scOf qg0) qpw)) (.seq (.reg [ao 58 (.mv 0),
 ao 59 (.load true 4 5),
 .callc (po 60 (.call 17 [58, 59])) 17 qmx,
 ao 57 (.mv 60),
 ao 61 (.ext 57 0),
 ao 62 (.ext 57 1),
 ao 7 (.mv 61),
 ao 8 (.mv 62)]) (.seq (.seq (.seq (.view [.sel [0, 5, 7, 8] [0]]) (.sub (scOf qg1) qpx)) (.cond 77 (.seq (.reg [ao 6 (.mv (.c (.bool false)))]) (.ret)) (.skip))) (.seq (.reg [ao 79 (.mv 0),
 ao 80 (.load true 4 5),
 .callc (po 81 (.call 20 [79, 80])) 20 qs2,
 ao 78 (.mv 81),
 ao 82 (.ext 78 0),
 ao 83 (.ext 78 1),
 ao 7 (.mv 82),
 ao 8 (.mv 83)]) (.seq (.seq (.view [.sel [0, 5, 7, 8] [0]]) (.sub (scOf qg3) qpz)) (.seq (.reg [ao 114 (.mv 0),
 ao 115 (.load true 4 5),
 .callc (po 116 (.call 22 [114, 115])) 22 qps,
 ao 113 (.mv 116),
 ao 117 (.ext 113 0),
 ao 118 (.ext 113 1),
 ao 7 (.mv 117),
 ao 8 (.mv 118)]) (.seq (.reg [ao 119 (.mv 8),
 ao 120 (.bin .neq 119 (.c (.int .i64 0))),
 ao 121 (.mv 120),
 ag 122 121 false (.mv 7),
 .call (pg 123 121 false (.call 11 [122])) 11 qgj,
 ag 124 121 false (.bin .eql 123 (.c (.int .i64 0))),
 ag 125 121 false (.mv 124),
 ag 126 125 true (.mv 7),
 ag 127 125 true (.len false 126),
 ag 128 125 true (.mv 0),
 ag 129 125 true (.len false 128),
 ag 130 125 true (.bin .sub 129 (.c (.int .i64 1))),
 ag 131 125 true (.bin .eql 127 130),
 ag 132 121 false (.pick 125 131 (.c (.bool false))),
 ao 133 (.pick 121 (.c (.bool true)) 132),
 ao 134 (.mv 133),
 .call (pg 135 134 true (.call 13 [])) 13 qqt,
 ao 136 (.pick 134 135 (.c (.bool false))),
 ao 6 (.mv 136)]) (.ret)))))))))))
theorem q25 : AC.ok Try.prog (TIof Try.prog) 137 0 (kret [.t 6] decB) qnk := qo (zA (qd.ok qbg6) (zA (qd.ok qbie) (zA rfl (zA (qd.ok qln) (zA (qd.ok q04) (zA (qd.ok q8o) (zA qzo (zA (qd.ok qt9) (zA qzq (zA (qd.ok q3m) (zA qzu (zA (qd.ok qyk) (zA (qd.ok qln) (zA (qd.ok q04) trivial))))))))))))))
theorem q33 (v0 : List AV) (Aq : Bool) (Ar As At Ay : Int) (Az A0 : List UInt8) (A1 : Int) (Br : Bool) (Bs Bt Bu : Int) : den 0 (kret [.t 6] decB) qnk (qj [(0, (.sl 8 v0)), (1, .agg (qc Aq Ar As At Ay Az A0 A1)), (2, .agg (qb Br Bs Bt Bu))]) (qg []) (kend (kret [.t 6] decB)) = qf5 v0 Aq Ar As At Ay Az A0 A1 Br Bs Bt Bu := by
  rw [qsa]; kernel_rfl
theorem q34 : cFn (TIof Try.prog) Try.f6 = some ⟨137, [.t 6], scOf qnk⟩ := by kernel_rfl
def q35 (xs : List AV) : Option Bool := qe ((ql xs) 2).cells (qh ((ql xs) 1).cells (qf5 (gL [(ql xs) 0] 0)))
def q1w {R : Type} : List AV → (AV → Option R) → Option R := entF qfw q35 AV.bool
theorem q36 {R : Type} : qd Try.prog 6 (q1w (R := R)) :=
  qcd tabOk follows Try.func6 (by kernel_rfl) q34 hdeB q25 (qbe (by kernel_rfl)) fun xs => q33 _ _ _ _ _ _ _ _ _ _ _ _ _
end
end Go.Proofs.Ytmjdngnagiloeaa.Dn
