import Derived.Test.YtmjdngnagiloeaaProg
import Derived.Test.YtmjdngnagiloeaaBhLibD
import Derived.Test.YtmjdngnagiloeaaBhDn46x1
set_option linter.all false
namespace Go.Proofs.Ytmjdngnagiloeaa.Dn
open Go Go.Pev
set_option linter.unusedVariables false
set_option linter.unusedSimpArgs false
set_option maxRecDepth 100000
set_option maxHeartbeats 4000000
def qdi (z : AV) : Option (AV × Bool) := cond (qnm [(.st [.b, (.i .u64), (.i .u64), (.i .i64)]), (.one .b)] z) (some ((gC (tpL z) 0), aB (gC (tpL z) 1))) none
def qbed (r : AV × Bool) : AV := .tup [qpm (.st [.b, (.i .u64), (.i .u64), (.i .i64)]) r.1, .bool r.2]
def qyo  (v1 v2 : Int) (Ai : Bool) (Aj Ak Al : Int) (Au : Bool) (Av Aw Ax : Int) (K : Ex → Env → Mem → Option (AV × Bool)) := (fun z_v28 => K .norm (qj [(1, (.int .i64 v1)), (2, (.int .u64 v2)), (3, (.ptr 0 0)), (6, (.ptr 1 0)), (28, (.bool z_v28))]) (qh [(some (.box true (qc Ai Aj Ak Al))), (some (.box true (qc Au Av Aw Ax)))]))
def q7u : Shp := ⟨[(1, .one (.l (.i .i64))), (2, .one (.l (.i .u64))), (3, .one (.ptr 0 0)), (6, .one (.ptr 1 0))], [.box true (lk qi), .box true (lk qi)]⟩
noncomputable section
def qsp  (v1 v2 : Int) (Ai : Bool) (Aj Ak Al : Int) (Au : Bool) (Av Aw Ax : Int) (kn : Bool → Option (AV × Bool)) : Option (AV × Bool) :=
  (oB (qgd Ai Aj Ak Al) fun r1 => (bif ((!r1) || (decide (v1 < Al))) then (kn true) else (oB (qio Ai Aj Ak) fun r2 => (kn (decide (v1 > r2))))))
def qna := hull (qsp)
theorem qyp : qna = qsp := qk _
def qnz : AC (AV × Bool) :=
  .seq (.reg [ao 13 (.load true 4 3),
 .call (po 14 (.call 71 [13])) 71 qgl,
 ao 15 (.un .not 14),
 ao 16 (.mv 15),
 .grp 16 false [(pg 17 16 false (.mv 1)), (pg 18 16 false (.fa 3 3)), (pg 19 16 false (.load false 1 18)), (pg 20 16 false (.bin .lss 17 19))] 21 20,
 ao 22 (.mv 21),
 ag 23 22 false (.mv 1),
 ag 24 22 false (.fa 0 3),
 ag 25 22 false (.load true 3 24),
 .call (pg 26 22 false (.call 76 [25])) 76 qk2,
 ag 27 22 false (.bin .gtr 23 26),
 ao 28 (.pick 22 (.c (.bool true)) 27)]) (.view [.sel [1, 2, 3, 6, 28] [0, 1]])
theorem qbag : AC.ok Try.prog (TIof Try.prog) 81 0 (kret [(.cell 6 true 4), .t 7] qdi) qnz := qo (zA (qd.ok qll) (zA (qd.ok qo8) trivial))
theorem qbcp (v1 v2 : Int) (Ai : Bool) (Aj Ak Al : Int) (Au : Bool) (Av Aw Ax : Int) (K : Ex → Env → Mem → Option (AV × Bool)) : den 0 (kret [(.cell 6 true 4), .t 7] qdi) qnz (qj [(1, (.int .i64 v1)), (2, (.int .u64 v2)), (3, (.ptr 0 0)), (6, (.ptr 1 0))]) (qh [(some (.box true (qc Ai Aj Ak Al))), (some (.box true (qc Au Av Aw Ax)))]) K = qna v1 v2 Ai Aj Ak Al Au Av Aw Ax (qyo v1 v2 Ai Aj Ak Al Au Av Aw Ax K) := by
  rw [qyp]; kernel_rfl
def qz5 := subE (R := AV × Bool) q7u fun t m K => qg (bxC (m.s 1)) (qg (bxC (m.s 0)) (qna (gI [t 1] 0) (gI [t 2] 0))) (qyo (gI [t 1] 0) (gI [t 2] 0) (gB (bxC (m.s 0)) 0) (gI (bxC (m.s 0)) 1) (gI (bxC (m.s 0)) 2) (gI (bxC (m.s 0)) 3) (gB (bxC (m.s 1)) 0) (gI (bxC (m.s 1)) 1) (gI (bxC (m.s 1)) 2) (gI (bxC (m.s 1)) 3) K)
theorem qbcq : qdh Try.prog (TIof Try.prog) 81 0 (kret [(.cell 6 true 4), .t 7] qdi) (scOf qnz) (qz5) :=
  qke tabOk follows (qbag) (qbh (by kernel_rfl)) fun t m K => qbcp _ _ _ _ _ _ _ _ _ _ K
def qw1  (v1 v2 : Int) (Ai : Bool) (Aj Ak Al : Int) (Au : Bool) (Av Aw Ax : Int) (K : Ex → Env → Mem → Option (AV × Bool)) := (fun z_v42 => K .norm (qj [(1, (.int .i64 v1)), (2, (.int .u64 v2)), (3, (.ptr 0 0)), (6, (.ptr 1 0)), (42, (.bool z_v42))]) (qh [(some (.box true (qc Ai Aj Ak Al))), (some (.box true (qc Au Av Aw Ax)))]))
def q6o : Shp := ⟨[(1, .one (.l (.i .i64))), (2, .one (.l (.i .u64))), (3, .one (.ptr 0 0)), (6, .one (.ptr 1 0)), (8, .one (.l (.i .i64)))], [.box true (lk qi), .box true (lk qi)]⟩
def qmx  (v1 v2 v8 : Int) (Ai : Bool) (Aj Ak Al : Int) (Au : Bool) (Av Aw Ax : Int) (kn : Bool → Option (AV × Bool)) : Option (AV × Bool) :=
  (bif (decide (v8 < (64 : Int))) then (bif decide ((IntKind.u64.wrap v8) < 0) then none else (kn ((v2.fdiv (2 ^ min (IntKind.u64.wrap v8).toNat IntKind.u64.bits)) != (0 : Int)))) else (kn false))
def qpd := hull (qmx)
theorem qp9 : qpd = qmx := qk _
def qmy : AC (AV × Bool) :=
  .seq (.reg [ao 34 (.mv 8),
 ao 35 (.bin .lss 34 (.c (.int .i64 64))),
 ao 36 (.mv 35),
 ag 37 36 true (.mv 2),
 ag 38 36 true (.mv 8),
 ag 39 36 true (.conv (.int .u64) 38),
 ag 40 36 true (.bin .shr 37 39),
 ag 41 36 true (.bin .neq 40 (.c (.int .u64 0))),
 ao 42 (.pick 36 41 (.c (.bool false)))]) (.view [.sel [1, 2, 3, 6, 42] [0, 1]])
theorem q7v : AC.ok Try.prog (TIof Try.prog) 81 0 (kret [(.cell 6 true 4), .t 7] qdi) qmy := qo trivial
theorem qbah (v1 v2 v8 : Int) (Ai : Bool) (Aj Ak Al : Int) (Au : Bool) (Av Aw Ax : Int) (K : Ex → Env → Mem → Option (AV × Bool)) : den 0 (kret [(.cell 6 true 4), .t 7] qdi) qmy (qj [(1, (.int .i64 v1)), (2, (.int .u64 v2)), (3, (.ptr 0 0)), (6, (.ptr 1 0)), (8, (.int .i64 v8))]) (qh [(some (.box true (qc Ai Aj Ak Al))), (some (.box true (qc Au Av Aw Ax)))]) K = qpd v1 v2 v8 Ai Aj Ak Al Au Av Aw Ax (qw1 v1 v2 Ai Aj Ak Al Au Av Aw Ax K) := by
  rw [qp9]; kernel_rfl
def qyq := subE (R := AV × Bool) q6o fun t m K => qg (bxC (m.s 1)) (qg (bxC (m.s 0)) (qpd (gI [t 1] 0) (gI [t 2] 0) (gI [t 8] 0))) (qw1 (gI [t 1] 0) (gI [t 2] 0) (gB (bxC (m.s 0)) 0) (gI (bxC (m.s 0)) 1) (gI (bxC (m.s 0)) 2) (gI (bxC (m.s 0)) 3) (gB (bxC (m.s 1)) 0) (gI (bxC (m.s 1)) 1) (gI (bxC (m.s 1)) 2) (gI (bxC (m.s 1)) 3) K)
theorem qbai : qdh Try.prog (TIof Try.prog) 81 0 (kret [(.cell 6 true 4), .t 7] qdi) (scOf qmy) (qyq) :=
  qke tabOk follows (q7v) (qbh (by kernel_rfl)) fun t m K => qbah _ _ _ _ _ _ _ _ _ _ _ K
def qw2  (v1 : Int) (Ai : Bool) (Aj Ak Al : Int) (Au : Bool) (Av Aw Ax : Int) (K : Ex → Env → Mem → Option (AV × Bool)) := (fun z_v10 z_v11 => K .norm (qj [(1, (.int .i64 v1)), (3, (.ptr 0 0)), (6, (.ptr 1 0)), (10, (.int .u64 z_v10)), (11, (.int .u64 z_v11))]) (qh [(some (.box true (qc Ai Aj Ak Al))), (some (.box true (qc Au Av Aw Ax)))]))
def q6p : Shp := ⟨[(1, .one (.l (.i .i64))), (2, .one (.l (.i .u64))), (3, .one (.ptr 0 0)), (6, .one (.ptr 1 0)), (9, .one (.l (.i .u64))), (10, .one (.l (.i .u64))), (11, .one (.l (.i .u64)))], [.box true (lk qi), .box true (lk qi)]⟩
def qmz  (v1 v2 v9 v10 v11 : Int) (Ai : Bool) (Aj Ak Al : Int) (Au : Bool) (Av Aw Ax : Int) (kn : Int → Int → Option (AV × Bool)) : Option (AV × Bool) :=
  (bif (decide (v9 ≥ (64 : Int))) then (bif decide ((IntKind.u64.wrap (v9 - (64 : Int))) < 0) then none else (kn (IntKind.u64.wrap (v2 * 2 ^ min (IntKind.u64.wrap (v9 - (64 : Int))).toNat IntKind.u64.bits)) (0 : Int))) else (bif (decide (v9 > (0 : Int))) then (bif decide ((IntKind.u64.wrap ((64 : Int) - v9)) < 0) then none else (bif decide (v9 < 0) then none else (kn (v2.fdiv (2 ^ min (IntKind.u64.wrap ((64 : Int) - v9)).toNat IntKind.u64.bits)) (IntKind.u64.wrap (v2 * 2 ^ min v9.toNat IntKind.u64.bits))))) else (kn v10 v11)))
def qhz := hull (qmz)
theorem qqa : qhz = qmz := qk _
def qm0 : AC (AV × Bool) :=
  .seq (.reg [ao 51 (.mv 9),
 ao 52 (.bin .geq 51 (.c (.int .u64 64)))]) (.cond 52 (.seq (.reg [ao 53 (.mv 2),
 ao 54 (.mv 9),
 ao 55 (.bin .sub 54 (.c (.int .u64 64))),
 ao 56 (.bin .shl 53 55),
 ao 10 (.mv 56),
 ao 11 (.mv (.c (.int .u64 0)))]) (.view [.sel [1, 3, 6, 10, 11] [0, 1]])) (.seq (.reg [ao 57 (.mv 9),
 ao 58 (.bin .gtr 57 (.c (.int .u64 0)))]) (.cond 58 (.seq (.reg [ao 59 (.mv 2),
 ao 60 (.mv 9),
 ao 61 (.bin .sub (.c (.int .u64 64)) 60),
 ao 62 (.bin .shr 59 61),
 ao 63 (.mv 2),
 ao 64 (.mv 9),
 ao 65 (.bin .shl 63 64),
 ao 10 (.mv 62),
 ao 11 (.mv 65)]) (.view [.sel [1, 3, 6, 10, 11] [0, 1]])) (.seq (.skip) (.view [.sel [1, 3, 6, 10, 11] [0, 1]])))))
theorem q7w : AC.ok Try.prog (TIof Try.prog) 81 0 (kret [(.cell 6 true 4), .t 7] qdi) qm0 := qo trivial
theorem qbaj (v1 v2 v9 v10 v11 : Int) (Ai : Bool) (Aj Ak Al : Int) (Au : Bool) (Av Aw Ax : Int) (K : Ex → Env → Mem → Option (AV × Bool)) : den 0 (kret [(.cell 6 true 4), .t 7] qdi) qm0 (qj [(1, (.int .i64 v1)), (2, (.int .u64 v2)), (3, (.ptr 0 0)), (6, (.ptr 1 0)), (9, (.int .u64 v9)), (10, (.int .u64 v10)), (11, (.int .u64 v11))]) (qh [(some (.box true (qc Ai Aj Ak Al))), (some (.box true (qc Au Av Aw Ax)))]) K = qhz v1 v2 v9 v10 v11 Ai Aj Ak Al Au Av Aw Ax (qw2 v1 Ai Aj Ak Al Au Av Aw Ax K) := by
  rw [qqa]; kernel_rfl
def qyr := subE (R := AV × Bool) q6p fun t m K => qg (bxC (m.s 1)) (qg (bxC (m.s 0)) (qhz (gI [t 1] 0) (gI [t 2] 0) (gI [t 9] 0) (gI [t 10] 0) (gI [t 11] 0))) (qw2 (gI [t 1] 0) (gB (bxC (m.s 0)) 0) (gI (bxC (m.s 0)) 1) (gI (bxC (m.s 0)) 2) (gI (bxC (m.s 0)) 3) (gB (bxC (m.s 1)) 0) (gI (bxC (m.s 1)) 1) (gI (bxC (m.s 1)) 2) (gI (bxC (m.s 1)) 3) K)
theorem qbak : qdh Try.prog (TIof Try.prog) 81 0 (kret [(.cell 6 true 4), .t 7] qdi) (scOf qm0) (qyr) :=
  qke tabOk follows (q7w) (qbh (by kernel_rfl)) fun t m K => qbaj _ _ _ _ _ _ _ _ _ _ _ _ _ K
def qbee : Shp := ⟨[(0, .st (lk qi)), (1, .one (.l (.i .i64))), (2, .one (.l (.i .u64)))], []⟩
def qr2 (Aa : Bool) (Ab Ac Ad v1 v2 : Int) : Option (AV × Bool) :=
  (qna v1 v2 Aa Ab Ac Ad false (0 : Int) (0 : Int) (0 : Int) (fun v28q1 => (bif v28q1 then (some ((.agg [(.bool false), (.int .u64 (0 : Int)), (.int .u64 (0 : Int)), (.int .i64 (0 : Int))]), false)) else (qpd v1 v2 (IntKind.i64.wrap (v1 - Ad)) Aa Ab Ac Ad false (0 : Int) (0 : Int) (0 : Int) (fun v42q2 => (bif v42q2 then (some ((.agg [(.bool false), (.int .u64 (0 : Int)), (.int .u64 (0 : Int)), (.int .i64 (0 : Int))]), false)) else (oB (qio Aa Ab Ac) fun r3 => (qhz v1 v2 (IntKind.u64.wrap (IntKind.i64.wrap (r3 - v1))) (0 : Int) v2 Aa Ab Ac Ad false (0 : Int) (0 : Int) (0 : Int) (fun v10q4 v11q5 => (some ((.agg [(.bool Aa), (.int .u64 (qcg .or .u64 Ab v10q4)), (.int .u64 (qcg .or .u64 Ac v11q5)), (.int .i64 v1)]), true)))))))))))
def qmq := hull qr2
theorem qvv : qmq = qr2 := qk _
def qxy : AC (AV × Bool) :=
  .seq (.reg [ao 3 (.box 0),
 ao 6 (.alloc [(.bool false), (.int .u64 0), (.int .u64 0), (.int .i64 0)]),
 ao 7 (.mv (.c (.bool false)))]) (.seq (.seq (.seq (.view [.sel [1, 2, 3, 6] [0, 1]]) (.sub (scOf qnz) qz5)) (.cond 28 (.seq (.reg [ao 29 (.build [(.bool false), (.int .u64 0), (.int .u64 0), (.int .i64 0)] []),
 an (.store 4 6 29),
 ao 7 (.mv (.c (.bool false)))]) (.ret)) (.skip))) (.seq (.seq (.reg [ao 30 (.mv 1),
 ao 31 (.fa 3 3),
 ao 32 (.load false 1 31),
 ao 33 (.bin .sub 30 32),
 ao 8 (.mv 33)]) (.seq (.seq (.view [.sel [1, 2, 3, 6, 8] [0, 1]]) (.sub (scOf qmy) qyq)) (.cond 42 (.seq (.reg [ao 43 (.build [(.bool false), (.int .u64 0), (.int .u64 0), (.int .i64 0)] []),
 an (.store 4 6 43),
 ao 7 (.mv (.c (.bool false)))]) (.ret)) (.skip)))) (.seq (.reg [ao 44 (.fa 0 3),
 ao 45 (.load true 3 44),
 .call (po 46 (.call 76 [45])) 76 qk2,
 ao 47 (.mv 1),
 ao 48 (.bin .sub 46 47),
 ao 49 (.conv (.int .u64) 48),
 ao 9 (.mv 49)]) (.seq (.reg [ao 50 (.mv 2),
 ao 10 (.mv (.c (.int .u64 0))),
 ao 11 (.mv 50)]) (.seq (.seq (.view [.sel [1, 2, 3, 6, 9, 10, 11] [0, 1]]) (.sub (scOf qm0) qyr)) (.seq (.reg [ao 66 (.fa 0 3),
 ao 67 (.load true 3 66),
 ao 12 (.alloc [(.bool false), (.int .u64 0), (.int .u64 0)]),
 an (.store 3 12 67)]) (.seq (.reg [ao 68 (.fa 1 12),
 ao 69 (.load false 1 68),
 ao 70 (.mv 10),
 ao 71 (.bin .or 69 70),
 ao 72 (.fa 1 12),
 an (.store 1 72 71)]) (.seq (.reg [ao 73 (.fa 2 12),
 ao 74 (.load false 1 73),
 ao 75 (.mv 11),
 ao 76 (.bin .or 74 75),
 ao 77 (.fa 2 12),
 an (.store 1 77 76)]) (.seq (.reg [ao 78 (.load true 3 12),
 ao 79 (.mv 1),
 ao 80 (.build [(.bool false), (.int .u64 0), (.int .u64 0), (.int .i64 0)] [(0, (3, 78)), (3, (1, 79))]),
 an (.store 4 6 80),
 ao 7 (.mv (.c (.bool true)))]) (.ret))))))))))
theorem qbg8 : AC.ok Try.prog (TIof Try.prog) 81 0 (kret [(.cell 6 true 4), .t 7] qdi) qxy := qo (zA qbcq (zA qbai (zA (qd.ok qo8) (zA qbak trivial))))
theorem qbjr (Aa : Bool) (Ab Ac Ad v1 v2 : Int) : den 0 (kret [(.cell 6 true 4), .t 7] qdi) qxy (qj [(0, .agg (qc Aa Ab Ac Ad)), (1, (.int .i64 v1)), (2, (.int .u64 v2))]) (qh []) (kend (kret [(.cell 6 true 4), .t 7] qdi)) = qmq Aa Ab Ac Ad v1 v2 := by
  rw [qvv]; kernel_rfl
theorem qbjs : cFn (TIof Try.prog) Try.f96 = some ⟨81, [(.cell 6 true 4), .t 7], scOf qxy⟩ := by kernel_rfl
def qbjt (xs : List AV) : Option (AV × Bool) := qg ((ql xs) 0).cells (qmq) (gI [(ql xs) 1] 0) (gI [(ql xs) 2] 0)
def qtz {R : Type} : List AV → (AV → Option R) → Option R := entF qbee qbjt qbed
theorem q51 {R : Type} : qd Try.prog 96 (qtz (R := R)) :=
  qch tabOk follows Try.func96 (by kernel_rfl) qbjs (fun z r h => by
 obtain ⟨h1, h2⟩ := qn h
 cases h2
 exact (qkd h1).symm) qbg8 (qbh (by kernel_rfl)) fun xs => qbjr _ _ _ _ _ _
def qh7 (z : AV) : Option (AV × AV × Bool) := cond (qnm [(.st [.b, (.i .u64), (.i .u64), (.i .i64)]), (.st [.b, (.i .u64), (.i .u64), (.i .i64)]), (.one .b)] z) (some ((gC (tpL z) 0), (gC (tpL z) 1), aB (gC (tpL z) 2))) none
def qbal (r : AV × AV × Bool) : AV := .tup [qpm (.st [.b, (.i .u64), (.i .u64), (.i .i64)]) r.1, qpm (.st [.b, (.i .u64), (.i .u64), (.i .i64)]) r.2.1, .bool r.2.2]
def qva  (Ai : Bool) (Aj Ak Al : Int) (Au : Bool) (Av Aw Ax : Int) (A2 : Bool) (A3 A4 A5 : Int) (A6 : Bool) (A7 A8 A9 : Int) (K : Ex → Env → Mem → Option (AV × AV × Bool)) := (fun z_v22 => K .norm (qj [(1, (.ptr 0 0)), (2, (.ptr 1 0)), (3, (.ptr 2 0)), (5, (.ptr 3 0)), (22, (.bool z_v22))]) (qh [(some (.box true (qc Ai Aj Ak Al))), (some (.box true (qc Au Av Aw Ax))), (some (.box true (qc A2 A3 A4 A5))), (some (.box true (qc A6 A7 A8 A9)))]))
def q4m : Shp := ⟨[(1, .one (.ptr 0 0)), (2, .one (.ptr 1 0)), (3, .one (.ptr 2 0)), (5, .one (.ptr 3 0)), (6, .one (.l .b))], [.box true (lk qi), .box true (lk qi), .box true (lk qi), .box true (lk qi)]⟩
def qqb  (v6 Ai : Bool) (Aj Ak Al : Int) (Au : Bool) (Av Aw Ax : Int) (A2 : Bool) (A3 A4 A5 : Int) (A6 : Bool) (A7 A8 A9 : Int) (kn : Bool → Option (AV × AV × Bool)) : Option (AV × AV × Bool) :=
  (bif (!v6) then (kn true) else (oB (qgd Ai Aj Ak Al) fun r1 => (kn (!r1))))
def qn0 := hull (qqb)
theorem qvb : qn0 = qqb := qk _
def qmd : AC (AV × AV × Bool) :=
  .seq (.reg [ao 16 (.mv 6),
 ao 17 (.un .not 16),
 ao 18 (.mv 17),
 ag 19 18 false (.load true 4 1),
 .call (pg 20 18 false (.call 71 [19])) 71 qgl,
 ag 21 18 false (.un .not 20),
 ao 22 (.pick 18 (.c (.bool true)) 21)]) (.view [.sel [1, 2, 3, 5, 22] [0, 1, 2, 3]])
theorem q6q : AC.ok Try.prog (TIof Try.prog) 36 0 (kret [(.cell 2 true 4), (.cell 3 true 4), .t 4] qh7) qmd := qo (zA (qd.ok qll) trivial)
theorem q7x (v6 Ai : Bool) (Aj Ak Al : Int) (Au : Bool) (Av Aw Ax : Int) (A2 : Bool) (A3 A4 A5 : Int) (A6 : Bool) (A7 A8 A9 : Int) (K : Ex → Env → Mem → Option (AV × AV × Bool)) : den 0 (kret [(.cell 2 true 4), (.cell 3 true 4), .t 4] qh7) qmd (qj [(1, (.ptr 0 0)), (2, (.ptr 1 0)), (3, (.ptr 2 0)), (5, (.ptr 3 0)), (6, (.bool v6))]) (qh [(some (.box true (qc Ai Aj Ak Al))), (some (.box true (qc Au Av Aw Ax))), (some (.box true (qc A2 A3 A4 A5))), (some (.box true (qc A6 A7 A8 A9)))]) K = qn0 v6 Ai Aj Ak Al Au Av Aw Ax A2 A3 A4 A5 A6 A7 A8 A9 (qva Ai Aj Ak Al Au Av Aw Ax A2 A3 A4 A5 A6 A7 A8 A9 K) := by
  rw [qvb]; kernel_rfl
def qw3 := subE (R := AV × AV × Bool) q4m fun t m K => qg (bxC (m.s 3)) (qg (bxC (m.s 2)) (qg (bxC (m.s 1)) (qg (bxC (m.s 0)) (qn0 (gB [t 6] 0))))) (qva (gB (bxC (m.s 0)) 0) (gI (bxC (m.s 0)) 1) (gI (bxC (m.s 0)) 2) (gI (bxC (m.s 0)) 3) (gB (bxC (m.s 1)) 0) (gI (bxC (m.s 1)) 1) (gI (bxC (m.s 1)) 2) (gI (bxC (m.s 1)) 3) (gB (bxC (m.s 2)) 0) (gI (bxC (m.s 2)) 1) (gI (bxC (m.s 2)) 2) (gI (bxC (m.s 2)) 3) (gB (bxC (m.s 3)) 0) (gI (bxC (m.s 3)) 1) (gI (bxC (m.s 3)) 2) (gI (bxC (m.s 3)) 3) K)
theorem q7y : qdh Try.prog (TIof Try.prog) 36 0 (kret [(.cell 2 true 4), (.cell 3 true 4), .t 4] qh7) (scOf qmd) (qw3) :=
  qke tabOk follows (q6q) (qbh (by kernel_rfl)) fun t m K => q7x _ _ _ _ _ _ _ _ _ _ _ _ _ _ _ _ _ K
def qbam : Shp := ⟨[(0, .st (lk qi))], []⟩
def qt0 (Aa : Bool) (Ab Ac Ad : Int) : Option (AV × AV × Bool) :=
  (oB (qmq Aa Ab Ac Ad (IntKind.i64.wrap (Ad + (1 : Int))) (0 : Int)) fun r1 => (qn0 r1.2 Aa Ab Ac Ad false (0 : Int) (0 : Int) (0 : Int) false (0 : Int) (0 : Int) (0 : Int) (gB r1.1.cells 0) (gI r1.1.cells 1) (gI r1.1.cells 2) (gI r1.1.cells 3) (fun v22q2 => (bif v22q2 then (some ((.agg [(.bool false), (.int .u64 (0 : Int)), (.int .u64 (0 : Int)), (.int .i64 (0 : Int))]), (.agg [(.bool false), (.int .u64 (0 : Int)), (.int .u64 (0 : Int)), (.int .i64 (0 : Int))]), false)) else (oB (qmq Aa Ab Ac Ad (IntKind.i64.wrap (Ad + (1 : Int))) (1 : Int)) fun r3 => (some ((.agg [(.bool (gB r1.1.cells 0)), (.int .u64 (gI r1.1.cells 1)), (.int .u64 (gI r1.1.cells 2)), (.int .i64 (gI r1.1.cells 3))]), (.agg [(.bool (gB r3.1.cells 0)), (.int .u64 (gI r3.1.cells 1)), (.int .u64 (gI r3.1.cells 2)), (.int .i64 (gI r3.1.cells 3))]), r3.2)))))))
def qks := hull qt0
theorem qz6 : qks = qt0 := qk _
def qt1 : AC (AV × AV × Bool) :=
  .seq (.reg [ao 1 (.box 0),
 ao 2 (.alloc [(.bool false), (.int .u64 0), (.int .u64 0), (.int .i64 0)]),
 ao 3 (.alloc [(.bool false), (.int .u64 0), (.int .u64 0), (.int .i64 0)]),
 ao 4 (.mv (.c (.bool false)))]) (.seq (.reg [ao 9 (.load true 4 1),
 ao 10 (.fa 3 1),
 ao 11 (.load false 1 10),
 ao 12 (.bin .add 11 (.c (.int .i64 1))),
 .call (po 13 (.call 96 [9, 12, (.c (.int .u64 0))])) 96 qtz,
 ao 8 (.mv 13),
 ao 14 (.ext 8 0),
 ao 15 (.ext 8 1),
 ao 5 (.alloc [(.bool false), (.int .u64 0), (.int .u64 0), (.int .i64 0)]),
 an (.store 4 5 14),
 ao 6 (.mv 15)]) (.seq (.seq (.seq (.view [.sel [1, 2, 3, 5, 6] [0, 1, 2, 3]]) (.sub (scOf qmd) qw3)) (.cond 22 (.seq (.reg [ao 23 (.build [(.bool false), (.int .u64 0), (.int .u64 0), (.int .i64 0)] []),
 ao 24 (.build [(.bool false), (.int .u64 0), (.int .u64 0), (.int .i64 0)] []),
 an (.store 4 2 23),
 an (.store 4 3 24),
 ao 4 (.mv (.c (.bool false)))]) (.ret)) (.skip))) (.seq (.reg [ao 26 (.load true 4 1),
 ao 27 (.fa 3 1),
 ao 28 (.load false 1 27),
 ao 29 (.bin .add 28 (.c (.int .i64 1))),
 .call (po 30 (.call 96 [26, 29, (.c (.int .u64 1))])) 96 qtz,
 ao 25 (.mv 30),
 ao 31 (.ext 25 0),
 ao 32 (.ext 25 1),
 ao 7 (.alloc [(.bool false), (.int .u64 0), (.int .u64 0), (.int .i64 0)]),
 an (.store 4 7 31),
 ao 6 (.mv 32)]) (.seq (.draw [] [ao 33 (.load true 4 5),
 ao 34 (.load true 4 7),
 ao 35 (.mv 6),
 an (.held [6] [((.c (.bool true)), 7), (2, 7), (3, 7)])] [an (.store 4 2 33),
 an (.store 4 3 34),
 ao 4 (.mv 35)]) (.ret)))))
theorem qbcr : AC.ok Try.prog (TIof Try.prog) 36 0 (kret [(.cell 2 true 4), (.cell 3 true 4), .t 4] qh7) qt1 := qo (zA (qd.ok q51) (zA q7y (zA (qd.ok q51) (zA rfl trivial))))
theorem qbef (Aa : Bool) (Ab Ac Ad : Int) : den 0 (kret [(.cell 2 true 4), (.cell 3 true 4), .t 4] qh7) qt1 (qj [(0, .agg (qc Aa Ab Ac Ad))]) (qh []) (kend (kret [(.cell 2 true 4), (.cell 3 true 4), .t 4] qh7)) = qks Aa Ab Ac Ad := by
  rw [qz6]; kernel_rfl
theorem qbeg : cFn (TIof Try.prog) Try.f59 = some ⟨36, [(.cell 2 true 4), (.cell 3 true 4), .t 4], scOf qt1⟩ := by kernel_rfl
def qbeh (xs : List AV) : Option (AV × AV × Bool) := qg ((ql xs) 0).cells (qks)
def qm1 {R : Type} : List AV → (AV → Option R) → Option R := entF qbam qbeh qbal
theorem qt2 {R : Type} : qd Try.prog 59 (qm1 (R := R)) :=
  qch tabOk follows Try.func59 (by kernel_rfl) qbeg (fun z r h => by
 obtain ⟨h1, h2⟩ := qn h
 cases h2
 exact (qkd h1).symm) qbcr (qbh (by kernel_rfl)) fun xs => qbef _ _ _ _
def qsq (z : AV) : Option ((List AV) × Int) := cond (qnm [(.one (.sl 8)), (.one (.i .i64))] z) (some (aL (gC (tpL z) 0), aI (gC (tpL z) 1))) none
def qbcs (r : (List AV) × Int) : AV := .tup [.sl 8 r.1, .int .i64 r.2]
def qbct : Shp := ⟨[(0, .one (.l (.sl 8))), (1, .st (lk qi))], []⟩
def qvw (v0 : List AV) (Aq : Bool) (Ar As At : Int) : Option ((List AV) × Int) :=
  (oB (qfk v0 Aq Ar As At) fun r1 => (bif (decide (r1 < (0 : Int))) then (some (([] : List AV), (11 : Int))) else (oB (qks Aq Ar As At) fun r2 => (bif (!r2.2.2) then (some (([] : List AV), (21 : Int))) else (oB (qhw v0 Aq Ar As At) fun r3 => (bif r3 then (some (([] : List AV), (25 : Int))) else (oB (ixB v0 r1) fun y4 => (bif fitC qa y4.cells then (bif (decide (((gS y4.cells 5).length : Int) > (61 : Int))) then (some (([] : List AV), (1 : Int))) else (bif (decide ((v0.length : Int) ≥ (512 : Int))) then (some (([] : List AV), (9 : Int))) else (bif decide ((gS y4.cells 5).length + ([45, 48] : List UInt8).length ≤ 9223372036854775807) then (bif decide ((gS y4.cells 5).length + ([45, 49] : List UInt8).length ≤ 9223372036854775807) then (oB (qfv v0 r1) fun r5 => (oB (qgk r5 (gB r2.1.cells 0) (gI r2.1.cells 1) (gI r2.1.cells 2) (gI r2.1.cells 3) (gI y4.cells 4) ((gS y4.cells 5) ++ ([45, 48] : List UInt8)) (gS y4.cells 6) (gI y4.cells 7)) fun r6 => (oB (qgk r6 (gB r2.2.1.cells 0) (gI r2.2.1.cells 1) (gI r2.2.1.cells 2) (gI r2.2.1.cells 3) (gI y4.cells 4) ((gS y4.cells 5) ++ ([45, 49] : List UInt8)) (gS y4.cells 6) (gI y4.cells 7)) fun r7 => (some (r7, (0 : Int)))))) else none) else none))) else none))))))))
def qnb := hull qvw
theorem q1k : qnb = qvw := qk _
def qvx : AC ((List AV) × Int) :=
  .seq (.reg [ao 3 (.box 1),
 ao 4 (.mv (.c .nils)),
 ao 5 (.mv (.c (.int .i64 0)))]) (.seq (.reg [ao 12 (.mv 0),
 ao 13 (.load true 4 3),
 .call (po 14 (.call 51 [12, 13])) 51 qfl,
 ao 6 (.mv 14)]) (.seq (.seq (.reg [ao 15 (.mv 6),
 ao 16 (.bin .lss 15 (.c (.int .i64 0)))]) (.cond 16 (.seq (.reg [ao 4 (.mv (.c .nils)),
 ao 5 (.mv (.c (.int .i64 11)))]) (.seq (.view [.eta 4 (.one (.sl 8))]) (.ret))) (.skip))) (.seq (.reg [ao 18 (.load true 4 3),
 .call (po 19 (.call 59 [18])) 59 qm1,
 ao 17 (.mv 19),
 ao 20 (.ext 17 0),
 ao 21 (.ext 17 1),
 ao 22 (.ext 17 2),
 ao 7 (.alloc [(.bool false), (.int .u64 0), (.int .u64 0), (.int .i64 0)]),
 ao 8 (.alloc [(.bool false), (.int .u64 0), (.int .u64 0), (.int .i64 0)]),
 an (.store 4 7 20),
 an (.store 4 8 21),
 ao 9 (.mv 22)]) (.seq (.seq (.reg [ao 23 (.mv 9),
 ao 24 (.un .not 23)]) (.cond 24 (.seq (.reg [ao 4 (.mv (.c .nils)),
 ao 5 (.mv (.c (.int .i64 21)))]) (.seq (.view [.eta 4 (.one (.sl 8))]) (.ret))) (.skip))) (.seq (.seq (.reg [ao 25 (.mv 0),
 ao 26 (.load true 4 3),
 .call (po 27 (.call 52 [25, 26])) 52 qlz]) (.cond 27 (.seq (.reg [ao 4 (.mv (.c .nils)),
 ao 5 (.mv (.c (.int .i64 25)))]) (.seq (.view [.eta 4 (.one (.sl 8))]) (.ret))) (.skip))) (.seq (.reg [ao 28 (.mv 0),
 ao 29 (.mv 6),
 ao 30 (.ia 8 28 29),
 .st (.etac 30 qa),
 ao 31 (.load true 8 30),
 ao 10 (.alloc [(.bool false), (.int .u64 0), (.int .u64 0), (.int .i64 0), (.int .i64 0), (.str []), (.str []), (.int .i64 0)]),
 an (.store 8 10 31)]) (.seq (.seq (.reg [ao 32 (.fa 5 10),
 ao 33 (.load false 1 32),
 ao 34 (.len true 33),
 ao 35 (.bin .gtr 34 (.c (.int .i64 61)))]) (.cond 35 (.seq (.reg [ao 4 (.mv (.c .nils)),
 ao 5 (.mv (.c (.int .i64 1)))]) (.seq (.view [.eta 4 (.one (.sl 8))]) (.ret))) (.skip))) (.seq (.seq (.reg [ao 36 (.mv 0),
 ao 37 (.len false 36),
 ao 38 (.bin .geq 37 (.c (.int .i64 512)))]) (.cond 38 (.seq (.reg [ao 4 (.mv (.c .nils)),
 ao 5 (.mv (.c (.int .i64 9)))]) (.seq (.view [.eta 4 (.one (.sl 8))]) (.ret))) (.skip))) (.seq (.reg [ao 39 (.load true 8 10),
 ao 11 (.alloc [(.bool false), (.int .u64 0), (.int .u64 0), (.int .i64 0), (.int .i64 0), (.str []), (.str []), (.int .i64 0)]),
 an (.store 8 11 39)]) (.seq (.reg [ao 40 (.load true 4 7),
 ao 41 (.fa 5 10),
 ao 42 (.load false 1 41),
 ao 43 (.bin .add 42 (.c (.str [45, 48]))),
 ao 44 (.fa 0 10),
 an (.store 4 44 40),
 ao 45 (.fa 5 10),
 an (.store 1 45 43)]) (.seq (.reg [ao 46 (.load true 4 8),
 ao 47 (.fa 5 11),
 ao 48 (.load false 1 47),
 ao 49 (.bin .add 48 (.c (.str [45, 49]))),
 ao 50 (.fa 0 11),
 an (.store 4 50 46),
 ao 51 (.fa 5 11),
 an (.store 1 51 49)]) (.seq (.draw [] [ao 52 (.mv 0),
 ao 53 (.mv 6),
 .call (po 54 (.call 56 [52, 53])) 56 qka,
 ao 55 (.load true 8 10),
 .call (po 56 (.call 53 [54, 55])) 53 qk5,
 ao 57 (.load true 8 11)] [.callc (po 58 (.call 53 [56, 57])) 53 qk5,
 ao 4 (.mv 58),
 ao 5 (.mv (.c (.int .i64 0)))]) (.ret)))))))))))))
theorem qbei : AC.ok Try.prog (TIof Try.prog) 59 0 (kret [.t 4, .t 5] qsq) qvx := qo (zA (qd.ok qjl) (zA (qd.ok qt2) (zA (qd.ok qq4) (zA (qd.ok qnw) (zA (qd.ok qpc) (zA (qd.ok qpc) (zA rfl trivial)))))))
theorem qbg9 (v0 : List AV) (Aq : Bool) (Ar As At : Int) : den 0 (kret [.t 4, .t 5] qsq) qvx (qj [(0, (.sl 8 v0)), (1, .agg (qc Aq Ar As At))]) (qh []) (kend (kret [.t 4, .t 5] qsq)) = qnb v0 Aq Ar As At := by
  rw [q1k]; kernel_rfl
theorem qbha : cFn (TIof Try.prog) Try.f20 = some ⟨59, [.t 4, .t 5], scOf qvx⟩ := by kernel_rfl
def qbhb (xs : List AV) : Option ((List AV) × Int) := qg ((ql xs) 1).cells (qnb (gL [(ql xs) 0] 0))
def qz7 {R : Type} : List AV → (AV → Option R) → Option R := entF qbct qbhb qbcs
theorem qbhc {R : Type} : qd Try.prog 20 (qz7 (R := R)) :=
  qch tabOk follows Try.func20 (by kernel_rfl) qbha (fun z r h => by
 obtain ⟨h1, h2⟩ := qn h
 cases h2
 exact (qkd h1).symm) qbei (qbh (by kernel_rfl)) fun xs => qbg9 _ _ _ _ _
def qt3 (z : AV) : Option (AV × Bool) := cond (qnm [(.st [.b, (.i .u64), (.i .u64), (.i .i64), (.i .i64), .s, .s, (.i .i64)]), (.one .b)] z) (some ((gC (tpL z) 0), aB (gC (tpL z) 1))) none
def qbej (r : AV × Bool) : AV := .tup [qpm (.st [.b, (.i .u64), (.i .u64), (.i .i64), (.i .i64), .s, .s, (.i .i64)]) r.1, .bool r.2]
def qbek : Shp := ⟨[(0, .one (.l (.sl 8))), (1, .st (lk qi))], []⟩
def qxz (v0 : List AV) (Aq : Bool) (Ar As At : Int) : Option (AV × Bool) :=
  (oB (qfk v0 Aq Ar As At) fun r1 => (bif (decide (r1 ≥ (0 : Int))) then (oB (ixB v0 r1) fun y2 => (bif fitC qa y2.cells then (some ((.agg [(.bool (gB y2.cells 0)), (.int .u64 (gI y2.cells 1)), (.int .u64 (gI y2.cells 2)), (.int .i64 (gI y2.cells 3)), (.int .i64 (gI y2.cells 4)), (.str (gS y2.cells 5)), (.str (gS y2.cells 6)), (.int .i64 (gI y2.cells 7))]), true)) else none)) else (some ((.agg [(.bool false), (.int .u64 (0 : Int)), (.int .u64 (0 : Int)), (.int .i64 (0 : Int)), (.int .i64 (0 : Int)), (.str ([] : List UInt8)), (.str ([] : List UInt8)), (.int .i64 (0 : Int))]), false))))
def qli := hull qxz
theorem q21 : qli = qxz := qk _
def qx0 : AC (AV × Bool) :=
  .seq (.reg [ao 3 (.box 1),
 ao 4 (.alloc [(.bool false), (.int .u64 0), (.int .u64 0), (.int .i64 0), (.int .i64 0), (.str []), (.str []), (.int .i64 0)]),
 ao 5 (.mv (.c (.bool false)))]) (.seq (.seq (.reg [ao 7 (.mv 0),
 ao 8 (.load true 4 3),
 .call (po 9 (.call 51 [7, 8])) 51 qfl,
 ao 6 (.mv 9)]) (.seq (.reg [ao 10 (.mv 6),
 ao 11 (.bin .geq 10 (.c (.int .i64 0)))]) (.cond 11 (.seq (.reg [ao 12 (.mv 0),
 ao 13 (.mv 6),
 ao 14 (.ia 8 12 13),
 .st (.etac 14 qa),
 ao 15 (.load true 8 14),
 an (.store 8 4 15),
 ao 5 (.mv (.c (.bool true)))]) (.ret)) (.skip)))) (.seq (.reg [ao 16 (.build [(.bool false), (.int .u64 0), (.int .u64 0), (.int .i64 0), (.int .i64 0), (.str []), (.str []), (.int .i64 0)] []),
 an (.store 8 4 16),
 ao 5 (.mv (.c (.bool false)))]) (.ret)))
theorem qbhd : AC.ok Try.prog (TIof Try.prog) 17 0 (kret [(.cell 4 true 8), .t 5] qt3) qx0 := qo (zA (qd.ok qjl) trivial)
theorem qbju (v0 : List AV) (Aq : Bool) (Ar As At : Int) : den 0 (kret [(.cell 4 true 8), .t 5] qt3) qx0 (qj [(0, (.sl 8 v0)), (1, .agg (qc Aq Ar As At))]) (qh []) (kend (kret [(.cell 4 true 8), .t 5] qt3)) = qli v0 Aq Ar As At := by
  rw [q21]; kernel_rfl
theorem qbjv : cFn (TIof Try.prog) Try.f24 = some ⟨17, [(.cell 4 true 8), .t 5], scOf qx0⟩ := by kernel_rfl
def qbjw (xs : List AV) : Option (AV × Bool) := qg ((ql xs) 1).cells (qli (gL [(ql xs) 0] 0))
def qme {R : Type} : List AV → (AV → Option R) → Option R := entF qbek qbjw qbej
theorem qr3 {R : Type} : qd Try.prog 24 (qme (R := R)) :=
  qch tabOk follows Try.func24 (by kernel_rfl) qbjv (fun z r h => by
 obtain ⟨h1, h2⟩ := qn h
 cases h2
 exact (qkd h1).symm) qbhd (qbh (by kernel_rfl)) fun xs => qbju _ _ _ _ _
def qy0 : Shp := ⟨[(0, .one (.l .s)), (1, .one (.l .s))], []⟩
def ql3 (v0 v1 : List UInt8) : Option Bool :=
  (bif (decide ((v0.length : Int) ≥ (v1.length : Int))) then (oB (cutI v0 (some (IntKind.i64.wrap ((v0.length : Int) - (v1.length : Int)))) none) fun s1 => (some (s1 == v1))) else (some false))
def qkg := hull ql3
theorem qqc : qkg = ql3 := qk _
def ql4 : AC Bool :=
  .seq (.reg [ao 4 (.mv (.c (.bool false)))]) (.seq (.reg [ao 5 (.mv 0),
 ao 6 (.len true 5),
 ao 7 (.mv 1),
 ao 8 (.len true 7),
 ao 9 (.bin .geq 6 8),
 ao 10 (.mv 9),
 ag 11 10 true (.mv 0),
 ag 12 10 true (.mv 0),
 ag 13 10 true (.len true 12),
 ag 14 10 true (.mv 1),
 ag 15 10 true (.len true 14),
 ag 16 10 true (.bin .sub 13 15),
 ag 17 10 true (.slcs 11 (some 16) none),
 ag 18 10 true (.mv 1),
 ag 19 10 true (.bin .eql 17 18),
 ao 20 (.pick 10 19 (.c (.bool false))),
 ao 4 (.mv 20)]) (.ret))
theorem qz8 : AC.ok Try.prog (TIof Try.prog) 21 0 (kret [.t 4] decB) ql4 := qo trivial
theorem q03 (v0 v1 : List UInt8) : den 0 (kret [.t 4] decB) ql4 (qj [(0, (.str v0)), (1, (.str v1))]) (qh []) (kend (kret [.t 4] decB)) = qkg v0 v1 := by
  rw [qqc]; kernel_rfl
theorem q04 : cFn (TIof Try.prog) Try.f104 = some ⟨21, [.t 4], scOf ql4⟩ := by kernel_rfl
def q05 (xs : List AV) : Option Bool := qkg (gS [(ql xs) 0] 0) (gS [(ql xs) 1] 0)
def qpe {R : Type} : List AV → (AV → Option R) → Option R := entF qy0 q05 AV.bool
theorem q06 {R : Type} : qd Try.prog 104 (qpe (R := R)) :=
  qch tabOk follows Try.func104 (by kernel_rfl) q04 hdeB qz8 (qbh (by kernel_rfl)) fun xs => q03 _ _
def qx1 : Shp := ⟨[(0, .one (.l .s)), (1, .one (.l .s))], []⟩
def qlu (v0 v1 : List UInt8) : Option (List UInt8) :=
  (oB (qkg v0 v1) fun r1 => (bif r1 then (oB (cutI v0 none (some (IntKind.i64.wrap ((v0.length : Int) - (v1.length : Int))))) fun s2 => (some s2)) else (some v0)))
def qj1 := hull qlu
theorem qpf : qj1 = qlu := qk _
def qlv : AC (List UInt8) :=
  .seq (.reg [ao 4 (.mv (.c (.str [])))]) (.seq (.seq (.reg [ao 5 (.mv 0),
 ao 6 (.mv 1),
 .call (po 7 (.call 104 [5, 6])) 104 qpe]) (.cond 7 (.seq (.reg [ao 8 (.mv 0),
 ao 9 (.mv 0),
 ao 10 (.len true 9),
 ao 11 (.mv 1),
 ao 12 (.len true 11),
 ao 13 (.bin .sub 10 12),
 ao 14 (.slcs 8 none (some 13)),
 ao 4 (.mv 14)]) (.ret)) (.skip))) (.seq (.reg [ao 15 (.mv 0),
 ao 4 (.mv 15)]) (.ret)))
theorem qy1 : AC.ok Try.prog (TIof Try.prog) 16 0 (kret [.t 4] decS) qlv := qo (zA (qd.ok q06) trivial)
theorem qz9 (v0 v1 : List UInt8) : den 0 (kret [.t 4] decS) qlv (qj [(0, (.str v0)), (1, (.str v1))]) (qh []) (kend (kret [.t 4] decS)) = qj1 v0 v1 := by
  rw [qpf]; kernel_rfl
theorem q0a : cFn (TIof Try.prog) Try.f98 = some ⟨16, [.t 4], scOf qlv⟩ := by kernel_rfl
def q0b (xs : List AV) : Option (List UInt8) := qj1 (gS [(ql xs) 0] 0) (gS [(ql xs) 1] 0)
def qog {R : Type} : List AV → (AV → Option R) → Option R := entF qx1 q0b AV.str
theorem q0c {R : Type} : qd Try.prog 98 (qog (R := R)) :=
  qch tabOk follows Try.func98 (by kernel_rfl) q0a hdeS qy1 (qbh (by kernel_rfl)) fun xs => qz9 _ _
def q2c : Shp := ⟨[(0, .one (.l .s)), (1, .one (.l .s))], []⟩
def qn1 (v0 v1 : List UInt8) : Option (List UInt8) :=
  (oB (qj1 v0 v1) fun r1 => (some r1))
def qkb := hull qn1
theorem qs2 : qkb = qn1 := qk _
def qn2 : AC (List UInt8) :=
  .seq (.reg [ao 4 (.mv (.c (.str [])))]) (.seq (.reg [ao 5 (.mv 0),
 ao 6 (.mv 1),
 .call (po 7 (.call 98 [5, 6])) 98 qog,
 ao 4 (.mv 7)]) (.ret))
theorem q23 : AC.ok Try.prog (TIof Try.prog) 8 0 (kret [.t 4] decS) qn2 := qo (zA (qd.ok q0c) trivial)
theorem q4n (v0 v1 : List UInt8) : den 0 (kret [.t 4] decS) qn2 (qj [(0, (.str v0)), (1, (.str v1))]) (qh []) (kend (kret [.t 4] decS)) = qkb v0 v1 := by
  rw [qs2]; kernel_rfl
theorem q4o : cFn (TIof Try.prog) Try.f61 = some ⟨8, [.t 4], scOf qn2⟩ := by kernel_rfl
def q4p (xs : List AV) : Option (List UInt8) := qkb (gS [(ql xs) 0] 0) (gS [(ql xs) 1] 0)
def qrl {R : Type} : List AV → (AV → Option R) → Option R := entF q2c q4p AV.str
theorem q4q {R : Type} : qd Try.prog 61 (qrl (R := R)) :=
  qch tabOk follows Try.func61 (by kernel_rfl) q4o hdeS q23 (qbh (by kernel_rfl)) fun xs => q4n _ _
def qkh (z : AV) : Option ((List AV) × Int) := cond (qnm [(.one (.sl 8)), (.one (.i .i64))] z) (some (aL (gC (tpL z) 0), aI (gC (tpL z) 1))) none
def qbel (r : (List AV) × Int) : AV := .tup [.sl 8 r.1, .int .i64 r.2]
def qw4  (v0 : List AV) (Ai : Bool) (Aj Ak Al : Int) (Au : Bool) (Av Aw Ax : Int) (A2 : Bool) (A3 A4 A5 : Int) (A6 : Bool) (A7 A8 A9 Ba : Int) (Bb : List UInt8) (Bc : Int) (K : Ex → Env → Mem → Option ((List AV) × Int)) := (fun z_b3_5 => K .norm (qj [(0, (.sl 8 v0)), (3, (.ptr 0 0)), (6, (.ptr 1 0)), (7, (.ptr 2 0)), (9, (.ptr 3 0))]) (qh [(some (.box true (qc Ai Aj Ak Al))), (some (.box true (qc Au Av Aw Ax))), (some (.box true (qc A2 A3 A4 A5))), (some (.box true (qb A6 A7 A8 A9 Ba z_b3_5 Bb Bc)))]))
def q6r : Shp := ⟨[(0, .one (.l (.sl 8))), (3, .one (.ptr 0 0)), (6, .one (.ptr 1 0)), (7, .one (.ptr 2 0)), (9, .one (.ptr 3 0))], [.box true (lk qi), .box true (lk qi), .box true (lk qi), .box true (lk qa)]⟩
def qq7  (v0 : List AV) (Ai : Bool) (Aj Ak Al : Int) (Au : Bool) (Av Aw Ax : Int) (A2 : Bool) (A3 A4 A5 : Int) (A6 : Bool) (A7 A8 A9 Ba : Int) (Bd Bb : List UInt8) (Bc : Int) (kn : (List UInt8) → Option ((List AV) × Int)) : Option ((List AV) × Int) :=
  (oB (qkb Bd ([45, 48] : List UInt8)) fun r1 => (bif (!(r1 == ([] : List UInt8))) then (kn r1) else (kn Bd)))
def qmf := hull (qq7)
theorem qw5 : qmf = qq7 := qk _
def qm2 : AC ((List AV) × Int) :=
  .seq (.reg [ao 69 (.fa 5 9),
 ao 70 (.load false 1 69),
 .call (po 71 (.call 61 [70, (.c (.str [45, 48]))])) 61 qrl,
 ao 13 (.mv 71)]) (.seq (.reg [ao 72 (.mv 13),
 ao 73 (.bin .neq 72 (.c (.str [])))]) (.cond 73 (.seq (.reg [ao 74 (.mv 13),
 ao 75 (.fa 5 9),
 an (.store 1 75 74)]) (.view [.sel [0, 3, 6, 7, 9] [0, 1, 2, 3]])) (.seq (.skip) (.view [.sel [0, 3, 6, 7, 9] [0, 1, 2, 3]]))))
theorem q7z : AC.ok Try.prog (TIof Try.prog) 91 0 (kret [.t 4, .t 5] qkh) qm2 := qo (zA (qd.ok q4q) trivial)
theorem qban (v0 : List AV) (Ai : Bool) (Aj Ak Al : Int) (Au : Bool) (Av Aw Ax : Int) (A2 : Bool) (A3 A4 A5 : Int) (A6 : Bool) (A7 A8 A9 Ba : Int) (Bd Bb : List UInt8) (Bc : Int) (K : Ex → Env → Mem → Option ((List AV) × Int)) : den 0 (kret [.t 4, .t 5] qkh) qm2 (qj [(0, (.sl 8 v0)), (3, (.ptr 0 0)), (6, (.ptr 1 0)), (7, (.ptr 2 0)), (9, (.ptr 3 0))]) (qh [(some (.box true (qc Ai Aj Ak Al))), (some (.box true (qc Au Av Aw Ax))), (some (.box true (qc A2 A3 A4 A5))), (some (.box true (qb A6 A7 A8 A9 Ba Bd Bb Bc)))]) K = qmf v0 Ai Aj Ak Al Au Av Aw Ax A2 A3 A4 A5 A6 A7 A8 A9 Ba Bd Bb Bc (qw4 v0 Ai Aj Ak Al Au Av Aw Ax A2 A3 A4 A5 A6 A7 A8 A9 Ba Bb Bc K) := by
  rw [qw5]; kernel_rfl
def qys := subE (R := (List AV) × Int) q6r fun t m K => qe (bxC (m.s 3)) (qg (bxC (m.s 2)) (qg (bxC (m.s 1)) (qg (bxC (m.s 0)) (qmf (gL [t 0] 0))))) (qw4 (gL [t 0] 0) (gB (bxC (m.s 0)) 0) (gI (bxC (m.s 0)) 1) (gI (bxC (m.s 0)) 2) (gI (bxC (m.s 0)) 3) (gB (bxC (m.s 1)) 0) (gI (bxC (m.s 1)) 1) (gI (bxC (m.s 1)) 2) (gI (bxC (m.s 1)) 3) (gB (bxC (m.s 2)) 0) (gI (bxC (m.s 2)) 1) (gI (bxC (m.s 2)) 2) (gI (bxC (m.s 2)) 3) (gB (bxC (m.s 3)) 0) (gI (bxC (m.s 3)) 1) (gI (bxC (m.s 3)) 2) (gI (bxC (m.s 3)) 3) (gI (bxC (m.s 3)) 4) (gS (bxC (m.s 3)) 6) (gI (bxC (m.s 3)) 7) K)
theorem qbao : qdh Try.prog (TIof Try.prog) 91 0 (kret [.t 4, .t 5] qkh) (scOf qm2) (qys) :=
  qke tabOk follows (q7z) (qbh (by kernel_rfl)) fun t m K => qban _ _ _ _ _ _ _ _ _ _ _ _ _ _ _ _ _ _ _ _ _ K
def qbem : Shp := ⟨[(0, .one (.l (.sl 8))), (1, .st (lk qi))], []⟩
def qx2 (v0 : List AV) (Aq : Bool) (Ar As At : Int) : Option ((List AV) × Int) :=
  (oB (qks Aq Ar As At) fun r1 => (bif (!r1.2.2) then (some (([] : List AV), (11 : Int))) else (oB (qli v0 (gB r1.1.cells 0) (gI r1.1.cells 1) (gI r1.1.cells 2) (gI r1.1.cells 3)) fun r2 => (oB (qli v0 (gB r1.2.1.cells 0) (gI r1.2.1.cells 1) (gI r1.2.1.cells 2) (gI r1.2.1.cells 3)) fun r3 => (bif ((!r2.2) || (!r3.2)) then (some (([] : List AV), (11 : Int))) else (oB (qfk v0 Aq Ar As At) fun r4 => (bif (decide (r4 ≥ (0 : Int))) then (some (([] : List AV), (12 : Int))) else (bif (((((gI r2.1.cells 4) != (gI r3.1.cells 4)) || (!((gS r2.1.cells 6) == (gS r3.1.cells 6)))) || ((gI r2.1.cells 7) != (gI r3.1.cells 7))) || ((gI r2.1.cells 4) == (3 : Int))) then (some (([] : List AV), (21 : Int))) else (qmf v0 Aq Ar As At (gB r1.1.cells 0) (gI r1.1.cells 1) (gI r1.1.cells 2) (gI r1.1.cells 3) (gB r1.2.1.cells 0) (gI r1.2.1.cells 1) (gI r1.2.1.cells 2) (gI r1.2.1.cells 3) (gB r2.1.cells 0) (gI r2.1.cells 1) (gI r2.1.cells 2) (gI r2.1.cells 3) (gI r2.1.cells 4) (gS r2.1.cells 5) (gS r2.1.cells 6) (gI r2.1.cells 7) (fun b3_5q5 => (oB (qfk v0 (gB r1.1.cells 0) (gI r1.1.cells 1) (gI r1.1.cells 2) (gI r1.1.cells 3)) fun r6 => (oB (qfv v0 r6) fun r7 => (oB (qfk r7 (gB r1.2.1.cells 0) (gI r1.2.1.cells 1) (gI r1.2.1.cells 2) (gI r1.2.1.cells 3)) fun r8 => (oB (qfv r7 r8) fun r9 => (oB (qgk r9 Aq Ar As At (gI r2.1.cells 4) b3_5q5 (gS r2.1.cells 6) (gI r2.1.cells 7)) fun r10 => (some (r10, (0 : Int))))))))))))))))))
def qou := hull qx2
theorem q24 : qou = qx2 := qk _
def qx3 : AC ((List AV) × Int) :=
  .seq (.reg [ao 3 (.box 1),
 ao 4 (.mv (.c .nils)),
 ao 5 (.mv (.c (.int .i64 0)))]) (.seq (.reg [ao 16 (.load true 4 3),
 .call (po 17 (.call 59 [16])) 59 qm1,
 ao 15 (.mv 17),
 ao 18 (.ext 15 0),
 ao 19 (.ext 15 1),
 ao 20 (.ext 15 2),
 ao 6 (.alloc [(.bool false), (.int .u64 0), (.int .u64 0), (.int .i64 0)]),
 ao 7 (.alloc [(.bool false), (.int .u64 0), (.int .u64 0), (.int .i64 0)]),
 an (.store 4 6 18),
 an (.store 4 7 19),
 ao 8 (.mv 20)]) (.seq (.seq (.reg [ao 21 (.mv 8),
 ao 22 (.un .not 21)]) (.cond 22 (.seq (.reg [ao 4 (.mv (.c .nils)),
 ao 5 (.mv (.c (.int .i64 11)))]) (.seq (.view [.eta 4 (.one (.sl 8))]) (.ret))) (.skip))) (.seq (.reg [ao 24 (.mv 0),
 ao 25 (.load true 4 6),
 .call (po 26 (.call 24 [24, 25])) 24 qme,
 ao 23 (.mv 26),
 ao 27 (.ext 23 0),
 ao 28 (.ext 23 1),
 ao 9 (.alloc [(.bool false), (.int .u64 0), (.int .u64 0), (.int .i64 0), (.int .i64 0), (.str []), (.str []), (.int .i64 0)]),
 an (.store 8 9 27),
 ao 10 (.mv 28)]) (.seq (.reg [ao 30 (.mv 0),
 ao 31 (.load true 4 7),
 .call (po 32 (.call 24 [30, 31])) 24 qme,
 ao 29 (.mv 32),
 ao 33 (.ext 29 0),
 ao 34 (.ext 29 1),
 ao 11 (.alloc [(.bool false), (.int .u64 0), (.int .u64 0), (.int .i64 0), (.int .i64 0), (.str []), (.str []), (.int .i64 0)]),
 an (.store 8 11 33),
 ao 12 (.mv 34)]) (.seq (.seq (.reg [ao 35 (.mv 10),
 ao 36 (.un .not 35),
 ao 37 (.mv 36),
 .grp 37 false [(pg 38 37 false (.mv 12)), (pg 39 37 false (.un .not 38))] 40 39]) (.cond 40 (.seq (.reg [ao 4 (.mv (.c .nils)),
 ao 5 (.mv (.c (.int .i64 11)))]) (.seq (.view [.eta 4 (.one (.sl 8))]) (.ret))) (.skip))) (.seq (.seq (.reg [ao 41 (.mv 0),
 ao 42 (.load true 4 3),
 .call (po 43 (.call 51 [41, 42])) 51 qfl,
 ao 44 (.bin .geq 43 (.c (.int .i64 0)))]) (.cond 44 (.seq (.reg [ao 4 (.mv (.c .nils)),
 ao 5 (.mv (.c (.int .i64 12)))]) (.seq (.view [.eta 4 (.one (.sl 8))]) (.ret))) (.skip))) (.seq (.seq (.reg [ao 45 (.fa 4 9),
 ao 46 (.load false 1 45),
 ao 47 (.fa 4 11),
 ao 48 (.load false 1 47),
 ao 49 (.bin .neq 46 48),
 ao 50 (.mv 49),
 .grp 50 false [(pg 51 50 false (.fa 6 9)), (pg 52 50 false (.load false 1 51)), (pg 53 50 false (.fa 6 11)), (pg 54 50 false (.load false 1 53)), (pg 55 50 false (.bin .neq 52 54))] 56 55,
 ao 57 (.mv 56),
 .grp 57 false [(pg 58 57 false (.fa 7 9)), (pg 59 57 false (.load false 1 58)), (pg 60 57 false (.fa 7 11)), (pg 61 57 false (.load false 1 60)), (pg 62 57 false (.bin .neq 59 61))] 63 62,
 ao 64 (.mv 63),
 .grp 64 false [(pg 65 64 false (.fa 4 9)), (pg 66 64 false (.load false 1 65)), (pg 67 64 false (.bin .eql 66 (.c (.int .i64 3))))] 68 67]) (.cond 68 (.seq (.reg [ao 4 (.mv (.c .nils)),
 ao 5 (.mv (.c (.int .i64 21)))]) (.seq (.view [.eta 4 (.one (.sl 8))]) (.ret))) (.skip))) (.seq (.seq (.view [.sel [0, 3, 6, 7, 9] [0, 1, 2, 3]]) (.sub (scOf qm2) qys)) (.seq (.reg [ao 76 (.load true 4 3),
 ao 77 (.fa 0 9),
 an (.store 4 77 76)]) (.seq (.reg [ao 78 (.mv 0),
 ao 79 (.mv 0),
 ao 80 (.load true 4 6),
 .call (po 81 (.call 51 [79, 80])) 51 qfl,
 .callc (po 82 (.call 56 [78, 81])) 56 qka,
 ao 14 (.mv 82)]) (.seq (.reg [ao 83 (.mv 14),
 ao 84 (.mv 14),
 ao 85 (.load true 4 7),
 .call (po 86 (.call 51 [84, 85])) 51 qfl,
 .callc (po 87 (.call 56 [83, 86])) 56 qka,
 ao 14 (.mv 87)]) (.seq (.reg [ao 88 (.mv 14),
 ao 89 (.load true 8 9),
 .callc (po 90 (.call 53 [88, 89])) 53 qk5,
 ao 4 (.mv 90),
 ao 5 (.mv (.c (.int .i64 0)))]) (.ret)))))))))))))
theorem qbhe : AC.ok Try.prog (TIof Try.prog) 91 0 (kret [.t 4, .t 5] qkh) qx3 := qo (zA (qd.ok qt2) (zA (qd.ok qr3) (zA (qd.ok qr3) (zA (qd.ok qjl) (zA qbao (zA (qd.ok qjl) (zA (qd.ok qnw) (zA (qd.ok qjl) (zA (qd.ok qnw) (zA (qd.ok qpc) trivial))))))))))
theorem qbjx (v0 : List AV) (Aq : Bool) (Ar As At : Int) : den 0 (kret [.t 4, .t 5] qkh) qx3 (qj [(0, (.sl 8 v0)), (1, .agg (qc Aq Ar As At))]) (qh []) (kend (kret [.t 4, .t 5] qkh)) = qou v0 Aq Ar As At := by
  rw [q24]; kernel_rfl
theorem qbjy : cFn (TIof Try.prog) Try.f22 = some ⟨91, [.t 4, .t 5], scOf qx3⟩ := by kernel_rfl
def qbjz (xs : List AV) : Option ((List AV) × Int) := qg ((ql xs) 1).cells (qou (gL [(ql xs) 0] 0))
def q1l {R : Type} : List AV → (AV → Option R) → Option R := entF qbem qbjz qbel
theorem qbj0 {R : Type} : qd Try.prog 22 (q1l (R := R)) :=
  qch tabOk follows Try.func22 (by kernel_rfl) qbjy (fun z r h => by
 obtain ⟨h1, h2⟩ := qn h
 cases h2
 exact (qkd h1).symm) qbhe (qbh (by kernel_rfl)) fun xs => qbjx _ _ _ _ _
def q6s : Shp := ⟨[(0, .st (lk qa)), (1, .one (.ptr 1 0))], [.box true (lk qa), .box true (lk qi), .box true (lk qa), .box true (lk qa), .box true (lk qa)]⟩
def qw6 {R : Type} (KK : AV → Mem → Option R) := (fun v3 Ai Aj Ak Al Am An Ao Ap Au Av Aw Ax A2 A3 A4 A5 Be Bf Bg Bh A6 A7 A8 A9 Ba Bd Bb Bc Bi Bj Bl Bm Bn Bo Bp Bq => KK (.bool v3) (qh [(some (.box true [(.bool Ai), (.int .u64 Aj), (.int .u64 Ak), (.int .i64 Al), (.int .i64 Am), (.str An), (.str Ao), (.int .i64 Ap)])), (some (.box true [(.bool Au), (.int .u64 Av), (.int .u64 Aw), (.int .i64 Ax)])), (some (.box true [(.bool A2), (.int .u64 A3), (.int .u64 A4), (.int .i64 A5), (.int .i64 Be), (.str Bf), (.str Bg), (.int .i64 Bh)])), (some (.box true [(.bool A6), (.int .u64 A7), (.int .u64 A8), (.int .i64 A9), (.int .i64 Ba), (.str Bd), (.str Bb), (.int .i64 Bc)])), (some (.box true [(.bool Bi), (.int .u64 Bj), (.int .u64 Bl), (.int .i64 Bm), (.int .i64 Bn), (.str Bo), (.str Bp), (.int .i64 Bq)]))]))
def qq8 {R : Type}  (Aa : Bool) (Ab Ac Ad Ae : Int) (Af Ag : List UInt8) (Ah : Int) (Ai : Bool) (Aj Ak Al Am : Int) (An Ao : List UInt8) (Ap : Int) (Au : Bool) (Av Aw Ax : Int) (A2 : Bool) (A3 A4 A5 Be : Int) (Bf Bg : List UInt8) (Bh : Int) (A6 : Bool) (A7 A8 A9 Ba : Int) (Bd Bb : List UInt8) (Bc : Int) (Bi : Bool) (Bj Bl Bm Bn : Int) (Bo Bp : List UInt8) (Bq : Int) (kr : Bool → Bool → Int → Int → Int → Int → (List UInt8) → (List UInt8) → Int → Bool → Int → Int → Int → Bool → Int → Int → Int → Int → (List UInt8) → (List UInt8) → Int → Bool → Int → Int → Int → Int → (List UInt8) → (List UInt8) → Int → Bool → Int → Int → Int → Int → (List UInt8) → (List UInt8) → Int → Option R) : Option R :=
  (oB (qge Au Av Aw Ax Aa Ab Ac Ad) fun r1 => (kr r1 Ai Aj Ak Al Am An Ao Ap Au Av Aw Ax A2 A3 A4 A5 Be Bf Bg Bh A6 A7 A8 A9 Ba Bd Bb Bc Bi Bj Bl Bm Bn Bo Bp Bq))
def qpg {R : Type} := hull (qq8 (R := R))
theorem qw7 {R : Type} : qpg (R := R) = qq8 := qk _
def qh8 {R : Type} (KK : AV → Mem → Option R) : AC R :=
  .seq (.reg [ao 2 (.box 0),
 ao 3 (.mv (.c (.bool false)))]) (.seq (.reg [ao 4 (.load true 4 1),
 ao 5 (.fa 0 2),
 ao 6 (.load true 4 5),
 .call (po 7 (.call 64 [4, 6])) 64 qf3,
 ao 3 (.mv 7)]) (.seq (.view [.sel [3] [0, 1, 2, 3, 4]]) (.ret)))
theorem q70 {R : Type} (KK : AV → Mem → Option R) : AC.ok Try.prog (TIof Try.prog) 8 5 (qm [.t 3] KK) (qh8 KK) := qo (zA (qd.ok qkq) trivial)
theorem qbap {R : Type} (KK : AV → Mem → Option R) (Aa : Bool) (Ab Ac Ad Ae : Int) (Af Ag : List UInt8) (Ah : Int) (Ai : Bool) (Aj Ak Al Am : Int) (An Ao : List UInt8) (Ap : Int) (Au : Bool) (Av Aw Ax : Int) (A2 : Bool) (A3 A4 A5 Be : Int) (Bf Bg : List UInt8) (Bh : Int) (A6 : Bool) (A7 A8 A9 Ba : Int) (Bd Bb : List UInt8) (Bc : Int) (Bi : Bool) (Bj Bl Bm Bn : Int) (Bo Bp : List UInt8) (Bq : Int) : den 5 (qm [.t 3] KK) (qh8 KK) (qj [(0, .agg (qb Aa Ab Ac Ad Ae Af Ag Ah)), (1, (.ptr 1 0))]) (qh [(some (.box true (qb Ai Aj Ak Al Am An Ao Ap))), (some (.box true (qc Au Av Aw Ax))), (some (.box true (qb A2 A3 A4 A5 Be Bf Bg Bh))), (some (.box true (qb A6 A7 A8 A9 Ba Bd Bb Bc))), (some (.box true (qb Bi Bj Bl Bm Bn Bo Bp Bq)))]) (kend (qm [.t 3] KK)) = qpg Aa Ab Ac Ad Ae Af Ag Ah Ai Aj Ak Al Am An Ao Ap Au Av Aw Ax A2 A3 A4 A5 Be Bf Bg Bh A6 A7 A8 A9 Ba Bd Bb Bc Bi Bj Bl Bm Bn Bo Bp Bq (qw6 KK) := by
  rw [qw7]; kernel_rfl
theorem qbaq : cFn (TIof Try.prog) Try.f63 = some ⟨8, [.t 3], scOf (qh8 (R := Unit) (fun _ _ => none))⟩ := by kernel_rfl
theorem qbar {R : Type} (KK : AV → Mem → Option R) : (qh8 KK).er = some (scOf (qh8 (R := Unit) (fun _ _ => none))) := by kernel_rfl
def qyt {R : Type} : List AV → Mem → (AV → Mem → Option R) → Option R := refE q6s fun xs m KK => qe (bxC (m.s 4)) (qe (bxC (m.s 3)) (qe (bxC (m.s 2)) (qg (bxC (m.s 1)) (qe (bxC (m.s 0)) (qe ((ql xs) 0).cells (qpg)))))) (qw6 KK)
theorem qbas {R : Type} : qfe Try.prog 63 (qyt (R := R)) :=
  qkf (ac := fun KK => qh8 KK) tabOk follows Try.func63 (by kernel_rfl) qbaq (fun KK => q70 KK) (fun KK => qbar KK) rfl fun xs m KK => qbap KK _ _ _ _ _ _ _ _ _ _ _ _ _ _ _ _ _ _ _ _ _ _ _ _ _ _ _ _ _ _ _ _ _ _ _ _ _ _ _ _ _ _ _ _
def qjb {R : Type}  (v7 : Bool) (v10 : List AV) (v11 v12 : Int) (K : Ex → Env → Mem → Option R) := (fun z_v31 z_b0_0 z_b0_1 z_b0_2 z_b0_3 z_b0_4 z_b0_5 z_b0_6 z_b0_7 z_b1_0 z_b1_1 z_b1_2 z_b1_3 z_b2_0 z_b2_1 z_b2_2 z_b2_3 z_b2_4 z_b2_5 z_b2_6 z_b2_7 z_b3_0 z_b3_1 z_b3_2 z_b3_3 z_b3_4 z_b3_5 z_b3_6 z_b3_7 z_b4_0 z_b4_1 z_b4_2 z_b4_3 z_b4_4 z_b4_5 z_b4_6 z_b4_7 => K .norm (qj [(1, (.func 63 [(.ptr 1 0)])), (4, (.ptr 2 0)), (6, (.ptr 3 0)), (7, (.bool v7)), (9, (.ptr 4 0)), (10, (.sl 8 v10)), (11, (.int .i64 v11)), (12, (.int .i64 v12)), (31, (.bool z_v31))]) (qh [(some (.box true (qb z_b0_0 z_b0_1 z_b0_2 z_b0_3 z_b0_4 z_b0_5 z_b0_6 z_b0_7))), (some (.box true (qc z_b1_0 z_b1_1 z_b1_2 z_b1_3))), (some (.box true (qb z_b2_0 z_b2_1 z_b2_2 z_b2_3 z_b2_4 z_b2_5 z_b2_6 z_b2_7))), (some (.box true (qb z_b3_0 z_b3_1 z_b3_2 z_b3_3 z_b3_4 z_b3_5 z_b3_6 z_b3_7))), (some (.box true (qb z_b4_0 z_b4_1 z_b4_2 z_b4_3 z_b4_4 z_b4_5 z_b4_6 z_b4_7)))]))
def qoh : Shp := ⟨[(1, .one (.fn 63 [(1, 0)])), (4, .one (.ptr 2 0)), (6, .one (.ptr 3 0)), (7, .one (.l .b)), (9, .one (.ptr 4 0)), (10, .one (.l (.sl 8))), (11, .one (.l (.i .i64))), (12, .one (.l (.i .i64)))], [.box true (lk qa), .box true (lk qi), .box true (lk qa), .box true (lk qa), .box true (lk qa)]⟩
def qfg {R : Type}  (v7 : Bool) (v10 : List AV) (v11 v12 : Int) (Ai : Bool) (Aj Ak Al Am : Int) (An Ao : List UInt8) (Ap : Int) (Au : Bool) (Av Aw Ax : Int) (A2 : Bool) (A3 A4 A5 Be : Int) (Bf Bg : List UInt8) (Bh : Int) (A6 : Bool) (A7 A8 A9 Ba : Int) (Bd Bb : List UInt8) (Bc : Int) (Bi : Bool) (Bj Bl Bm Bn : Int) (Bo Bp : List UInt8) (Bq : Int) (kn : Bool → Bool → Int → Int → Int → Int → (List UInt8) → (List UInt8) → Int → Bool → Int → Int → Int → Bool → Int → Int → Int → Int → (List UInt8) → (List UInt8) → Int → Bool → Int → Int → Int → Int → (List UInt8) → (List UInt8) → Int → Bool → Int → Int → Int → Int → (List UInt8) → (List UInt8) → Int → Option R) : Option R :=
  (qpg Bi Bj Bl Bm Bn Bo Bp Bq Ai Aj Ak Al Am An Ao Ap Au Av Aw Ax A2 A3 A4 A5 Be Bf Bg Bh A6 A7 A8 A9 Ba Bd Bb Bc Bi Bj Bl Bm Bn Bo Bp Bq fun v3q1 b0_0q2 b0_1q3 b0_2q4 b0_3q5 b0_4q6 b0_5q7 b0_6q8 b0_7q9 b1_0q10 b1_1q11 b1_2q12 b1_3q13 b2_0q14 b2_1q15 b2_2q16 b2_3q17 b2_4q18 b2_5q19 b2_6q20 b2_7q21 b3_0q22 b3_1q23 b3_2q24 b3_3q25 b3_4q26 b3_5q27 b3_6q28 b3_7q29 b4_0q30 b4_1q31 b4_2q32 b4_3q33 b4_4q34 b4_5q35 b4_6q36 b4_7q37 => (bif v3q1 then (bif (!v7) then (kn true b0_0q2 b0_1q3 b0_2q4 b0_3q5 b0_4q6 b0_5q7 b0_6q8 b0_7q9 b1_0q10 b1_1q11 b1_2q12 b1_3q13 b2_0q14 b2_1q15 b2_2q16 b2_3q17 b2_4q18 b2_5q19 b2_6q20 b2_7q21 b3_0q22 b3_1q23 b3_2q24 b3_3q25 b3_4q26 b3_5q27 b3_6q28 b3_7q29 b4_0q30 b4_1q31 b4_2q32 b4_3q33 b4_4q34 b4_5q35 b4_6q36 b4_7q37) else (kn (decide (b4_3q33 > b3_3q25)) b0_0q2 b0_1q3 b0_2q4 b0_3q5 b0_4q6 b0_5q7 b0_6q8 b0_7q9 b1_0q10 b1_1q11 b1_2q12 b1_3q13 b2_0q14 b2_1q15 b2_2q16 b2_3q17 b2_4q18 b2_5q19 b2_6q20 b2_7q21 b3_0q22 b3_1q23 b3_2q24 b3_3q25 b3_4q26 b3_5q27 b3_6q28 b3_7q29 b4_0q30 b4_1q31 b4_2q32 b4_3q33 b4_4q34 b4_5q35 b4_6q36 b4_7q37)) else (kn false b0_0q2 b0_1q3 b0_2q4 b0_3q5 b0_4q6 b0_5q7 b0_6q8 b0_7q9 b1_0q10 b1_1q11 b1_2q12 b1_3q13 b2_0q14 b2_1q15 b2_2q16 b2_3q17 b2_4q18 b2_5q19 b2_6q20 b2_7q21 b3_0q22 b3_1q23 b3_2q24 b3_3q25 b3_4q26 b3_5q27 b3_6q28 b3_7q29 b4_0q30 b4_1q31 b4_2q32 b4_3q33 b4_4q34 b4_5q35 b4_6q36 b4_7q37)))
def qed {R : Type} := hull (qfg (R := R))
theorem qjc {R : Type} : qed (R := R) = qfg := qk _
def qdu {R : Type} (KK : AV → Mem → Option R) : AC R :=
  .seq (.reg [ao 16 (.mv 1),
 ao 17 (.load true 8 9),
 .st (.sel [1, 4, 6, 7, 9, 10, 11, 12, 16, 17] [0, 1, 2, 3, 4]),
 .callr (po 18 (.callv 16 [17])) 63 qyt,
 ao 19 (.mv 18),
 ag 20 19 true (.mv 7),
 ag 21 19 true (.un .not 20),
 ag 22 19 true (.mv 21),
 ag 23 22 false (.fa 0 9),
 ag 24 22 false (.fa 3 23),
 ag 25 22 false (.load false 1 24),
 ag 26 22 false (.fa 0 6),
 ag 27 22 false (.fa 3 26),
 ag 28 22 false (.load false 1 27),
 ag 29 22 false (.bin .gtr 25 28),
 ag 30 19 true (.pick 22 (.c (.bool true)) 29),
 ao 31 (.pick 19 30 (.c (.bool false)))]) (.view [.sel [1, 4, 6, 7, 9, 10, 11, 12, 31] [0, 1, 2, 3, 4]])
theorem qo3 {R : Type} (KK : AV → Mem → Option R) : AC.ok Try.prog (TIof Try.prog) 36 2 (qm [(.cell 4 true 8), .t 5] KK) (qdu KK) := qo (zA qbas trivial)
theorem qpn {R : Type} (KK : AV → Mem → Option R) (v7 : Bool) (v10 : List AV) (v11 v12 : Int) (Ai : Bool) (Aj Ak Al Am : Int) (An Ao : List UInt8) (Ap : Int) (Au : Bool) (Av Aw Ax : Int) (A2 : Bool) (A3 A4 A5 Be : Int) (Bf Bg : List UInt8) (Bh : Int) (A6 : Bool) (A7 A8 A9 Ba : Int) (Bd Bb : List UInt8) (Bc : Int) (Bi : Bool) (Bj Bl Bm Bn : Int) (Bo Bp : List UInt8) (Bq : Int) (K : Ex → Env → Mem → Option R) : den 2 (qm [(.cell 4 true 8), .t 5] KK) (qdu KK) (qj [(1, (.func 63 [(.ptr 1 0)])), (4, (.ptr 2 0)), (6, (.ptr 3 0)), (7, (.bool v7)), (9, (.ptr 4 0)), (10, (.sl 8 v10)), (11, (.int .i64 v11)), (12, (.int .i64 v12))]) (qh [(some (.box true (qb Ai Aj Ak Al Am An Ao Ap))), (some (.box true (qc Au Av Aw Ax))), (some (.box true (qb A2 A3 A4 A5 Be Bf Bg Bh))), (some (.box true (qb A6 A7 A8 A9 Ba Bd Bb Bc))), (some (.box true (qb Bi Bj Bl Bm Bn Bo Bp Bq)))]) K = qed v7 v10 v11 v12 Ai Aj Ak Al Am An Ao Ap Au Av Aw Ax A2 A3 A4 A5 Be Bf Bg Bh A6 A7 A8 A9 Ba Bd Bb Bc Bi Bj Bl Bm Bn Bo Bp Bq (qjb v7 v10 v11 v12 K) := by
  rw [qjc]; kernel_rfl
def qjr {R : Type} (KK : AV → Mem → Option R) := subE (R := R) qoh fun t m K => qe (bxC (m.s 4)) (qe (bxC (m.s 3)) (qe (bxC (m.s 2)) (qg (bxC (m.s 1)) (qe (bxC (m.s 0)) (qed (gB [t 7] 0) (gL [t 10] 0) (gI [t 11] 0) (gI [t 12] 0)))))) (qjb (gB [t 7] 0) (gL [t 10] 0) (gI [t 11] 0) (gI [t 12] 0) K)
theorem qpo {R : Type} (KK : AV → Mem → Option R) : qdh Try.prog (TIof Try.prog) 36 2 (qm [(.cell 4 true 8), .t 5] KK) (scOf (qdu KK)) (qjr KK) :=
  qke tabOk follows (qo3 KK) (qbh (by kernel_rfl)) fun t m K => qpn KK _ _ _ _ _ _ _ _ _ _ _ _ _ _ _ _ _ _ _ _ _ _ _ _ _ _ _ _ _ _ _ _ _ _ _ _ _ _ _ _ K
def qdj {R : Type}  (K : Ex → Env → Mem → Option R) := (fun z_v7 z_b0_0 z_b0_1 z_b0_2 z_b0_3 z_b0_4 z_b0_5 z_b0_6 z_b0_7 z_b1_0 z_b1_1 z_b1_2 z_b1_3 z_b2_0 z_b2_1 z_b2_2 z_b2_3 z_b2_4 z_b2_5 z_b2_6 z_b2_7 z_b3_0 z_b3_1 z_b3_2 z_b3_3 z_b3_4 z_b3_5 z_b3_6 z_b3_7 => K (.exit 0) (qj [(4, (.ptr 2 0)), (6, (.ptr 3 0)), (7, (.bool z_v7))]) (qh [(some (.box true (qb z_b0_0 z_b0_1 z_b0_2 z_b0_3 z_b0_4 z_b0_5 z_b0_6 z_b0_7))), (some (.box true (qc z_b1_0 z_b1_1 z_b1_2 z_b1_3))), (some (.box true (qb z_b2_0 z_b2_1 z_b2_2 z_b2_3 z_b2_4 z_b2_5 z_b2_6 z_b2_7))), (some (.box true (qb z_b3_0 z_b3_1 z_b3_2 z_b3_3 z_b3_4 z_b3_5 z_b3_6 z_b3_7)))]))
def qoi : Shp := ⟨[(1, .one (.fn 63 [(1, 0)])), (4, .one (.ptr 2 0)), (6, .one (.ptr 3 0)), (7, .one (.l .b)), (10, .one (.l (.sl 8))), (11, .one (.l (.i .i64))), (12, .one (.l (.i .i64)))], [.box true (lk qa), .box true (lk qi), .box true (lk qa), .box true (lk qa)]⟩
def qe8 (v7 : Bool) (v10 : List AV) (v11 v12 : Int) (Ai : Bool) (Aj Ak Al Am : Int) (An Ao : List UInt8) (Ap : Int) (Au : Bool) (Av Aw Ax : Int) (A2 : Bool) (A3 A4 A5 Be : Int) (Bf Bg : List UInt8) (Bh : Int) (A6 : Bool) (A7 A8 A9 Ba : Int) (Bd Bb : List UInt8) (Bc : Int) : Env := qj [(1, (.func 63 [(.ptr 1 0)])), (4, (.ptr 2 0)), (6, (.ptr 3 0)), (7, (.bool v7)), (10, (.sl 8 v10)), (11, (.int .i64 v11)), (12, (.int .i64 v12))]
def qe9 (v7 : Bool) (v10 : List AV) (v11 v12 : Int) (Ai : Bool) (Aj Ak Al Am : Int) (An Ao : List UInt8) (Ap : Int) (Au : Bool) (Av Aw Ax : Int) (A2 : Bool) (A3 A4 A5 Be : Int) (Bf Bg : List UInt8) (Bh : Int) (A6 : Bool) (A7 A8 A9 Ba : Int) (Bd Bb : List UInt8) (Bc : Int) : Mem := qh [(some (.box true (qb Ai Aj Ak Al Am An Ao Ap))), (some (.box true (qc Au Av Aw Ax))), (some (.box true (qb A2 A3 A4 A5 Be Bf Bg Bh))), (some (.box true (qb A6 A7 A8 A9 Ba Bd Bb Bc)))]
def qcj {R : Type}  (v7 : Bool) (v10 : List AV) (v11 v12 : Int) (Ai : Bool) (Aj Ak Al Am : Int) (An Ao : List UInt8) (Ap : Int) (Au : Bool) (Av Aw Ax : Int) (A2 : Bool) (A3 A4 A5 Be : Int) (Bf Bg : List UInt8) (Bh : Int) (A6 : Bool) (A7 A8 A9 Ba : Int) (Bd Bb : List UInt8) (Bc : Int) (next : Bool → Int → Bool → Int → Int → Int → Int → (List UInt8) → (List UInt8) → Int → Bool → Int → Int → Int → Bool → Int → Int → Int → Int → (List UInt8) → (List UInt8) → Int → Bool → Int → Int → Int → Int → (List UInt8) → (List UInt8) → Int → Option R) (kx0 : Bool → Bool → Int → Int → Int → Int → (List UInt8) → (List UInt8) → Int → Bool → Int → Int → Int → Bool → Int → Int → Int → Int → (List UInt8) → (List UInt8) → Int → Bool → Int → Int → Int → Int → (List UInt8) → (List UInt8) → Int → Option R) : Option R :=
  (bif (decide (v12 < v11)) then (oB (ixB v10 v12) fun y1 => (bif fitC qa y1.cells then (qed v7 v10 v11 v12 Ai Aj Ak Al Am An Ao Ap Au Av Aw Ax A2 A3 A4 A5 Be Bf Bg Bh A6 A7 A8 A9 Ba Bd Bb Bc (gB y1.cells 0) (gI y1.cells 1) (gI y1.cells 2) (gI y1.cells 3) (gI y1.cells 4) (gS y1.cells 5) (gS y1.cells 6) (gI y1.cells 7) (fun v31q2 b0_0q3 b0_1q4 b0_2q5 b0_3q6 b0_4q7 b0_5q8 b0_6q9 b0_7q10 b1_0q11 b1_1q12 b1_2q13 b1_3q14 b2_0q15 b2_1q16 b2_2q17 b2_3q18 b2_4q19 b2_5q20 b2_6q21 b2_7q22 b3_0q23 b3_1q24 b3_2q25 b3_3q26 b3_4q27 b3_5q28 b3_6q29 b3_7q30 b4_0q31 b4_1q32 b4_2q33 b4_3q34 b4_4q35 b4_5q36 b4_6q37 b4_7q38 => (bif v31q2 then (next true (IntKind.i64.wrap (v12 + (1 : Int))) b0_0q3 b0_1q4 b0_2q5 b0_3q6 b0_4q7 b0_5q8 b0_6q9 b0_7q10 b1_0q11 b1_1q12 b1_2q13 b1_3q14 b2_0q15 b2_1q16 b2_2q17 b2_3q18 b2_4q19 b2_5q20 b2_6q21 b2_7q22 b4_0q31 b4_1q32 b4_2q33 b4_3q34 b4_4q35 b4_5q36 b4_6q37 b4_7q38) else (next v7 (IntKind.i64.wrap (v12 + (1 : Int))) b0_0q3 b0_1q4 b0_2q5 b0_3q6 b0_4q7 b0_5q8 b0_6q9 b0_7q10 b1_0q11 b1_1q12 b1_2q13 b1_3q14 b2_0q15 b2_1q16 b2_2q17 b2_3q18 b2_4q19 b2_5q20 b2_6q21 b2_7q22 b3_0q23 b3_1q24 b3_2q25 b3_3q26 b3_4q27 b3_5q28 b3_6q29 b3_7q30)))) else none)) else (kx0 v7 Ai Aj Ak Al Am An Ao Ap Au Av Aw Ax A2 A3 A4 A5 Be Bf Bg Bh A6 A7 A8 A9 Ba Bd Bb Bc))
def qdb {R : Type}  (v10 : List AV) (v11 : Int) (kx0 : Bool → Bool → Int → Int → Int → Int → (List UInt8) → (List UInt8) → Int → Bool → Int → Int → Int → Bool → Int → Int → Int → Int → (List UInt8) → (List UInt8) → Int → Bool → Int → Int → Int → Int → (List UInt8) → (List UInt8) → Int → Option R) : Nat → Bool → Int → Bool → Int → Int → Int → Int → (List UInt8) → (List UInt8) → Int → Bool → Int → Int → Int → Bool → Int → Int → Int → Int → (List UInt8) → (List UInt8) → Int → Bool → Int → Int → Int → Int → (List UInt8) → (List UInt8) → Int → Option R
  | 0 => (fun _ _ _ _ _ _ _ _ _ _ _ _ _ _ _ _ _ _ _ _ _ _ _ _ _ _ _ _ _ _ => none)
  | n + 1 => (fun v7 v12 Ai Aj Ak Al Am An Ao Ap Au Av Aw Ax A2 A3 A4 A5 Be Bf Bg Bh A6 A7 A8 A9 Ba Bd Bb Bc => qcj v7 v10 v11 v12 Ai Aj Ak Al Am An Ao Ap Au Av Aw Ax A2 A3 A4 A5 Be Bf Bg Bh A6 A7 A8 A9 Ba Bd Bb Bc (qdb v10 v11 kx0 n) kx0)
def qee {R : Type} := hull (qdb (R := R))
theorem qjd {R : Type} : qee (R := R) = qdb := qk _
def qck {R : Type} (KK : AV → Mem → Option R) : AC R :=
  .seq (.reg [ao 13 (.bin .lss 12 11)]) (.seq (.cond 13 (.skip) (.seq (.view [.sel [4, 6, 7] [0, 1, 2, 3]]) (.exit 0))) (.seq (.block 1 (.seq (.reg [ao 14 (.ia 8 10 12),
 .st (.etac 14 qa),
 ao 15 (.load true 8 14),
 ao 9 (.alloc [(.bool false), (.int .u64 0), (.int .u64 0), (.int .i64 0), (.int .i64 0), (.str []), (.str []), (.int .i64 0)]),
 an (.store 8 9 15)]) (.seq (.seq (.view [.sel [1, 4, 6, 7, 9, 10, 11, 12] [0, 1, 2, 3, 4]]) (.sub (scOf (qdu KK)) (qjr KK))) (.cond 31 (.reg [ao 32 (.load true 8 9),
 an (.store 8 6 32),
 ao 7 (.mv (.c (.bool true)))]) (.skip))))) (.seq (.reg [ao 33 (.bin .add 12 (.c (.int .i64 1))),
 ao 12 (.mv 33)]) (.view [.sel [1, 4, 6, 7, 10, 11, 12] [0, 1, 2, 3]]))))
theorem qo4 {R : Type} (KK : AV → Mem → Option R) : AC.ok Try.prog (TIof Try.prog) 36 2 (qm [(.cell 4 true 8), .t 5] KK) (qck KK) := qo (zA (qpo KK) trivial)
theorem qoj {R : Type} (KK : AV → Mem → Option R) (v7 : Bool) (v10 : List AV) (v11 v12 : Int) (Ai : Bool) (Aj Ak Al Am : Int) (An Ao : List UInt8) (Ap : Int) (Au : Bool) (Av Aw Ax : Int) (A2 : Bool) (A3 A4 A5 Be : Int) (Bf Bg : List UInt8) (Bh : Int) (A6 : Bool) (A7 A8 A9 Ba : Int) (Bd Bb : List UInt8) (Bc : Int) (K : Ex → Env → Mem → Option R) : den 2 (qm [(.cell 4 true 8), .t 5] KK) (qck KK) (qe8 v7 v10 v11 v12 Ai Aj Ak Al Am An Ao Ap Au Av Aw Ax A2 A3 A4 A5 Be Bf Bg Bh A6 A7 A8 A9 Ba Bd Bb Bc) (qe9 v7 v10 v11 v12 Ai Aj Ak Al Am An Ao Ap Au Av Aw Ax A2 A3 A4 A5 Be Bf Bg Bh A6 A7 A8 A9 Ba Bd Bb Bc) K = qcj v7 v10 v11 v12 Ai Aj Ak Al Am An Ao Ap Au Av Aw Ax A2 A3 A4 A5 Be Bf Bg Bh A6 A7 A8 A9 Ba Bd Bb Bc (fun z_v7 z_v12 z_b0_0 z_b0_1 z_b0_2 z_b0_3 z_b0_4 z_b0_5 z_b0_6 z_b0_7 z_b1_0 z_b1_1 z_b1_2 z_b1_3 z_b2_0 z_b2_1 z_b2_2 z_b2_3 z_b2_4 z_b2_5 z_b2_6 z_b2_7 z_b3_0 z_b3_1 z_b3_2 z_b3_3 z_b3_4 z_b3_5 z_b3_6 z_b3_7 => K .norm (qe8 z_v7 v10 v11 z_v12 z_b0_0 z_b0_1 z_b0_2 z_b0_3 z_b0_4 z_b0_5 z_b0_6 z_b0_7 z_b1_0 z_b1_1 z_b1_2 z_b1_3 z_b2_0 z_b2_1 z_b2_2 z_b2_3 z_b2_4 z_b2_5 z_b2_6 z_b2_7 z_b3_0 z_b3_1 z_b3_2 z_b3_3 z_b3_4 z_b3_5 z_b3_6 z_b3_7) (qe9 z_v7 v10 v11 z_v12 z_b0_0 z_b0_1 z_b0_2 z_b0_3 z_b0_4 z_b0_5 z_b0_6 z_b0_7 z_b1_0 z_b1_1 z_b1_2 z_b1_3 z_b2_0 z_b2_1 z_b2_2 z_b2_3 z_b2_4 z_b2_5 z_b2_6 z_b2_7 z_b3_0 z_b3_1 z_b3_2 z_b3_3 z_b3_4 z_b3_5 z_b3_6 z_b3_7)) (qdj K) := by kernel_rfl
theorem qpp {R : Type} (KK : AV → Mem → Option R) (v10 : List AV) (v11 : Int) (K : Ex → Env → Mem → Option R) : ∀ (n : Nat) (v7 : Bool) (v12 : Int) (Ai : Bool) (Aj Ak Al Am : Int) (An Ao : List UInt8) (Ap : Int) (Au : Bool) (Av Aw Ax : Int) (A2 : Bool) (A3 A4 A5 Be : Int) (Bf Bg : List UInt8) (Bh : Int) (A6 : Bool) (A7 A8 A9 Ba : Int) (Bd Bb : List UInt8) (Bc : Int), qg4 (den 2 (qm [(.cell 4 true 8), .t 5] KK) (qck KK)) n (qe8 v7 v10 v11 v12 Ai Aj Ak Al Am An Ao Ap Au Av Aw Ax A2 A3 A4 A5 Be Bf Bg Bh A6 A7 A8 A9 Ba Bd Bb Bc) (qe9 v7 v10 v11 v12 Ai Aj Ak Al Am An Ao Ap Au Av Aw Ax A2 A3 A4 A5 Be Bf Bg Bh A6 A7 A8 A9 Ba Bd Bb Bc) K = qee v10 v11 (qdj K) n v7 v12 Ai Aj Ak Al Am An Ao Ap Au Av Aw Ax A2 A3 A4 A5 Be Bf Bg Bh A6 A7 A8 A9 Ba Bd Bb Bc := by
  rw [qjd]
  intro n
  induction n with
  | zero => intros; rfl
  | succ n ih =>
 intro v7 v12 Ai Aj Ak Al Am An Ao Ap Au Av Aw Ax A2 A3 A4 A5 Be Bf Bg Bh A6 A7 A8 A9 Ba Bd Bb Bc
 exact (qoj KK v7 v10 v11 v12 Ai Aj Ak Al Am An Ao Ap Au Av Aw Ax A2 A3 A4 A5 Be Bf Bg Bh A6 A7 A8 A9 Ba Bd Bb Bc (itK (den 2 (qm [(.cell 4 true 8), .t 5] KK) (qck KK)) n K)).trans (congrArg (fun q => qcj v7 v10 v11 v12 Ai Aj Ak Al Am An Ao Ap Au Av Aw Ax A2 A3 A4 A5 Be Bf Bg Bh A6 A7 A8 A9 Ba Bd Bb Bc q (qdj K)) (funext fun v7 => funext fun v12 => funext fun Ai => funext fun Aj => funext fun Ak => funext fun Al => funext fun Am => funext fun An => funext fun Ao => funext fun Ap => funext fun Au => funext fun Av => funext fun Aw => funext fun Ax => funext fun A2 => funext fun A3 => funext fun A4 => funext fun A5 => funext fun Be => funext fun Bf => funext fun Bg => funext fun Bh => funext fun A6 => funext fun A7 => funext fun A8 => funext fun A9 => funext fun Ba => funext fun Bd => funext fun Bb => funext fun Bc => ih v7 v12 Ai Aj Ak Al Am An Ao Ap Au Av Aw Ax A2 A3 A4 A5 Be Bf Bg Bh A6 A7 A8 A9 Ba Bd Bb Bc))
def qjs {R : Type} (KK : AV → Mem → Option R) := subE (R := R) qoi fun t m K => qe (bxC (m.s 3)) (qe (bxC (m.s 2)) (qg (bxC (m.s 1)) (qe (bxC (m.s 0)) (qee (gL [t 10] 0) (gI [t 11] 0) (qdj K) FU (gB [t 7] 0) (gI [t 12] 0)))))
theorem qpq {R : Type} (KK : AV → Mem → Option R) : qdh Try.prog (TIof Try.prog) 36 2 (qm [(.cell 4 true 8), .t 5] KK) (.loop (scOf (qck KK))) (qjs KK) :=
  qie tabOk follows (qo4 KK) (qbh (by kernel_rfl)) fun t m K => qpp KK _ _ K FU _ _ _ _ _ _ _ _ _ _ _ _ _ _ _ _ _ _ _ _ _ _ _ _ _ _ _ _ _ _
def qqq : Shp := ⟨[(0, .one (.l (.sl 8))), (1, .one (.fn 63 [(1, 0)]))], [.box true (lk qa), .box true (lk qi)]⟩
def qk6 {R : Type} (KK : AV → Mem → Option R) := (fun v5 Ai Aj Ak Al Am An Ao Ap Au Av Aw Ax A2 A3 A4 A5 Be Bf Bg Bh => KK (.tup [(.agg [(.bool A2), (.int .u64 A3), (.int .u64 A4), (.int .i64 A5), (.int .i64 Be), (.str Bf), (.str Bg), (.int .i64 Bh)]), (.bool v5)]) (qh [(some (.box true [(.bool Ai), (.int .u64 Aj), (.int .u64 Ak), (.int .i64 Al), (.int .i64 Am), (.str An), (.str Ao), (.int .i64 Ap)])), (some (.box true [(.bool Au), (.int .u64 Av), (.int .u64 Aw), (.int .i64 Ax)])), (some (.box true [(.bool A2), (.int .u64 A3), (.int .u64 A4), (.int .i64 A5), (.int .i64 Be), (.str Bf), (.str Bg), (.int .i64 Bh)]))]))
def qgg {R : Type}  (v0 : List AV) (Ai : Bool) (Aj Ak Al Am : Int) (An Ao : List UInt8) (Ap : Int) (Au : Bool) (Av Aw Ax : Int) (kr : Bool → Bool → Int → Int → Int → Int → (List UInt8) → (List UInt8) → Int → Bool → Int → Int → Int → Bool → Int → Int → Int → Int → (List UInt8) → (List UInt8) → Int → Option R) : Option R :=
  (qee v0 (v0.length : Int) (fun v7q1 b0_0q2 b0_1q3 b0_2q4 b0_3q5 b0_4q6 b0_5q7 b0_6q8 b0_7q9 b1_0q10 b1_1q11 b1_2q12 b1_3q13 b2_0q14 b2_1q15 b2_2q16 b2_3q17 b2_4q18 b2_5q19 b2_6q20 b2_7q21 b3_0q22 b3_1q23 b3_2q24 b3_3q25 b3_4q26 b3_5q27 b3_6q28 b3_7q29 => (kr v7q1 b0_0q2 b0_1q3 b0_2q4 b0_3q5 b0_4q6 b0_5q7 b0_6q8 b0_7q9 b1_0q10 b1_1q11 b1_2q12 b1_3q13 b3_0q22 b3_1q23 b3_2q24 b3_3q25 b3_4q26 b3_5q27 b3_6q28 b3_7q29)) FU false (0 : Int) Ai Aj Ak Al Am An Ao Ap Au Av Aw Ax false (0 : Int) (0 : Int) (0 : Int) (0 : Int) ([] : List UInt8) ([] : List UInt8) (0 : Int) false (0 : Int) (0 : Int) (0 : Int) (0 : Int) ([] : List UInt8) ([] : List UInt8) (0 : Int))
def qe5 {R : Type} := hull (qgg (R := R))
theorem qk7 {R : Type} : qe5 (R := R) = qgg := qk _
def qc6 {R : Type} (KK : AV → Mem → Option R) : AC R :=
  .seq (.reg [ao 4 (.alloc [(.bool false), (.int .u64 0), (.int .u64 0), (.int .i64 0), (.int .i64 0), (.str []), (.str []), (.int .i64 0)]),
 ao 5 (.mv (.c (.bool false)))]) (.seq (.reg [ao 6 (.alloc [(.bool false), (.int .u64 0), (.int .u64 0), (.int .i64 0), (.int .i64 0), (.str []), (.str []), (.int .i64 0)])]) (.seq (.reg [ao 7 (.mv (.c (.bool false)))]) (.seq (.seq (.reg [ao 10 (.mv 0),
 ao 11 (.len false 10),
 ao 12 (.mv (.c (.int .i64 0)))]) (.block 0 (.seq (.view [.sel [1, 4, 6, 7, 10, 11, 12] [0, 1, 2, 3]]) (.sub (.loop (scOf (qck KK))) (qjs KK))))) (.seq (.reg [ao 34 (.load true 8 6),
 ao 35 (.mv 7),
 an (.store 8 4 34),
 ao 5 (.mv 35)]) (.seq (.view [.sel [4, 5] [0, 1, 2]]) (.ret))))))
theorem qq9 {R : Type} (KK : AV → Mem → Option R) : AC.ok Try.prog (TIof Try.prog) 36 2 (qm [(.cell 4 true 8), .t 5] KK) (qc6 KK) := qo (zA (qpq KK) trivial)
theorem qrm {R : Type} (KK : AV → Mem → Option R) (v0 : List AV) (Ai : Bool) (Aj Ak Al Am : Int) (An Ao : List UInt8) (Ap : Int) (Au : Bool) (Av Aw Ax : Int) : den 2 (qm [(.cell 4 true 8), .t 5] KK) (qc6 KK) (qj [(0, (.sl 8 v0)), (1, (.func 63 [(.ptr 1 0)]))]) (qh [(some (.box true (qb Ai Aj Ak Al Am An Ao Ap))), (some (.box true (qc Au Av Aw Ax)))]) (kend (qm [(.cell 4 true 8), .t 5] KK)) = qe5 v0 Ai Aj Ak Al Am An Ao Ap Au Av Aw Ax (qk6 KK) := by
  rw [qk7]; kernel_rfl
theorem qrn : cFn (TIof Try.prog) Try.f62 = some ⟨36, [(.cell 4 true 8), .t 5], scOf (qc6 (R := Unit) (fun _ _ => none))⟩ := by kernel_rfl
theorem qro {R : Type} (KK : AV → Mem → Option R) : (qc6 KK).er = some (scOf (qc6 (R := Unit) (fun _ _ => none))) := by kernel_rfl
def qlj {R : Type} : List AV → Mem → (AV → Mem → Option R) → Option R := refE qqq fun xs m KK => qg (bxC (m.s 1)) (qe (bxC (m.s 0)) (qe5 (gL [(ql xs) 0] 0))) (qk6 KK)
theorem qrp {R : Type} : qfe Try.prog 62 (qlj (R := R)) :=
  qkf (ac := fun KK => qc6 KK) tabOk follows Try.func62 (by kernel_rfl) qrn (fun KK => qq9 KK) (fun KK => qro KK) rfl fun xs m KK => qrm KK _ _ _ _ _ _ _ _ _ _ _ _ _
def qra (z : AV) : Option (AV × Bool) := cond (qnm [(.st [.b, (.i .u64), (.i .u64), (.i .i64), (.i .i64), .s, .s, (.i .i64)]), (.one .b)] z) (some ((gC (tpL z) 0), aB (gC (tpL z) 1))) none
def qbat (r : AV × Bool) : AV := .tup [qpm (.st [.b, (.i .u64), (.i .u64), (.i .i64), (.i .i64), .s, .s, (.i .i64)]) r.1, .bool r.2]
def qbau : Shp := ⟨[(0, .one (.l (.sl 8))), (1, .st (lk qi))], []⟩
def qt4 (v0 : List AV) (Aq : Bool) (Ar As At : Int) : Option (AV × Bool) :=
  (qe5 v0 false (0 : Int) (0 : Int) (0 : Int) (0 : Int) ([] : List UInt8) ([] : List UInt8) (0 : Int) Aq Ar As At fun v5q1 b0_0q2 b0_1q3 b0_2q4 b0_3q5 b0_4q6 b0_5q7 b0_6q8 b0_7q9 b1_0q10 b1_1q11 b1_2q12 b1_3q13 b2_0q14 b2_1q15 b2_2q16 b2_3q17 b2_4q18 b2_5q19 b2_6q20 b2_7q21 => (some ((.agg [(.bool b2_0q14), (.int .u64 b2_1q15), (.int .u64 b2_2q16), (.int .i64 b2_3q17), (.int .i64 b2_4q18), (.str b2_5q19), (.str b2_6q20), (.int .i64 b2_7q21)]), v5q1)))
def qkt := hull qt4
theorem q0d : qkt = qt4 := qk _
def qt5 : AC (AV × Bool) :=
  .seq (.reg [ao 3 (.box 1),
 ao 4 (.alloc [(.bool false), (.int .u64 0), (.int .u64 0), (.int .i64 0), (.int .i64 0), (.str []), (.str []), (.int .i64 0)]),
 ao 5 (.mv (.c (.bool false)))]) (.seq (.reg [ao 6 (.mv 0),
 ao 7 (.mkf 63 [3]),
 .st (.sel [4, 6, 7] [1, 0]),
 .callr (po 8 (.call 62 [6, 7])) 62 qlj,
 ao 9 (.ext 8 0),
 ao 10 (.ext 8 1),
 an (.store 8 4 9),
 ao 5 (.mv 10)]) (.ret))
theorem qbcu : AC.ok Try.prog (TIof Try.prog) 11 0 (kret [(.cell 4 true 8), .t 5] qra) qt5 := qo (zA qrp trivial)
theorem qben (v0 : List AV) (Aq : Bool) (Ar As At : Int) : den 0 (kret [(.cell 4 true 8), .t 5] qra) qt5 (qj [(0, (.sl 8 v0)), (1, .agg (qc Aq Ar As At))]) (qh []) (kend (kret [(.cell 4 true 8), .t 5] qra)) = qkt v0 Aq Ar As At := by
  rw [q0d]; kernel_rfl
theorem qbeo : cFn (TIof Try.prog) Try.f26 = some ⟨11, [(.cell 4 true 8), .t 5], scOf qt5⟩ := by kernel_rfl
def qbep (xs : List AV) : Option (AV × Bool) := qg ((ql xs) 1).cells (qkt (gL [(ql xs) 0] 0))
def qrb {R : Type} : List AV → (AV → Option R) → Option R := entF qbau qbep qbat
theorem q1m {R : Type} : qd Try.prog 26 (qrb (R := R)) :=
  qch tabOk follows Try.func26 (by kernel_rfl) qbeo (fun z r h => by
 obtain ⟨h1, h2⟩ := qn h
 cases h2
 exact (qkd h1).symm) qbcu (qbh (by kernel_rfl)) fun xs => qben _ _ _ _ _
def q6t : Shp := ⟨[(0, .st (lk qa)), (1, .one (.ptr 1 0))], [.box true (lk qa), .box true (lk qd2), .box true (lk qa), .box true (lk qa), .box true (lk qa)]⟩
def qw8 {R : Type} (KK : AV → Mem → Option R) := (fun v3 Ai Aj Ak Al Am An Ao Ap Au Av Aw A2 A3 A4 A5 Be Bf Bg Bh A6 A7 A8 A9 Ba Bd Bb Bc Bi Bj Bl Bm Bn Bo Bp Bq => KK (.bool v3) (qh [(some (.box true [(.bool Ai), (.int .u64 Aj), (.int .u64 Ak), (.int .i64 Al), (.int .i64 Am), (.str An), (.str Ao), (.int .i64 Ap)])), (some (.box true [(.bool Au), (.int .u64 Av), (.int .u64 Aw)])), (some (.box true [(.bool A2), (.int .u64 A3), (.int .u64 A4), (.int .i64 A5), (.int .i64 Be), (.str Bf), (.str Bg), (.int .i64 Bh)])), (some (.box true [(.bool A6), (.int .u64 A7), (.int .u64 A8), (.int .i64 A9), (.int .i64 Ba), (.str Bd), (.str Bb), (.int .i64 Bc)])), (some (.box true [(.bool Bi), (.int .u64 Bj), (.int .u64 Bl), (.int .i64 Bm), (.int .i64 Bn), (.str Bo), (.str Bp), (.int .i64 Bq)]))]))
def qrc {R : Type}  (Aa : Bool) (Ab Ac Ad Ae : Int) (Af Ag : List UInt8) (Ah : Int) (Ai : Bool) (Aj Ak Al Am : Int) (An Ao : List UInt8) (Ap : Int) (Au : Bool) (Av Aw : Int) (A2 : Bool) (A3 A4 A5 Be : Int) (Bf Bg : List UInt8) (Bh : Int) (A6 : Bool) (A7 A8 A9 Ba : Int) (Bd Bb : List UInt8) (Bc : Int) (Bi : Bool) (Bj Bl Bm Bn : Int) (Bo Bp : List UInt8) (Bq : Int) (kr : Bool → Bool → Int → Int → Int → Int → (List UInt8) → (List UInt8) → Int → Bool → Int → Int → Bool → Int → Int → Int → Int → (List UInt8) → (List UInt8) → Int → Bool → Int → Int → Int → Int → (List UInt8) → (List UInt8) → Int → Bool → Int → Int → Int → Int → (List UInt8) → (List UInt8) → Int → Option R) : Option R :=
  (oB (qf2 Aa Ab Ac Ad Au Av Aw) fun r1 => (kr r1 Ai Aj Ak Al Am An Ao Ap Au Av Aw A2 A3 A4 A5 Be Bf Bg Bh A6 A7 A8 A9 Ba Bd Bb Bc Bi Bj Bl Bm Bn Bo Bp Bq))
def qph {R : Type} := hull (qrc (R := R))
theorem qw9 {R : Type} : qph (R := R) = qrc := qk _
def qh9 {R : Type} (KK : AV → Mem → Option R) : AC R :=
  .seq (.reg [ao 2 (.box 0),
 ao 3 (.mv (.c (.bool false)))]) (.seq (.reg [ao 4 (.fa 0 2),
 ao 5 (.load true 4 4),
 ao 6 (.load true 3 1),
 .call (po 7 (.call 35 [5, 6])) 35 qi3,
 ao 3 (.mv 7)]) (.seq (.view [.sel [3] [0, 1, 2, 3, 4]]) (.ret)))
theorem q71 {R : Type} (KK : AV → Mem → Option R) : AC.ok Try.prog (TIof Try.prog) 8 5 (qm [.t 3] KK) (qh9 KK) := qo (zA (qd.ok qmw) trivial)
theorem qbav {R : Type} (KK : AV → Mem → Option R) (Aa : Bool) (Ab Ac Ad Ae : Int) (Af Ag : List UInt8) (Ah : Int) (Ai : Bool) (Aj Ak Al Am : Int) (An Ao : List UInt8) (Ap : Int) (Au : Bool) (Av Aw : Int) (A2 : Bool) (A3 A4 A5 Be : Int) (Bf Bg : List UInt8) (Bh : Int) (A6 : Bool) (A7 A8 A9 Ba : Int) (Bd Bb : List UInt8) (Bc : Int) (Bi : Bool) (Bj Bl Bm Bn : Int) (Bo Bp : List UInt8) (Bq : Int) : den 5 (qm [.t 3] KK) (qh9 KK) (qj [(0, .agg (qb Aa Ab Ac Ad Ae Af Ag Ah)), (1, (.ptr 1 0))]) (qh [(some (.box true (qb Ai Aj Ak Al Am An Ao Ap))), (some (.box true (qbr Au Av Aw))), (some (.box true (qb A2 A3 A4 A5 Be Bf Bg Bh))), (some (.box true (qb A6 A7 A8 A9 Ba Bd Bb Bc))), (some (.box true (qb Bi Bj Bl Bm Bn Bo Bp Bq)))]) (kend (qm [.t 3] KK)) = qph Aa Ab Ac Ad Ae Af Ag Ah Ai Aj Ak Al Am An Ao Ap Au Av Aw A2 A3 A4 A5 Be Bf Bg Bh A6 A7 A8 A9 Ba Bd Bb Bc Bi Bj Bl Bm Bn Bo Bp Bq (qw8 KK) := by
  rw [qw9]; kernel_rfl
theorem qbaw : cFn (TIof Try.prog) Try.f65 = some ⟨8, [.t 3], scOf (qh9 (R := Unit) (fun _ _ => none))⟩ := by kernel_rfl
theorem qbax {R : Type} (KK : AV → Mem → Option R) : (qh9 KK).er = some (scOf (qh9 (R := Unit) (fun _ _ => none))) := by kernel_rfl
def qyu {R : Type} : List AV → Mem → (AV → Mem → Option R) → Option R := refE q6t fun xs m KK => qe (bxC (m.s 4)) (qe (bxC (m.s 3)) (qe (bxC (m.s 2)) (qc2 (bxC (m.s 1)) (qe (bxC (m.s 0)) (qe ((ql xs) 0).cells (qph)))))) (qw8 KK)
theorem qbay {R : Type} : qfe Try.prog 65 (qyu (R := R)) :=
  qkf (ac := fun KK => qh9 KK) tabOk follows Try.func65 (by kernel_rfl) qbaw (fun KK => q71 KK) (fun KK => qbax KK) rfl fun xs m KK => qbav KK _ _ _ _ _ _ _ _ _ _ _ _ _ _ _ _ _ _ _ _ _ _ _ _ _ _ _ _ _ _ _ _ _ _ _ _ _ _ _ _ _ _ _
def qje {R : Type}  (v7 : Bool) (v10 : List AV) (v11 v12 : Int) (K : Ex → Env → Mem → Option R) := (fun z_v31 z_b0_0 z_b0_1 z_b0_2 z_b0_3 z_b0_4 z_b0_5 z_b0_6 z_b0_7 z_b1_0 z_b1_1 z_b1_2 z_b2_0 z_b2_1 z_b2_2 z_b2_3 z_b2_4 z_b2_5 z_b2_6 z_b2_7 z_b3_0 z_b3_1 z_b3_2 z_b3_3 z_b3_4 z_b3_5 z_b3_6 z_b3_7 z_b4_0 z_b4_1 z_b4_2 z_b4_3 z_b4_4 z_b4_5 z_b4_6 z_b4_7 => K .norm (qj [(1, (.func 65 [(.ptr 1 0)])), (4, (.ptr 2 0)), (6, (.ptr 3 0)), (7, (.bool v7)), (9, (.ptr 4 0)), (10, (.sl 8 v10)), (11, (.int .i64 v11)), (12, (.int .i64 v12)), (31, (.bool z_v31))]) (qh [(some (.box true (qb z_b0_0 z_b0_1 z_b0_2 z_b0_3 z_b0_4 z_b0_5 z_b0_6 z_b0_7))), (some (.box true (qbr z_b1_0 z_b1_1 z_b1_2))), (some (.box true (qb z_b2_0 z_b2_1 z_b2_2 z_b2_3 z_b2_4 z_b2_5 z_b2_6 z_b2_7))), (some (.box true (qb z_b3_0 z_b3_1 z_b3_2 z_b3_3 z_b3_4 z_b3_5 z_b3_6 z_b3_7))), (some (.box true (qb z_b4_0 z_b4_1 z_b4_2 z_b4_3 z_b4_4 z_b4_5 z_b4_6 z_b4_7)))]))
def qok : Shp := ⟨[(1, .one (.fn 65 [(1, 0)])), (4, .one (.ptr 2 0)), (6, .one (.ptr 3 0)), (7, .one (.l .b)), (9, .one (.ptr 4 0)), (10, .one (.l (.sl 8))), (11, .one (.l (.i .i64))), (12, .one (.l (.i .i64)))], [.box true (lk qa), .box true (lk qd2), .box true (lk qa), .box true (lk qa), .box true (lk qa)]⟩
def qfh {R : Type}  (v7 : Bool) (v10 : List AV) (v11 v12 : Int) (Ai : Bool) (Aj Ak Al Am : Int) (An Ao : List UInt8) (Ap : Int) (Au : Bool) (Av Aw : Int) (A2 : Bool) (A3 A4 A5 Be : Int) (Bf Bg : List UInt8) (Bh : Int) (A6 : Bool) (A7 A8 A9 Ba : Int) (Bd Bb : List UInt8) (Bc : Int) (Bi : Bool) (Bj Bl Bm Bn : Int) (Bo Bp : List UInt8) (Bq : Int) (kn : Bool → Bool → Int → Int → Int → Int → (List UInt8) → (List UInt8) → Int → Bool → Int → Int → Bool → Int → Int → Int → Int → (List UInt8) → (List UInt8) → Int → Bool → Int → Int → Int → Int → (List UInt8) → (List UInt8) → Int → Bool → Int → Int → Int → Int → (List UInt8) → (List UInt8) → Int → Option R) : Option R :=
  (qph Bi Bj Bl Bm Bn Bo Bp Bq Ai Aj Ak Al Am An Ao Ap Au Av Aw A2 A3 A4 A5 Be Bf Bg Bh A6 A7 A8 A9 Ba Bd Bb Bc Bi Bj Bl Bm Bn Bo Bp Bq fun v3q1 b0_0q2 b0_1q3 b0_2q4 b0_3q5 b0_4q6 b0_5q7 b0_6q8 b0_7q9 b1_0q10 b1_1q11 b1_2q12 b2_0q13 b2_1q14 b2_2q15 b2_3q16 b2_4q17 b2_5q18 b2_6q19 b2_7q20 b3_0q21 b3_1q22 b3_2q23 b3_3q24 b3_4q25 b3_5q26 b3_6q27 b3_7q28 b4_0q29 b4_1q30 b4_2q31 b4_3q32 b4_4q33 b4_5q34 b4_6q35 b4_7q36 => (bif v3q1 then (bif (!v7) then (kn true b0_0q2 b0_1q3 b0_2q4 b0_3q5 b0_4q6 b0_5q7 b0_6q8 b0_7q9 b1_0q10 b1_1q11 b1_2q12 b2_0q13 b2_1q14 b2_2q15 b2_3q16 b2_4q17 b2_5q18 b2_6q19 b2_7q20 b3_0q21 b3_1q22 b3_2q23 b3_3q24 b3_4q25 b3_5q26 b3_6q27 b3_7q28 b4_0q29 b4_1q30 b4_2q31 b4_3q32 b4_4q33 b4_5q34 b4_6q35 b4_7q36) else (kn (decide (b4_3q32 > b3_3q24)) b0_0q2 b0_1q3 b0_2q4 b0_3q5 b0_4q6 b0_5q7 b0_6q8 b0_7q9 b1_0q10 b1_1q11 b1_2q12 b2_0q13 b2_1q14 b2_2q15 b2_3q16 b2_4q17 b2_5q18 b2_6q19 b2_7q20 b3_0q21 b3_1q22 b3_2q23 b3_3q24 b3_4q25 b3_5q26 b3_6q27 b3_7q28 b4_0q29 b4_1q30 b4_2q31 b4_3q32 b4_4q33 b4_5q34 b4_6q35 b4_7q36)) else (kn false b0_0q2 b0_1q3 b0_2q4 b0_3q5 b0_4q6 b0_5q7 b0_6q8 b0_7q9 b1_0q10 b1_1q11 b1_2q12 b2_0q13 b2_1q14 b2_2q15 b2_3q16 b2_4q17 b2_5q18 b2_6q19 b2_7q20 b3_0q21 b3_1q22 b3_2q23 b3_3q24 b3_4q25 b3_5q26 b3_6q27 b3_7q28 b4_0q29 b4_1q30 b4_2q31 b4_3q32 b4_4q33 b4_5q34 b4_6q35 b4_7q36)))
def qef {R : Type} := hull (qfh (R := R))
theorem qjf {R : Type} : qef (R := R) = qfh := qk _
def qdv {R : Type} (KK : AV → Mem → Option R) : AC R :=
  .seq (.reg [ao 16 (.mv 1),
 ao 17 (.load true 8 9),
 .st (.sel [1, 4, 6, 7, 9, 10, 11, 12, 16, 17] [0, 1, 2, 3, 4]),
 .callr (po 18 (.callv 16 [17])) 65 qyu,
 ao 19 (.mv 18),
 ag 20 19 true (.mv 7),
 ag 21 19 true (.un .not 20),
 ag 22 19 true (.mv 21),
 ag 23 22 false (.fa 0 9),
 ag 24 22 false (.fa 3 23),
 ag 25 22 false (.load false 1 24),
 ag 26 22 false (.fa 0 6),
 ag 27 22 false (.fa 3 26),
 ag 28 22 false (.load false 1 27),
 ag 29 22 false (.bin .gtr 25 28),
 ag 30 19 true (.pick 22 (.c (.bool true)) 29),
 ao 31 (.pick 19 30 (.c (.bool false)))]) (.view [.sel [1, 4, 6, 7, 9, 10, 11, 12, 31] [0, 1, 2, 3, 4]])
theorem qo5 {R : Type} (KK : AV → Mem → Option R) : AC.ok Try.prog (TIof Try.prog) 36 2 (qm [(.cell 4 true 8), .t 5] KK) (qdv KK) := qo (zA qbay trivial)
theorem qpr {R : Type} (KK : AV → Mem → Option R) (v7 : Bool) (v10 : List AV) (v11 v12 : Int) (Ai : Bool) (Aj Ak Al Am : Int) (An Ao : List UInt8) (Ap : Int) (Au : Bool) (Av Aw : Int) (A2 : Bool) (A3 A4 A5 Be : Int) (Bf Bg : List UInt8) (Bh : Int) (A6 : Bool) (A7 A8 A9 Ba : Int) (Bd Bb : List UInt8) (Bc : Int) (Bi : Bool) (Bj Bl Bm Bn : Int) (Bo Bp : List UInt8) (Bq : Int) (K : Ex → Env → Mem → Option R) : den 2 (qm [(.cell 4 true 8), .t 5] KK) (qdv KK) (qj [(1, (.func 65 [(.ptr 1 0)])), (4, (.ptr 2 0)), (6, (.ptr 3 0)), (7, (.bool v7)), (9, (.ptr 4 0)), (10, (.sl 8 v10)), (11, (.int .i64 v11)), (12, (.int .i64 v12))]) (qh [(some (.box true (qb Ai Aj Ak Al Am An Ao Ap))), (some (.box true (qbr Au Av Aw))), (some (.box true (qb A2 A3 A4 A5 Be Bf Bg Bh))), (some (.box true (qb A6 A7 A8 A9 Ba Bd Bb Bc))), (some (.box true (qb Bi Bj Bl Bm Bn Bo Bp Bq)))]) K = qef v7 v10 v11 v12 Ai Aj Ak Al Am An Ao Ap Au Av Aw A2 A3 A4 A5 Be Bf Bg Bh A6 A7 A8 A9 Ba Bd Bb Bc Bi Bj Bl Bm Bn Bo Bp Bq (qje v7 v10 v11 v12 K) := by
  rw [qjf]; kernel_rfl
def qjt {R : Type} (KK : AV → Mem → Option R) := subE (R := R) qok fun t m K => qe (bxC (m.s 4)) (qe (bxC (m.s 3)) (qe (bxC (m.s 2)) (qc2 (bxC (m.s 1)) (qe (bxC (m.s 0)) (qef (gB [t 7] 0) (gL [t 10] 0) (gI [t 11] 0) (gI [t 12] 0)))))) (qje (gB [t 7] 0) (gL [t 10] 0) (gI [t 11] 0) (gI [t 12] 0) K)
theorem qps {R : Type} (KK : AV → Mem → Option R) : qdh Try.prog (TIof Try.prog) 36 2 (qm [(.cell 4 true 8), .t 5] KK) (scOf (qdv KK)) (qjt KK) :=
  qke tabOk follows (qo5 KK) (qbh (by kernel_rfl)) fun t m K => qpr KK _ _ _ _ _ _ _ _ _ _ _ _ _ _ _ _ _ _ _ _ _ _ _ _ _ _ _ _ _ _ _ _ _ _ _ _ _ _ _ K
def qdk {R : Type}  (K : Ex → Env → Mem → Option R) := (fun z_v7 z_b0_0 z_b0_1 z_b0_2 z_b0_3 z_b0_4 z_b0_5 z_b0_6 z_b0_7 z_b1_0 z_b1_1 z_b1_2 z_b2_0 z_b2_1 z_b2_2 z_b2_3 z_b2_4 z_b2_5 z_b2_6 z_b2_7 z_b3_0 z_b3_1 z_b3_2 z_b3_3 z_b3_4 z_b3_5 z_b3_6 z_b3_7 => K (.exit 0) (qj [(4, (.ptr 2 0)), (6, (.ptr 3 0)), (7, (.bool z_v7))]) (qh [(some (.box true (qb z_b0_0 z_b0_1 z_b0_2 z_b0_3 z_b0_4 z_b0_5 z_b0_6 z_b0_7))), (some (.box true (qbr z_b1_0 z_b1_1 z_b1_2))), (some (.box true (qb z_b2_0 z_b2_1 z_b2_2 z_b2_3 z_b2_4 z_b2_5 z_b2_6 z_b2_7))), (some (.box true (qb z_b3_0 z_b3_1 z_b3_2 z_b3_3 z_b3_4 z_b3_5 z_b3_6 z_b3_7)))]))
def qol : Shp := ⟨[(1, .one (.fn 65 [(1, 0)])), (4, .one (.ptr 2 0)), (6, .one (.ptr 3 0)), (7, .one (.l .b)), (10, .one (.l (.sl 8))), (11, .one (.l (.i .i64))), (12, .one (.l (.i .i64)))], [.box true (lk qa), .box true (lk qd2), .box true (lk qa), .box true (lk qa)]⟩
def qfa (v7 : Bool) (v10 : List AV) (v11 v12 : Int) (Ai : Bool) (Aj Ak Al Am : Int) (An Ao : List UInt8) (Ap : Int) (Au : Bool) (Av Aw : Int) (A2 : Bool) (A3 A4 A5 Be : Int) (Bf Bg : List UInt8) (Bh : Int) (A6 : Bool) (A7 A8 A9 Ba : Int) (Bd Bb : List UInt8) (Bc : Int) : Env := qj [(1, (.func 65 [(.ptr 1 0)])), (4, (.ptr 2 0)), (6, (.ptr 3 0)), (7, (.bool v7)), (10, (.sl 8 v10)), (11, (.int .i64 v11)), (12, (.int .i64 v12))]
def qfb (v7 : Bool) (v10 : List AV) (v11 v12 : Int) (Ai : Bool) (Aj Ak Al Am : Int) (An Ao : List UInt8) (Ap : Int) (Au : Bool) (Av Aw : Int) (A2 : Bool) (A3 A4 A5 Be : Int) (Bf Bg : List UInt8) (Bh : Int) (A6 : Bool) (A7 A8 A9 Ba : Int) (Bd Bb : List UInt8) (Bc : Int) : Mem := qh [(some (.box true (qb Ai Aj Ak Al Am An Ao Ap))), (some (.box true (qbr Au Av Aw))), (some (.box true (qb A2 A3 A4 A5 Be Bf Bg Bh))), (some (.box true (qb A6 A7 A8 A9 Ba Bd Bb Bc)))]
def qcl {R : Type}  (v7 : Bool) (v10 : List AV) (v11 v12 : Int) (Ai : Bool) (Aj Ak Al Am : Int) (An Ao : List UInt8) (Ap : Int) (Au : Bool) (Av Aw : Int) (A2 : Bool) (A3 A4 A5 Be : Int) (Bf Bg : List UInt8) (Bh : Int) (A6 : Bool) (A7 A8 A9 Ba : Int) (Bd Bb : List UInt8) (Bc : Int) (next : Bool → Int → Bool → Int → Int → Int → Int → (List UInt8) → (List UInt8) → Int → Bool → Int → Int → Bool → Int → Int → Int → Int → (List UInt8) → (List UInt8) → Int → Bool → Int → Int → Int → Int → (List UInt8) → (List UInt8) → Int → Option R) (kx0 : Bool → Bool → Int → Int → Int → Int → (List UInt8) → (List UInt8) → Int → Bool → Int → Int → Bool → Int → Int → Int → Int → (List UInt8) → (List UInt8) → Int → Bool → Int → Int → Int → Int → (List UInt8) → (List UInt8) → Int → Option R) : Option R :=
  (bif (decide (v12 < v11)) then (oB (ixB v10 v12) fun y1 => (bif fitC qa y1.cells then (qef v7 v10 v11 v12 Ai Aj Ak Al Am An Ao Ap Au Av Aw A2 A3 A4 A5 Be Bf Bg Bh A6 A7 A8 A9 Ba Bd Bb Bc (gB y1.cells 0) (gI y1.cells 1) (gI y1.cells 2) (gI y1.cells 3) (gI y1.cells 4) (gS y1.cells 5) (gS y1.cells 6) (gI y1.cells 7) (fun v31q2 b0_0q3 b0_1q4 b0_2q5 b0_3q6 b0_4q7 b0_5q8 b0_6q9 b0_7q10 b1_0q11 b1_1q12 b1_2q13 b2_0q14 b2_1q15 b2_2q16 b2_3q17 b2_4q18 b2_5q19 b2_6q20 b2_7q21 b3_0q22 b3_1q23 b3_2q24 b3_3q25 b3_4q26 b3_5q27 b3_6q28 b3_7q29 b4_0q30 b4_1q31 b4_2q32 b4_3q33 b4_4q34 b4_5q35 b4_6q36 b4_7q37 => (bif v31q2 then (next true (IntKind.i64.wrap (v12 + (1 : Int))) b0_0q3 b0_1q4 b0_2q5 b0_3q6 b0_4q7 b0_5q8 b0_6q9 b0_7q10 b1_0q11 b1_1q12 b1_2q13 b2_0q14 b2_1q15 b2_2q16 b2_3q17 b2_4q18 b2_5q19 b2_6q20 b2_7q21 b4_0q30 b4_1q31 b4_2q32 b4_3q33 b4_4q34 b4_5q35 b4_6q36 b4_7q37) else (next v7 (IntKind.i64.wrap (v12 + (1 : Int))) b0_0q3 b0_1q4 b0_2q5 b0_3q6 b0_4q7 b0_5q8 b0_6q9 b0_7q10 b1_0q11 b1_1q12 b1_2q13 b2_0q14 b2_1q15 b2_2q16 b2_3q17 b2_4q18 b2_5q19 b2_6q20 b2_7q21 b3_0q22 b3_1q23 b3_2q24 b3_3q25 b3_4q26 b3_5q27 b3_6q28 b3_7q29)))) else none)) else (kx0 v7 Ai Aj Ak Al Am An Ao Ap Au Av Aw A2 A3 A4 A5 Be Bf Bg Bh A6 A7 A8 A9 Ba Bd Bb Bc))
def qdc {R : Type}  (v10 : List AV) (v11 : Int) (kx0 : Bool → Bool → Int → Int → Int → Int → (List UInt8) → (List UInt8) → Int → Bool → Int → Int → Bool → Int → Int → Int → Int → (List UInt8) → (List UInt8) → Int → Bool → Int → Int → Int → Int → (List UInt8) → (List UInt8) → Int → Option R) : Nat → Bool → Int → Bool → Int → Int → Int → Int → (List UInt8) → (List UInt8) → Int → Bool → Int → Int → Bool → Int → Int → Int → Int → (List UInt8) → (List UInt8) → Int → Bool → Int → Int → Int → Int → (List UInt8) → (List UInt8) → Int → Option R
  | 0 => (fun _ _ _ _ _ _ _ _ _ _ _ _ _ _ _ _ _ _ _ _ _ _ _ _ _ _ _ _ _ => none)
  | n + 1 => (fun v7 v12 Ai Aj Ak Al Am An Ao Ap Au Av Aw A2 A3 A4 A5 Be Bf Bg Bh A6 A7 A8 A9 Ba Bd Bb Bc => qcl v7 v10 v11 v12 Ai Aj Ak Al Am An Ao Ap Au Av Aw A2 A3 A4 A5 Be Bf Bg Bh A6 A7 A8 A9 Ba Bd Bb Bc (qdc v10 v11 kx0 n) kx0)
def qeg {R : Type} := hull (qdc (R := R))
theorem qjg {R : Type} : qeg (R := R) = qdc := qk _
def qcm {R : Type} (KK : AV → Mem → Option R) : AC R :=
  .seq (.reg [ao 13 (.bin .lss 12 11)]) (.seq (.cond 13 (.skip) (.seq (.view [.sel [4, 6, 7] [0, 1, 2, 3]]) (.exit 0))) (.seq (.block 1 (.seq (.reg [ao 14 (.ia 8 10 12),
 .st (.etac 14 qa),
 ao 15 (.load true 8 14),
 ao 9 (.alloc [(.bool false), (.int .u64 0), (.int .u64 0), (.int .i64 0), (.int .i64 0), (.str []), (.str []), (.int .i64 0)]),
 an (.store 8 9 15)]) (.seq (.seq (.view [.sel [1, 4, 6, 7, 9, 10, 11, 12] [0, 1, 2, 3, 4]]) (.sub (scOf (qdv KK)) (qjt KK))) (.cond 31 (.reg [ao 32 (.load true 8 9),
 an (.store 8 6 32),
 ao 7 (.mv (.c (.bool true)))]) (.skip))))) (.seq (.reg [ao 33 (.bin .add 12 (.c (.int .i64 1))),
 ao 12 (.mv 33)]) (.view [.sel [1, 4, 6, 7, 10, 11, 12] [0, 1, 2, 3]]))))
theorem qo6 {R : Type} (KK : AV → Mem → Option R) : AC.ok Try.prog (TIof Try.prog) 36 2 (qm [(.cell 4 true 8), .t 5] KK) (qcm KK) := qo (zA (qps KK) trivial)
theorem qom {R : Type} (KK : AV → Mem → Option R) (v7 : Bool) (v10 : List AV) (v11 v12 : Int) (Ai : Bool) (Aj Ak Al Am : Int) (An Ao : List UInt8) (Ap : Int) (Au : Bool) (Av Aw : Int) (A2 : Bool) (A3 A4 A5 Be : Int) (Bf Bg : List UInt8) (Bh : Int) (A6 : Bool) (A7 A8 A9 Ba : Int) (Bd Bb : List UInt8) (Bc : Int) (K : Ex → Env → Mem → Option R) : den 2 (qm [(.cell 4 true 8), .t 5] KK) (qcm KK) (qfa v7 v10 v11 v12 Ai Aj Ak Al Am An Ao Ap Au Av Aw A2 A3 A4 A5 Be Bf Bg Bh A6 A7 A8 A9 Ba Bd Bb Bc) (qfb v7 v10 v11 v12 Ai Aj Ak Al Am An Ao Ap Au Av Aw A2 A3 A4 A5 Be Bf Bg Bh A6 A7 A8 A9 Ba Bd Bb Bc) K = qcl v7 v10 v11 v12 Ai Aj Ak Al Am An Ao Ap Au Av Aw A2 A3 A4 A5 Be Bf Bg Bh A6 A7 A8 A9 Ba Bd Bb Bc (fun z_v7 z_v12 z_b0_0 z_b0_1 z_b0_2 z_b0_3 z_b0_4 z_b0_5 z_b0_6 z_b0_7 z_b1_0 z_b1_1 z_b1_2 z_b2_0 z_b2_1 z_b2_2 z_b2_3 z_b2_4 z_b2_5 z_b2_6 z_b2_7 z_b3_0 z_b3_1 z_b3_2 z_b3_3 z_b3_4 z_b3_5 z_b3_6 z_b3_7 => K .norm (qfa z_v7 v10 v11 z_v12 z_b0_0 z_b0_1 z_b0_2 z_b0_3 z_b0_4 z_b0_5 z_b0_6 z_b0_7 z_b1_0 z_b1_1 z_b1_2 z_b2_0 z_b2_1 z_b2_2 z_b2_3 z_b2_4 z_b2_5 z_b2_6 z_b2_7 z_b3_0 z_b3_1 z_b3_2 z_b3_3 z_b3_4 z_b3_5 z_b3_6 z_b3_7) (qfb z_v7 v10 v11 z_v12 z_b0_0 z_b0_1 z_b0_2 z_b0_3 z_b0_4 z_b0_5 z_b0_6 z_b0_7 z_b1_0 z_b1_1 z_b1_2 z_b2_0 z_b2_1 z_b2_2 z_b2_3 z_b2_4 z_b2_5 z_b2_6 z_b2_7 z_b3_0 z_b3_1 z_b3_2 z_b3_3 z_b3_4 z_b3_5 z_b3_6 z_b3_7)) (qdk K) := by kernel_rfl
theorem qpt {R : Type} (KK : AV → Mem → Option R) (v10 : List AV) (v11 : Int) (K : Ex → Env → Mem → Option R) : ∀ (n : Nat) (v7 : Bool) (v12 : Int) (Ai : Bool) (Aj Ak Al Am : Int) (An Ao : List UInt8) (Ap : Int) (Au : Bool) (Av Aw : Int) (A2 : Bool) (A3 A4 A5 Be : Int) (Bf Bg : List UInt8) (Bh : Int) (A6 : Bool) (A7 A8 A9 Ba : Int) (Bd Bb : List UInt8) (Bc : Int), qg4 (den 2 (qm [(.cell 4 true 8), .t 5] KK) (qcm KK)) n (qfa v7 v10 v11 v12 Ai Aj Ak Al Am An Ao Ap Au Av Aw A2 A3 A4 A5 Be Bf Bg Bh A6 A7 A8 A9 Ba Bd Bb Bc) (qfb v7 v10 v11 v12 Ai Aj Ak Al Am An Ao Ap Au Av Aw A2 A3 A4 A5 Be Bf Bg Bh A6 A7 A8 A9 Ba Bd Bb Bc) K = qeg v10 v11 (qdk K) n v7 v12 Ai Aj Ak Al Am An Ao Ap Au Av Aw A2 A3 A4 A5 Be Bf Bg Bh A6 A7 A8 A9 Ba Bd Bb Bc := by
  rw [qjg]
  intro n
  induction n with
  | zero => intros; rfl
  | succ n ih =>
 intro v7 v12 Ai Aj Ak Al Am An Ao Ap Au Av Aw A2 A3 A4 A5 Be Bf Bg Bh A6 A7 A8 A9 Ba Bd Bb Bc
 exact (qom KK v7 v10 v11 v12 Ai Aj Ak Al Am An Ao Ap Au Av Aw A2 A3 A4 A5 Be Bf Bg Bh A6 A7 A8 A9 Ba Bd Bb Bc (itK (den 2 (qm [(.cell 4 true 8), .t 5] KK) (qcm KK)) n K)).trans (congrArg (fun q => qcl v7 v10 v11 v12 Ai Aj Ak Al Am An Ao Ap Au Av Aw A2 A3 A4 A5 Be Bf Bg Bh A6 A7 A8 A9 Ba Bd Bb Bc q (qdk K)) (funext fun v7 => funext fun v12 => funext fun Ai => funext fun Aj => funext fun Ak => funext fun Al => funext fun Am => funext fun An => funext fun Ao => funext fun Ap => funext fun Au => funext fun Av => funext fun Aw => funext fun A2 => funext fun A3 => funext fun A4 => funext fun A5 => funext fun Be => funext fun Bf => funext fun Bg => funext fun Bh => funext fun A6 => funext fun A7 => funext fun A8 => funext fun A9 => funext fun Ba => funext fun Bd => funext fun Bb => funext fun Bc => ih v7 v12 Ai Aj Ak Al Am An Ao Ap Au Av Aw A2 A3 A4 A5 Be Bf Bg Bh A6 A7 A8 A9 Ba Bd Bb Bc))
def qju {R : Type} (KK : AV → Mem → Option R) := subE (R := R) qol fun t m K => qe (bxC (m.s 3)) (qe (bxC (m.s 2)) (qc2 (bxC (m.s 1)) (qe (bxC (m.s 0)) (qeg (gL [t 10] 0) (gI [t 11] 0) (qdk K) FU (gB [t 7] 0) (gI [t 12] 0)))))
theorem qpu {R : Type} (KK : AV → Mem → Option R) : qdh Try.prog (TIof Try.prog) 36 2 (qm [(.cell 4 true 8), .t 5] KK) (.loop (scOf (qcm KK))) (qju KK) :=
  qie tabOk follows (qo6 KK) (qbh (by kernel_rfl)) fun t m K => qpt KK _ _ K FU _ _ _ _ _ _ _ _ _ _ _ _ _ _ _ _ _ _ _ _ _ _ _ _ _ _ _ _ _
def qqr : Shp := ⟨[(0, .one (.l (.sl 8))), (1, .one (.fn 65 [(1, 0)]))], [.box true (lk qa), .box true (lk qd2)]⟩
def qk8 {R : Type} (KK : AV → Mem → Option R) := (fun v5 Ai Aj Ak Al Am An Ao Ap Au Av Aw A2 A3 A4 A5 Be Bf Bg Bh => KK (.tup [(.agg [(.bool A2), (.int .u64 A3), (.int .u64 A4), (.int .i64 A5), (.int .i64 Be), (.str Bf), (.str Bg), (.int .i64 Bh)]), (.bool v5)]) (qh [(some (.box true [(.bool Ai), (.int .u64 Aj), (.int .u64 Ak), (.int .i64 Al), (.int .i64 Am), (.str An), (.str Ao), (.int .i64 Ap)])), (some (.box true [(.bool Au), (.int .u64 Av), (.int .u64 Aw)])), (some (.box true [(.bool A2), (.int .u64 A3), (.int .u64 A4), (.int .i64 A5), (.int .i64 Be), (.str Bf), (.str Bg), (.int .i64 Bh)]))]))
def qgh {R : Type}  (v0 : List AV) (Ai : Bool) (Aj Ak Al Am : Int) (An Ao : List UInt8) (Ap : Int) (Au : Bool) (Av Aw : Int) (kr : Bool → Bool → Int → Int → Int → Int → (List UInt8) → (List UInt8) → Int → Bool → Int → Int → Bool → Int → Int → Int → Int → (List UInt8) → (List UInt8) → Int → Option R) : Option R :=
  (qeg v0 (v0.length : Int) (fun v7q1 b0_0q2 b0_1q3 b0_2q4 b0_3q5 b0_4q6 b0_5q7 b0_6q8 b0_7q9 b1_0q10 b1_1q11 b1_2q12 b2_0q13 b2_1q14 b2_2q15 b2_3q16 b2_4q17 b2_5q18 b2_6q19 b2_7q20 b3_0q21 b3_1q22 b3_2q23 b3_3q24 b3_4q25 b3_5q26 b3_6q27 b3_7q28 => (kr v7q1 b0_0q2 b0_1q3 b0_2q4 b0_3q5 b0_4q6 b0_5q7 b0_6q8 b0_7q9 b1_0q10 b1_1q11 b1_2q12 b3_0q21 b3_1q22 b3_2q23 b3_3q24 b3_4q25 b3_5q26 b3_6q27 b3_7q28)) FU false (0 : Int) Ai Aj Ak Al Am An Ao Ap Au Av Aw false (0 : Int) (0 : Int) (0 : Int) (0 : Int) ([] : List UInt8) ([] : List UInt8) (0 : Int) false (0 : Int) (0 : Int) (0 : Int) (0 : Int) ([] : List UInt8) ([] : List UInt8) (0 : Int))
def qe6 {R : Type} := hull (qgh (R := R))
theorem qk9 {R : Type} : qe6 (R := R) = qgh := qk _
def qc7 {R : Type} (KK : AV → Mem → Option R) : AC R :=
  .seq (.reg [ao 4 (.alloc [(.bool false), (.int .u64 0), (.int .u64 0), (.int .i64 0), (.int .i64 0), (.str []), (.str []), (.int .i64 0)]),
 ao 5 (.mv (.c (.bool false)))]) (.seq (.reg [ao 6 (.alloc [(.bool false), (.int .u64 0), (.int .u64 0), (.int .i64 0), (.int .i64 0), (.str []), (.str []), (.int .i64 0)])]) (.seq (.reg [ao 7 (.mv (.c (.bool false)))]) (.seq (.seq (.reg [ao 10 (.mv 0),
 ao 11 (.len false 10),
 ao 12 (.mv (.c (.int .i64 0)))]) (.block 0 (.seq (.view [.sel [1, 4, 6, 7, 10, 11, 12] [0, 1, 2, 3]]) (.sub (.loop (scOf (qcm KK))) (qju KK))))) (.seq (.reg [ao 34 (.load true 8 6),
 ao 35 (.mv 7),
 an (.store 8 4 34),
 ao 5 (.mv 35)]) (.seq (.view [.sel [4, 5] [0, 1, 2]]) (.ret))))))
theorem qrd {R : Type} (KK : AV → Mem → Option R) : AC.ok Try.prog (TIof Try.prog) 36 2 (qm [(.cell 4 true 8), .t 5] KK) (qc7 KK) := qo (zA (qpu KK) trivial)
theorem qrq {R : Type} (KK : AV → Mem → Option R) (v0 : List AV) (Ai : Bool) (Aj Ak Al Am : Int) (An Ao : List UInt8) (Ap : Int) (Au : Bool) (Av Aw : Int) : den 2 (qm [(.cell 4 true 8), .t 5] KK) (qc7 KK) (qj [(0, (.sl 8 v0)), (1, (.func 65 [(.ptr 1 0)]))]) (qh [(some (.box true (qb Ai Aj Ak Al Am An Ao Ap))), (some (.box true (qbr Au Av Aw)))]) (kend (qm [(.cell 4 true 8), .t 5] KK)) = qe6 v0 Ai Aj Ak Al Am An Ao Ap Au Av Aw (qk8 KK) := by
  rw [qk9]; kernel_rfl
theorem qrr : cFn (TIof Try.prog) Try.f62 = some ⟨36, [(.cell 4 true 8), .t 5], scOf (qc7 (R := Unit) (fun _ _ => none))⟩ := by kernel_rfl
theorem qrs {R : Type} (KK : AV → Mem → Option R) : (qc7 KK).er = some (scOf (qc7 (R := Unit) (fun _ _ => none))) := by kernel_rfl
def qlk {R : Type} : List AV → Mem → (AV → Mem → Option R) → Option R := refE qqr fun xs m KK => qc2 (bxC (m.s 1)) (qe (bxC (m.s 0)) (qe6 (gL [(ql xs) 0] 0))) (qk8 KK)
theorem qrt {R : Type} : qfe Try.prog 62 (qlk (R := R)) :=
  qkf (ac := fun KK => qc7 KK) tabOk follows Try.func62 (by kernel_rfl) qrr (fun KK => qrd KK) (fun KK => qrs KK) rfl fun xs m KK => qrq KK _ _ _ _ _ _ _ _ _ _ _ _
def qre (z : AV) : Option (AV × Bool) := cond (qnm [(.st [.b, (.i .u64), (.i .u64), (.i .i64), (.i .i64), .s, .s, (.i .i64)]), (.one .b)] z) (some ((gC (tpL z) 0), aB (gC (tpL z) 1))) none
def qbaz (r : AV × Bool) : AV := .tup [qpm (.st [.b, (.i .u64), (.i .u64), (.i .i64), (.i .i64), .s, .s, (.i .i64)]) r.1, .bool r.2]
def qba0 : Shp := ⟨[(0, .one (.l (.sl 8))), (1, .st (lk qd2))], []⟩
def qt6 (v0 : List AV) (Aq : Bool) (Ar As : Int) : Option (AV × Bool) :=
  (qe6 v0 false (0 : Int) (0 : Int) (0 : Int) (0 : Int) ([] : List UInt8) ([] : List UInt8) (0 : Int) Aq Ar As fun v5q1 b0_0q2 b0_1q3 b0_2q4 b0_3q5 b0_4q6 b0_5q7 b0_6q8 b0_7q9 b1_0q10 b1_1q11 b1_2q12 b2_0q13 b2_1q14 b2_2q15 b2_3q16 b2_4q17 b2_5q18 b2_6q19 b2_7q20 => (some ((.agg [(.bool b2_0q13), (.int .u64 b2_1q14), (.int .u64 b2_2q15), (.int .i64 b2_3q16), (.int .i64 b2_4q17), (.str b2_5q18), (.str b2_6q19), (.int .i64 b2_7q20)]), v5q1)))
def qku := hull qt6
theorem q0e : qku = qt6 := qk _
def qt7 : AC (AV × Bool) :=
  .seq (.reg [ao 3 (.box 1),
 ao 4 (.alloc [(.bool false), (.int .u64 0), (.int .u64 0), (.int .i64 0), (.int .i64 0), (.str []), (.str []), (.int .i64 0)]),
 ao 5 (.mv (.c (.bool false)))]) (.seq (.reg [ao 6 (.mv 0),
 ao 7 (.mkf 65 [3]),
 .st (.sel [4, 6, 7] [1, 0]),
 .callr (po 8 (.call 62 [6, 7])) 62 qlk,
 ao 9 (.ext 8 0),
 ao 10 (.ext 8 1),
 an (.store 8 4 9),
 ao 5 (.mv 10)]) (.ret))
theorem qbcv : AC.ok Try.prog (TIof Try.prog) 11 0 (kret [(.cell 4 true 8), .t 5] qre) qt7 := qo (zA qrt trivial)
theorem qbeq (v0 : List AV) (Aq : Bool) (Ar As : Int) : den 0 (kret [(.cell 4 true 8), .t 5] qre) qt7 (qj [(0, (.sl 8 v0)), (1, .agg (qbr Aq Ar As))]) (qh []) (kend (kret [(.cell 4 true 8), .t 5] qre)) = qku v0 Aq Ar As := by
  rw [q0e]; kernel_rfl
theorem qber : cFn (TIof Try.prog) Try.f28 = some ⟨11, [(.cell 4 true 8), .t 5], scOf qt7⟩ := by kernel_rfl
def qbes (xs : List AV) : Option (AV × Bool) := qc2 ((ql xs) 1).cells (qku (gL [(ql xs) 0] 0))
def qrf {R : Type} : List AV → (AV → Option R) → Option R := entF qba0 qbes qbaz
theorem q1n {R : Type} : qd Try.prog 28 (qrf (R := R)) :=
  qch tabOk follows Try.func28 (by kernel_rfl) qber (fun z r h => by
 obtain ⟨h1, h2⟩ := qn h
 cases h2
 exact (qkd h1).symm) qbcv (qbh (by kernel_rfl)) fun xs => qbeq _ _ _ _
def q07 : Shp := ⟨[(0, .st (lk qa)), (1, .one (.ptr 0 0)), (2, .one (.ptr 2 0))], [.box true (lk qi), .arr true 8, .box true (lk qa)]⟩
def qru {R : Type} (KK : AV → Mem → Option R) := (fun v4 Ai Aj Ak Al a1 A2 A3 A4 A5 Be Bf Bg Bh => KK (.bool v4) (qh [(some (.box true [(.bool Ai), (.int .u64 Aj), (.int .u64 Ak), (.int .i64 Al)])), (some (.arr true 8 a1)), (some (.box true [(.bool A2), (.int .u64 A3), (.int .u64 A4), (.int .i64 A5), (.int .i64 Be), (.str Bf), (.str Bg), (.int .i64 Bh)]))]))
def qnc {R : Type}  (Aa : Bool) (Ab Ac Ad Ae : Int) (Af Ag : List UInt8) (Ah : Int) (Ai : Bool) (Aj Ak Al : Int) (a1 : List AV) (A2 : Bool) (A3 A4 A5 Be : Int) (Bf Bg : List UInt8) (Bh : Int) (kr : Bool → Bool → Int → Int → Int → (List AV) → Bool → Int → Int → Int → Int → (List UInt8) → (List UInt8) → Int → Option R) : Option R :=
  (oB (qge Aa Ab Ac Ad Ai Aj Ak Al) fun r1 => (bif r1 then (oB (qge A2 A3 A4 A5 Aa Ab Ac Ad) fun r2 => (kr r2 Ai Aj Ak Al a1 A2 A3 A4 A5 Be Bf Bg Bh)) else (kr false Ai Aj Ak Al a1 A2 A3 A4 A5 Be Bf Bg Bh)))
def qjh {R : Type} := hull (qnc (R := R))
theorem qrv {R : Type} : qjh (R := R) = qnc := qk _
def qfi {R : Type} (KK : AV → Mem → Option R) : AC R :=
  .seq (.reg [ao 3 (.box 0),
 ao 4 (.mv (.c (.bool false)))]) (.seq (.reg [ao 5 (.fa 0 3),
 ao 6 (.load true 4 5),
 ao 7 (.load true 4 1),
 .call (po 8 (.call 64 [6, 7])) 64 qf3,
 ao 9 (.mv 8),
 ag 10 9 true (.fa 0 2),
 ag 11 9 true (.load true 4 10),
 ag 12 9 true (.fa 0 3),
 ag 13 9 true (.load true 4 12),
 .call (pg 14 9 true (.call 64 [11, 13])) 64 qf3,
 ao 15 (.pick 9 14 (.c (.bool false))),
 ao 4 (.mv 15)]) (.seq (.view [.sel [4] [0, 1, 2]]) (.ret)))
theorem q2d {R : Type} (KK : AV → Mem → Option R) : AC.ok Try.prog (TIof Try.prog) 16 3 (qm [.t 4] KK) (qfi KK) := qo (zA (qd.ok qkq) (zA (qd.ok qkq) trivial))
theorem q25 {R : Type} (KK : AV → Mem → Option R) (Aa : Bool) (Ab Ac Ad Ae : Int) (Af Ag : List UInt8) (Ah : Int) (Ai : Bool) (Aj Ak Al : Int) (a1 : List AV) (A2 : Bool) (A3 A4 A5 Be : Int) (Bf Bg : List UInt8) (Bh : Int) : den 3 (qm [.t 4] KK) (qfi KK) (qj [(0, .agg (qb Aa Ab Ac Ad Ae Af Ag Ah)), (1, (.ptr 0 0)), (2, (.ptr 2 0))]) (qh [(some (.box true (qc Ai Aj Ak Al))), (some (.arr true 8 a1)), (some (.box true (qb A2 A3 A4 A5 Be Bf Bg Bh)))]) (kend (qm [.t 4] KK)) = qjh Aa Ab Ac Ad Ae Af Ag Ah Ai Aj Ak Al a1 A2 A3 A4 A5 Be Bf Bg Bh (qru KK) := by
  rw [qrv]; kernel_rfl
theorem q26 : cFn (TIof Try.prog) Try.f67 = some ⟨16, [.t 4], scOf (qfi (R := Unit) (fun _ _ => none))⟩ := by kernel_rfl
theorem q27 {R : Type} (KK : AV → Mem → Option R) : (qfi KK).er = some (scOf (qfi (R := Unit) (fun _ _ => none))) := by kernel_rfl
def qs3 {R : Type} : List AV → Mem → (AV → Mem → Option R) → Option R := refE q07 fun xs m KK => qe (bxC (m.s 2)) (qg (bxC (m.s 0)) (qe ((ql xs) 0).cells (qjh)) (arL (m.s 1))) (qru KK)
theorem q28 {R : Type} : qfe Try.prog 67 (qs3 (R := R)) :=
  qkf (ac := fun KK => qfi KK) tabOk follows Try.func67 (by kernel_rfl) q26 (fun KK => q2d KK) (fun KK => q27 KK) rfl fun xs m KK => q25 KK _ _ _ _ _ _ _ _ _ _ _ _ _ _ _ _ _ _ _ _ _
def qbn {R : Type}  (K : Ex → Env → Mem → Option R) := (fun z_b0_0 z_b0_1 z_b0_2 z_b0_3 z_a1 z_b2_0 z_b2_1 z_b2_2 z_b2_3 z_b2_4 z_b2_5 z_b2_6 z_b2_7 => K (.exit 0) (qj []) (qh [(some (.box true (qc z_b0_0 z_b0_1 z_b0_2 z_b0_3))), (some (.arr true 8 z_a1)), (some (.box true (qb z_b2_0 z_b2_1 z_b2_2 z_b2_3 z_b2_4 z_b2_5 z_b2_6 z_b2_7)))]))
def qbq {R : Type} (KK : AV → Mem → Option R) := (fun v4 Ai Aj Ak Al a1 A2 A3 A4 A5 Be Bf Bg Bh => KK (.int .i64 v4) (qh [(some (.box true [(.bool Ai), (.int .u64 Aj), (.int .u64 Ak), (.int .i64 Al)])), (some (.arr true 8 a1)), (some (.box true [(.bool A2), (.int .u64 A3), (.int .u64 A4), (.int .i64 A5), (.int .i64 Be), (.str Bf), (.str Bg), (.int .i64 Bh)]))]))
def qgn : Shp := ⟨[(0, .one (.l (.sl 8))), (1, .one (.fn 67 [(0, 0), (2, 0)])), (7, .one (.l (.i .i64))), (8, .one (.l (.i .i64)))], [.box true (lk qi), .arr true 8, .box true (lk qa)]⟩
def qcn (v0 : List AV) (v7 v8 : Int) (Ai : Bool) (Aj Ak Al : Int) (a1 : List AV) (A2 : Bool) (A3 A4 A5 Be : Int) (Bf Bg : List UInt8) (Bh : Int) : Env := qj [(0, (.sl 8 v0)), (1, (.func 67 [(.ptr 0 0), (.ptr 2 0)])), (7, (.int .i64 v7)), (8, (.int .i64 v8))]
def qco (v0 : List AV) (v7 v8 : Int) (Ai : Bool) (Aj Ak Al : Int) (a1 : List AV) (A2 : Bool) (A3 A4 A5 Be : Int) (Bf Bg : List UInt8) (Bh : Int) : Mem := qh [(some (.box true (qc Ai Aj Ak Al))), (some (.arr true 8 a1)), (some (.box true (qb A2 A3 A4 A5 Be Bf Bg Bh)))]
def qp {R : Type}  (v0 : List AV) (v7 v8 : Int) (Ai : Bool) (Aj Ak Al : Int) (a1 : List AV) (A2 : Bool) (A3 A4 A5 Be : Int) (Bf Bg : List UInt8) (Bh : Int) (next : Int → Bool → Int → Int → Int → (List AV) → Bool → Int → Int → Int → Int → (List UInt8) → (List UInt8) → Int → Option R) (kx0 : Bool → Int → Int → Int → (List AV) → Bool → Int → Int → Int → Int → (List UInt8) → (List UInt8) → Int → Option R) (kr : Int → Bool → Int → Int → Int → (List AV) → Bool → Int → Int → Int → Int → (List UInt8) → (List UInt8) → Int → Option R) : Option R :=
  (bif (decide (v8 < v7)) then (oB (ixB v0 v8) fun y1 => (bif fitC qa y1.cells then (qjh (gB y1.cells 0) (gI y1.cells 1) (gI y1.cells 2) (gI y1.cells 3) (gI y1.cells 4) (gS y1.cells 5) (gS y1.cells 6) (gI y1.cells 7) Ai Aj Ak Al a1 A2 A3 A4 A5 Be Bf Bg Bh fun v4q2 b0_0q3 b0_1q4 b0_2q5 b0_3q6 a1q7 b2_0q8 b2_1q9 b2_2q10 b2_3q11 b2_4q12 b2_5q13 b2_6q14 b2_7q15 => (bif v4q2 then (kr v8 b0_0q3 b0_1q4 b0_2q5 b0_3q6 a1q7 b2_0q8 b2_1q9 b2_2q10 b2_3q11 b2_4q12 b2_5q13 b2_6q14 b2_7q15) else (next (IntKind.i64.wrap (v8 + (1 : Int))) b0_0q3 b0_1q4 b0_2q5 b0_3q6 a1q7 b2_0q8 b2_1q9 b2_2q10 b2_3q11 b2_4q12 b2_5q13 b2_6q14 b2_7q15))) else none)) else (kx0 Ai Aj Ak Al a1 A2 A3 A4 A5 Be Bf Bg Bh))
def qbu {R : Type}  (v0 : List AV) (v7 : Int) (kx0 : Bool → Int → Int → Int → (List AV) → Bool → Int → Int → Int → Int → (List UInt8) → (List UInt8) → Int → Option R) (kr : Int → Bool → Int → Int → Int → (List AV) → Bool → Int → Int → Int → Int → (List UInt8) → (List UInt8) → Int → Option R) : Nat → Int → Bool → Int → Int → Int → (List AV) → Bool → Int → Int → Int → Int → (List UInt8) → (List UInt8) → Int → Option R
  | 0 => (fun _ _ _ _ _ _ _ _ _ _ _ _ _ _ => none)
  | n + 1 => (fun v8 Ai Aj Ak Al a1 A2 A3 A4 A5 Be Bf Bg Bh => qp v0 v7 v8 Ai Aj Ak Al a1 A2 A3 A4 A5 Be Bf Bg Bh (qbu v0 v7 kx0 kr n) kx0 kr)
def qb1 {R : Type} := hull (qbu (R := R))
theorem qdl {R : Type} : qb1 (R := R) = qbu := qk _
def qq {R : Type} (KK : AV → Mem → Option R) : AC R :=
  .seq (.reg [ao 9 (.bin .lss 8 7)]) (.seq (.cond 9 (.skip) (.seq (.view [.sel [] [0, 1, 2]]) (.exit 0))) (.seq (.block 1 (.seq (.reg [ao 10 (.mv 8),
 ao 5 (.mv 10)]) (.seq (.reg [ao 11 (.mv 1),
 ao 12 (.mv 0),
 ao 13 (.mv 5),
 ao 14 (.ia 8 12 13),
 .st (.etac 14 qa),
 ao 15 (.load true 8 14),
 .st (.sel [0, 1, 5, 7, 8, 11, 15] [0, 1, 2]),
 .callr (po 16 (.callv 11 [15])) 67 qs3]) (.cond 16 (.seq (.reg [ao 17 (.mv 5),
 ao 4 (.mv 17)]) (.seq (.view [.sel [4] [0, 1, 2]]) (.ret))) (.skip))))) (.seq (.reg [ao 18 (.bin .add 8 (.c (.int .i64 1))),
 ao 8 (.mv 18)]) (.view [.sel [0, 1, 7, 8] [0, 1, 2]]))))
theorem qgw {R : Type} (KK : AV → Mem → Option R) : AC.ok Try.prog (TIof Try.prog) 19 3 (qm [.t 4] KK) (qq KK) := qo (zA q28 trivial)
theorem qgo {R : Type} (KK : AV → Mem → Option R) (v0 : List AV) (v7 v8 : Int) (Ai : Bool) (Aj Ak Al : Int) (a1 : List AV) (A2 : Bool) (A3 A4 A5 Be : Int) (Bf Bg : List UInt8) (Bh : Int) (K : Ex → Env → Mem → Option R) : den 3 (qm [.t 4] KK) (qq KK) (qcn v0 v7 v8 Ai Aj Ak Al a1 A2 A3 A4 A5 Be Bf Bg Bh) (qco v0 v7 v8 Ai Aj Ak Al a1 A2 A3 A4 A5 Be Bf Bg Bh) K = qp v0 v7 v8 Ai Aj Ak Al a1 A2 A3 A4 A5 Be Bf Bg Bh (fun z_v8 z_b0_0 z_b0_1 z_b0_2 z_b0_3 z_a1 z_b2_0 z_b2_1 z_b2_2 z_b2_3 z_b2_4 z_b2_5 z_b2_6 z_b2_7 => K .norm (qcn v0 v7 z_v8 z_b0_0 z_b0_1 z_b0_2 z_b0_3 z_a1 z_b2_0 z_b2_1 z_b2_2 z_b2_3 z_b2_4 z_b2_5 z_b2_6 z_b2_7) (qco v0 v7 z_v8 z_b0_0 z_b0_1 z_b0_2 z_b0_3 z_a1 z_b2_0 z_b2_1 z_b2_2 z_b2_3 z_b2_4 z_b2_5 z_b2_6 z_b2_7)) (qbn K) (qbq KK) := by kernel_rfl
theorem qha {R : Type} (KK : AV → Mem → Option R) (v0 : List AV) (v7 : Int) (K : Ex → Env → Mem → Option R) : ∀ (n : Nat) (v8 : Int) (Ai : Bool) (Aj Ak Al : Int) (a1 : List AV) (A2 : Bool) (A3 A4 A5 Be : Int) (Bf Bg : List UInt8) (Bh : Int), qg4 (den 3 (qm [.t 4] KK) (qq KK)) n (qcn v0 v7 v8 Ai Aj Ak Al a1 A2 A3 A4 A5 Be Bf Bg Bh) (qco v0 v7 v8 Ai Aj Ak Al a1 A2 A3 A4 A5 Be Bf Bg Bh) K = qb1 v0 v7 (qbn K) (qbq KK) n v8 Ai Aj Ak Al a1 A2 A3 A4 A5 Be Bf Bg Bh := by
  rw [qdl]
  intro n
  induction n with
  | zero => intros; rfl
  | succ n ih =>
 intro v8 Ai Aj Ak Al a1 A2 A3 A4 A5 Be Bf Bg Bh
 exact (qgo KK v0 v7 v8 Ai Aj Ak Al a1 A2 A3 A4 A5 Be Bf Bg Bh (itK (den 3 (qm [.t 4] KK) (qq KK)) n K)).trans (congrArg (fun q => qp v0 v7 v8 Ai Aj Ak Al a1 A2 A3 A4 A5 Be Bf Bg Bh q (qbn K) (qbq KK)) (funext fun v8 => funext fun Ai => funext fun Aj => funext fun Ak => funext fun Al => funext fun a1 => funext fun A2 => funext fun A3 => funext fun A4 => funext fun A5 => funext fun Be => funext fun Bf => funext fun Bg => funext fun Bh => ih v8 Ai Aj Ak Al a1 A2 A3 A4 A5 Be Bf Bg Bh))
def qdr {R : Type} (KK : AV → Mem → Option R) := subE (R := R) qgn fun t m K => qe (bxC (m.s 2)) (qg (bxC (m.s 0)) (qb1 (gL [t 0] 0) (gI [t 7] 0) (qbn K) (qbq KK) FU (gI [t 8] 0)) (arL (m.s 1)))
theorem qhb {R : Type} (KK : AV → Mem → Option R) : qdh Try.prog (TIof Try.prog) 19 3 (qm [.t 4] KK) (.loop (scOf (qq KK))) (qdr KK) :=
  qie tabOk follows (qgw KK) (qbh (by kernel_rfl)) fun t m K => qha KK _ _ K FU _ _ _ _ _ _ _ _ _ _ _ _ _ _
def qho : Shp := ⟨[(0, .one (.l (.sl 8))), (1, .one (.fn 67 [(0, 0), (2, 0)]))], [.box true (lk qi), .arr true 8, .box true (lk qa)]⟩
def qd5 {R : Type} (KK : AV → Mem → Option R) := (fun v4 Ai Aj Ak Al a1 A2 A3 A4 A5 Be Bf Bg Bh => KK (.int .i64 v4) (qh [(some (.box true [(.bool Ai), (.int .u64 Aj), (.int .u64 Ak), (.int .i64 Al)])), (some (.arr true 8 a1)), (some (.box true [(.bool A2), (.int .u64 A3), (.int .u64 A4), (.int .i64 A5), (.int .i64 Be), (.str Bf), (.str Bg), (.int .i64 Bh)]))]))
def qc1 {R : Type}  (v0 : List AV) (Ai : Bool) (Aj Ak Al : Int) (a1 : List AV) (A2 : Bool) (A3 A4 A5 Be : Int) (Bf Bg : List UInt8) (Bh : Int) (kr : Int → Bool → Int → Int → Int → (List AV) → Bool → Int → Int → Int → Int → (List UInt8) → (List UInt8) → Int → Option R) : Option R :=
  (qb1 v0 (v0.length : Int) (fun b0_0q1 b0_1q2 b0_2q3 b0_3q4 a1q5 b2_0q6 b2_1q7 b2_2q8 b2_3q9 b2_4q10 b2_5q11 b2_6q12 b2_7q13 => (kr (-1 : Int) b0_0q1 b0_1q2 b0_2q3 b0_3q4 a1q5 b2_0q6 b2_1q7 b2_2q8 b2_3q9 b2_4q10 b2_5q11 b2_6q12 b2_7q13)) kr FU (0 : Int) Ai Aj Ak Al a1 A2 A3 A4 A5 Be Bf Bg Bh)
def qbk {R : Type} := hull (qc1 (R := R))
theorem qd6 {R : Type} : qbk (R := R) = qc1 := qk _
def q8 {R : Type} (KK : AV → Mem → Option R) : AC R :=
  .seq (.reg [ao 4 (.mv (.c (.int .i64 0)))]) (.seq (.seq (.reg [ao 6 (.mv 0),
 ao 7 (.len false 6),
 ao 8 (.mv (.c (.int .i64 0)))]) (.block 0 (.seq (.view [.sel [0, 1, 7, 8] [0, 1, 2]]) (.sub (.loop (scOf (qq KK))) (qdr KK))))) (.seq (.reg [ao 4 (.mv (.c (.int .i64 (-1))))]) (.seq (.view [.sel [4] [0, 1, 2]]) (.ret))))
theorem qh0 {R : Type} (KK : AV → Mem → Option R) : AC.ok Try.prog (TIof Try.prog) 19 3 (qm [.t 4] KK) (q8 KK) := qo (zA (qhb KK) trivial)
theorem qik {R : Type} (KK : AV → Mem → Option R) (v0 : List AV) (Ai : Bool) (Aj Ak Al : Int) (a1 : List AV) (A2 : Bool) (A3 A4 A5 Be : Int) (Bf Bg : List UInt8) (Bh : Int) : den 3 (qm [.t 4] KK) (q8 KK) (qj [(0, (.sl 8 v0)), (1, (.func 67 [(.ptr 0 0), (.ptr 2 0)]))]) (qh [(some (.box true (qc Ai Aj Ak Al))), (some (.arr true 8 a1)), (some (.box true (qb A2 A3 A4 A5 Be Bf Bg Bh)))]) (kend (qm [.t 4] KK)) = qbk v0 Ai Aj Ak Al a1 A2 A3 A4 A5 Be Bf Bg Bh (qd5 KK) := by
  rw [qd6]; kernel_rfl
theorem qil : cFn (TIof Try.prog) Try.f88 = some ⟨19, [.t 4], scOf (q8 (R := Unit) (fun _ _ => none))⟩ := by kernel_rfl
theorem qim {R : Type} (KK : AV → Mem → Option R) : (q8 KK).er = some (scOf (q8 (R := Unit) (fun _ _ => none))) := by kernel_rfl
def qeb {R : Type} : List AV → Mem → (AV → Mem → Option R) → Option R := refE qho fun xs m KK => qe (bxC (m.s 2)) (qg (bxC (m.s 0)) (qbk (gL [(ql xs) 0] 0)) (arL (m.s 1))) (qd5 KK)
theorem qin {R : Type} : qfe Try.prog 88 (qeb (R := R)) :=
  qkf (ac := fun KK => q8 KK) tabOk follows Try.func88 (by kernel_rfl) qil (fun KK => qh0 KK) (fun KK => qim KK) rfl fun xs m KK => qik KK _ _ _ _ _ _ _ _ _ _ _ _ _ _
def qgp : Shp := ⟨[(0, .one (.l (.sl 8))), (1, .one (.fn 67 [(0, 0), (2, 0)]))], [.box true (lk qi), .arr true 8, .box true (lk qa)]⟩
def qdm {R : Type} (KK : AV → Mem → Option R) := (fun v4 Ai Aj Ak Al a1 A2 A3 A4 A5 Be Bf Bg Bh => KK (.bool v4) (qh [(some (.box true [(.bool Ai), (.int .u64 Aj), (.int .u64 Ak), (.int .i64 Al)])), (some (.arr true 8 a1)), (some (.box true [(.bool A2), (.int .u64 A3), (.int .u64 A4), (.int .i64 A5), (.int .i64 Be), (.str Bf), (.str Bg), (.int .i64 Bh)]))]))
def qcr {R : Type}  (v0 : List AV) (Ai : Bool) (Aj Ak Al : Int) (a1 : List AV) (A2 : Bool) (A3 A4 A5 Be : Int) (Bf Bg : List UInt8) (Bh : Int) (kr : Bool → Bool → Int → Int → Int → (List AV) → Bool → Int → Int → Int → Int → (List UInt8) → (List UInt8) → Int → Option R) : Option R :=
  (qbk v0 Ai Aj Ak Al a1 A2 A3 A4 A5 Be Bf Bg Bh fun v4q1 b0_0q2 b0_1q3 b0_2q4 b0_3q5 a1q6 b2_0q7 b2_1q8 b2_2q9 b2_3q10 b2_4q11 b2_5q12 b2_6q13 b2_7q14 => (kr (decide (v4q1 ≥ (0 : Int))) b0_0q2 b0_1q3 b0_2q4 b0_3q5 a1q6 b2_0q7 b2_1q8 b2_2q9 b2_3q10 b2_4q11 b2_5q12 b2_6q13 b2_7q14))
def qb2 {R : Type} := hull (qcr (R := R))
theorem qdn {R : Type} : qb2 (R := R) = qcr := qk _
def qr {R : Type} (KK : AV → Mem → Option R) : AC R :=
  .seq (.reg [ao 4 (.mv (.c (.bool false)))]) (.seq (.reg [ao 5 (.mv 0),
 ao 6 (.mv 1),
 .st (.sel [5, 6] [0, 1, 2]),
 .callr (po 7 (.call 88 [5, 6])) 88 qeb,
 ao 8 (.bin .geq 7 (.c (.int .i64 0))),
 ao 4 (.mv 8)]) (.seq (.view [.sel [4] [0, 1, 2]]) (.ret)))
theorem qgx {R : Type} (KK : AV → Mem → Option R) : AC.ok Try.prog (TIof Try.prog) 9 3 (qm [.t 4] KK) (qr KK) := qo (zA qin trivial)
theorem qhc {R : Type} (KK : AV → Mem → Option R) (v0 : List AV) (Ai : Bool) (Aj Ak Al : Int) (a1 : List AV) (A2 : Bool) (A3 A4 A5 Be : Int) (Bf Bg : List UInt8) (Bh : Int) : den 3 (qm [.t 4] KK) (qr KK) (qj [(0, (.sl 8 v0)), (1, (.func 67 [(.ptr 0 0), (.ptr 2 0)]))]) (qh [(some (.box true (qc Ai Aj Ak Al))), (some (.arr true 8 a1)), (some (.box true (qb A2 A3 A4 A5 Be Bf Bg Bh)))]) (kend (qm [.t 4] KK)) = qb2 v0 Ai Aj Ak Al a1 A2 A3 A4 A5 Be Bf Bg Bh (qdm KK) := by
  rw [qdn]; kernel_rfl
theorem qhd : cFn (TIof Try.prog) Try.f68 = some ⟨9, [.t 4], scOf (qr (R := Unit) (fun _ _ => none))⟩ := by kernel_rfl
theorem qhe {R : Type} (KK : AV → Mem → Option R) : (qr KK).er = some (scOf (qr (R := Unit) (fun _ _ => none))) := by kernel_rfl
def qds {R : Type} : List AV → Mem → (AV → Mem → Option R) → Option R := refE qgp fun xs m KK => qe (bxC (m.s 2)) (qg (bxC (m.s 0)) (qb2 (gL [(ql xs) 0] 0)) (arL (m.s 1))) (qdm KK)
theorem qhf {R : Type} : qfe Try.prog 68 (qds (R := R)) :=
  qkf (ac := fun KK => qr KK) tabOk follows Try.func68 (by kernel_rfl) qhd (fun KK => qgx KK) (fun KK => qhe KK) rfl fun xs m KK => qhc KK _ _ _ _ _ _ _ _ _ _ _ _ _ _
def qrw  (v0 v9 : List AV) (v10 v11 : Int) (K : Ex → Env → Mem → Option (List AV)) := (fun z_v25 z_b0_0 z_b0_1 z_b0_2 z_b0_3 z_a1 z_b2_0 z_b2_1 z_b2_2 z_b2_3 z_b2_4 z_b2_5 z_b2_6 z_b2_7 => K .norm (qj [(0, (.sl 8 v0)), (3, (.ptr 0 0)), (5, (.own 1 z_a1.length)), (7, (.ptr 2 0)), (9, (.sl 8 v9)), (10, (.int .i64 v10)), (11, (.int .i64 v11)), (25, (.bool z_v25))]) (qh [(some (.box true (qc z_b0_0 z_b0_1 z_b0_2 z_b0_3))), (some (.arr true 8 z_a1)), (some (.box true (qb z_b2_0 z_b2_1 z_b2_2 z_b2_3 z_b2_4 z_b2_5 z_b2_6 z_b2_7)))]))
def q08 : Shp := ⟨[(0, .one (.l (.sl 8))), (3, .one (.ptr 0 0)), (5, .one (.own 1)), (7, .one (.ptr 2 0)), (8, .one (.fn 67 [(0, 0), (2, 0)])), (9, .one (.l (.sl 8))), (10, .one (.l (.i .i64))), (11, .one (.l (.i .i64)))], [.box true (lk qi), .arr true 8, .box true (lk qa)]⟩
def qnd  (v0 v9 : List AV) (v10 v11 : Int) (Ai : Bool) (Aj Ak Al : Int) (a1 : List AV) (A2 : Bool) (A3 A4 A5 Be : Int) (Bf Bg : List UInt8) (Bh : Int) (kn : Bool → Bool → Int → Int → Int → (List AV) → Bool → Int → Int → Int → Int → (List UInt8) → (List UInt8) → Int → Option (List AV)) : Option (List AV) :=
  (oB (qge A2 A3 A4 A5 Ai Aj Ak Al) fun r1 => (bif r1 then (qb2 v0 Ai Aj Ak Al a1 A2 A3 A4 A5 Be Bf Bg Bh fun v4q2 b0_0q3 b0_1q4 b0_2q5 b0_3q6 a1q7 b2_0q8 b2_1q9 b2_2q10 b2_3q11 b2_4q12 b2_5q13 b2_6q14 b2_7q15 => (bif hd a1q7 a1.length then (kn (!v4q2) b0_0q3 b0_1q4 b0_2q5 b0_3q6 a1q7 b2_0q8 b2_1q9 b2_2q10 b2_3q11 b2_4q12 b2_5q13 b2_6q14 b2_7q15) else none)) else (bif hd a1 a1.length then (kn false Ai Aj Ak Al a1 A2 A3 A4 A5 Be Bf Bg Bh) else none)))
def qji := hull (qnd)
theorem qrx : qji = qnd := qk _
def qki : AC (List AV) :=
  .seq (.reg [ao 16 (.fa 0 7),
 ao 17 (.load true 4 16),
 ao 18 (.load true 4 3),
 .call (po 19 (.call 64 [17, 18])) 64 qf3,
 ao 20 (.mv 19),
 ag 21 20 true (.mv 0),
 ag 22 20 true (.mv 8),
 .stg 20 true (.sel [0, 3, 5, 7, 9, 10, 11, 20, 21, 22] [0, 1, 2]),
 .callr (pg 23 20 true (.call 68 [21, 22])) 68 qds,
 ag 24 20 true (.un .not 23),
 ao 25 (.pick 20 24 (.c (.bool false)))]) (.view [.hd 5, .sel [0, 3, 5, 7, 9, 10, 11, 25] [0, 1, 2]])
theorem q2e : AC.ok Try.prog (TIof Try.prog) 32 0 (kret [.t 4] (decF true 8)) qki := qo (zA (qd.ok qkq) (zA qhf trivial))
theorem q29 (v0 v9 : List AV) (v10 v11 : Int) (Ai : Bool) (Aj Ak Al : Int) (a1 : List AV) (A2 : Bool) (A3 A4 A5 Be : Int) (Bf Bg : List UInt8) (Bh : Int) (K : Ex → Env → Mem → Option (List AV)) : den 0 (kret [.t 4] (decF true 8)) qki (qj [(0, (.sl 8 v0)), (3, (.ptr 0 0)), (5, (.own 1 a1.length)), (7, (.ptr 2 0)), (8, (.func 67 [(.ptr 0 0), (.ptr 2 0)])), (9, (.sl 8 v9)), (10, (.int .i64 v10)), (11, (.int .i64 v11))]) (qh [(some (.box true (qc Ai Aj Ak Al))), (some (.arr true 8 a1)), (some (.box true (qb A2 A3 A4 A5 Be Bf Bg Bh)))]) K = qji v0 v9 v10 v11 Ai Aj Ak Al a1 A2 A3 A4 A5 Be Bf Bg Bh (qrw v0 v9 v10 v11 K) := by
  rw [qrx]; kernel_rfl
def qs4 := subE (R := (List AV)) q08 fun t m K => qe (bxC (m.s 2)) (qg (bxC (m.s 0)) (qji (gL [t 0] 0) (gL [t 9] 0) (gI [t 10] 0) (gI [t 11] 0)) (arL (m.s 1))) (qrw (gL [t 0] 0) (gL [t 9] 0) (gI [t 10] 0) (gI [t 11] 0) K)
theorem q3a : qdh Try.prog (TIof Try.prog) 32 0 (kret [.t 4] (decF true 8)) (scOf qki) (qs4) :=
  qke tabOk follows (q2e) (qbh (by kernel_rfl)) fun t m K => q29 _ _ _ _ _ _ _ _ _ _ _ _ _ _ _ _ _ K
def qj2  (K : Ex → Env → Mem → Option (List AV)) := (fun z_a0 => K (.exit 0) (qj [(5, (.own 0 z_a0.length))]) (qh [(some (.arr true 8 z_a0))]))
def q2f : Shp := ⟨[(0, .one (.l (.sl 8))), (3, .one (.ptr 0 0)), (5, .one (.own 1)), (9, .one (.l (.sl 8))), (10, .one (.l (.i .i64))), (11, .one (.l (.i .i64)))], [.box true (lk qi), .arr true 8]⟩
def qne (v0 v9 : List AV) (v10 v11 : Int) (Ai : Bool) (Aj Ak Al : Int) (a1 : List AV) : Env := qj [(0, (.sl 8 v0)), (3, (.ptr 0 0)), (5, (.own 1 a1.length)), (9, (.sl 8 v9)), (10, (.int .i64 v10)), (11, (.int .i64 v11))]
def qnf (v0 v9 : List AV) (v10 v11 : Int) (Ai : Bool) (Aj Ak Al : Int) (a1 : List AV) : Mem := qh [(some (.box true (qc Ai Aj Ak Al))), (some (.arr true 8 a1))]
def qfw  (v0 v9 : List AV) (v10 v11 : Int) (Ai : Bool) (Aj Ak Al : Int) (a1 : List AV) (next : Int → Bool → Int → Int → Int → (List AV) → Option (List AV)) (kx0 : (List AV) → Option (List AV)) : Option (List AV) :=
  (bif (decide (v11 < v10)) then (oB (ixB v9 v11) fun y1 => (bif fitC qa y1.cells then (bif (hd a1 (a1.length) && true) then (qji v0 v9 v10 v11 Ai Aj Ak Al a1 (gB y1.cells 0) (gI y1.cells 1) (gI y1.cells 2) (gI y1.cells 3) (gI y1.cells 4) (gS y1.cells 5) (gS y1.cells 6) (gI y1.cells 7) (fun v25q2 b0_0q3 b0_1q4 b0_2q5 b0_3q6 a1q7 b2_0q8 b2_1q9 b2_2q10 b2_3q11 b2_4q12 b2_5q13 b2_6q14 b2_7q15 => (bif v25q2 then (bif hd a1q7 a1q7.length then (bif hd ([(.agg [(.bool b2_0q8), (.int .u64 b2_1q9), (.int .u64 b2_2q10), (.int .i64 b2_3q11), (.int .i64 b2_4q12), (.str b2_5q13), (.str b2_6q14), (.int .i64 b2_7q15)])] : List AV) (([(.agg [(.bool b2_0q8), (.int .u64 b2_1q9), (.int .u64 b2_2q10), (.int .i64 b2_3q11), (.int .i64 b2_4q12), (.str b2_5q13), (.str b2_6q14), (.int .i64 b2_7q15)])] : List AV).length) then (bif decide ((a1q7.length + ([(.agg [(.bool b2_0q8), (.int .u64 b2_1q9), (.int .u64 b2_2q10), (.int .i64 b2_3q11), (.int .i64 b2_4q12), (.str b2_5q13), (.str b2_6q14), (.int .i64 b2_7q15)])] : List AV).length) * 80 ≤ 140737488355328) then (next (IntKind.i64.wrap (v11 + (1 : Int))) b0_0q3 b0_1q4 b0_2q5 b0_3q6 (a1q7 ++ ([(.agg [(.bool b2_0q8), (.int .u64 b2_1q9), (.int .u64 b2_2q10), (.int .i64 b2_3q11), (.int .i64 b2_4q12), (.str b2_5q13), (.str b2_6q14), (.int .i64 b2_7q15)])] : List AV))) else none) else none) else none) else (next (IntKind.i64.wrap (v11 + (1 : Int))) b0_0q3 b0_1q4 b0_2q5 b0_3q6 a1q7)))) else none) else none)) else (kx0 a1))
def qlc  (v0 v9 : List AV) (v10 : Int) (kx0 : (List AV) → Option (List AV)) : Nat → Int → Bool → Int → Int → Int → (List AV) → Option (List AV)
  | 0 => (fun _ _ _ _ _ _ => none)
  | n + 1 => (fun v11 Ai Aj Ak Al a1 => qfw v0 v9 v10 v11 Ai Aj Ak Al a1 (qlc v0 v9 v10 kx0 n) kx0)
def qmg := hull (qlc)
theorem qs5 : qmg = qlc := qk _
def qfx : AC (List AV) :=
  .seq (.reg [ao 12 (.bin .lss 11 10)]) (.seq (.cond 12 (.skip) (.seq (.view [.sel [5] [1]]) (.exit 0))) (.seq (.block 1 (.seq (.reg [ao 13 (.ia 8 9 11),
 .st (.etac 13 qa),
 ao 14 (.load true 8 13),
 ao 7 (.alloc [(.bool false), (.int .u64 0), (.int .u64 0), (.int .i64 0), (.int .i64 0), (.str []), (.str []), (.int .i64 0)]),
 an (.store 8 7 14)]) (.seq (.reg [ao 15 (.mkf 67 [3, 7]),
 ao 8 (.mv 15)]) (.seq (.seq (.view [.sel [0, 3, 5, 7, 8, 9, 10, 11] [0, 1, 2]]) (.sub (scOf qki) qs4)) (.cond 25 (.reg [ao 26 (.mv 5),
 ao 27 (.load true 8 7),
 ao 28 (.bsl 8 [27]),
 ao 29 (.app 8 80 26 28),
 ao 5 (.mv 29)]) (.skip)))))) (.seq (.reg [ao 30 (.bin .add 11 (.c (.int .i64 1))),
 ao 11 (.mv 30)]) (.view [.sel [0, 3, 5, 9, 10, 11] [0, 1]]))))
theorem q3b : AC.ok Try.prog (TIof Try.prog) 32 0 (kret [.t 4] (decF true 8)) qfx := qo (zA q3a trivial)
theorem q2g (v0 v9 : List AV) (v10 v11 : Int) (Ai : Bool) (Aj Ak Al : Int) (a1 : List AV) (K : Ex → Env → Mem → Option (List AV)) : den 0 (kret [.t 4] (decF true 8)) qfx (qne v0 v9 v10 v11 Ai Aj Ak Al a1) (qnf v0 v9 v10 v11 Ai Aj Ak Al a1) K = qfw v0 v9 v10 v11 Ai Aj Ak Al a1 (fun z_v11 z_b0_0 z_b0_1 z_b0_2 z_b0_3 z_a1 => K .norm (qne v0 v9 v10 z_v11 z_b0_0 z_b0_1 z_b0_2 z_b0_3 z_a1) (qnf v0 v9 v10 z_v11 z_b0_0 z_b0_1 z_b0_2 z_b0_3 z_a1)) (qj2 K) := by kernel_rfl
theorem q4r (v0 v9 : List AV) (v10 : Int) (K : Ex → Env → Mem → Option (List AV)) : ∀ (n : Nat) (v11 : Int) (Ai : Bool) (Aj Ak Al : Int) (a1 : List AV), qg4 (den 0 (kret [.t 4] (decF true 8)) qfx) n (qne v0 v9 v10 v11 Ai Aj Ak Al a1) (qnf v0 v9 v10 v11 Ai Aj Ak Al a1) K = qmg v0 v9 v10 (qj2 K) n v11 Ai Aj Ak Al a1 := by
  rw [qs5]
  intro n
  induction n with
  | zero => intros; rfl
  | succ n ih =>
 intro v11 Ai Aj Ak Al a1
 exact (q2g v0 v9 v10 v11 Ai Aj Ak Al a1 (itK (den 0 (kret [.t 4] (decF true 8)) qfx) n K)).trans (congrArg (fun q => qfw v0 v9 v10 v11 Ai Aj Ak Al a1 q (qj2 K)) (funext fun v11 => funext fun Ai => funext fun Aj => funext fun Ak => funext fun Al => funext fun a1 => ih v11 Ai Aj Ak Al a1))
def qt8 := subE (R := (List AV)) q2f fun t m K => qg (bxC (m.s 0)) (qmg (gL [t 0] 0) (gL [t 9] 0) (gI [t 10] 0) (qj2 K) FU (gI [t 11] 0)) (arL (m.s 1))
theorem q4s : qdh Try.prog (TIof Try.prog) 32 0 (kret [.t 4] (decF true 8)) (.loop (scOf qfx)) (qt8) :=
  qie tabOk follows (q3b) (qbh (by kernel_rfl)) fun t m K => q4r _ _ _ K FU _ _ _ _ _ _
def q6u : Shp := ⟨[(0, .one (.l (.sl 8))), (1, .st (lk qi))], []⟩
def qrg (v0 : List AV) (Aq : Bool) (Ar As At : Int) : Option (List AV) :=
  (bif (hd ([] : List AV) (([] : List AV).length) && true) then (qmg v0 v0 (v0.length : Int) (fun a0q1 => (bif hd a0q1 a0q1.length then (some a0q1) else none)) FU (0 : Int) Aq Ar As At ([] : List AV)) else none)
def qkj := hull qrg
theorem qxa : qkj = qrg := qk _
def qrh : AC (List AV) :=
  .seq (.reg [ao 3 (.box 1),
 ao 4 (.mv (.c .nils))]) (.seq (.reg [ao 5 (.mv (.c .nils))]) (.seq (.seq (.reg [ao 9 (.mv 0),
 ao 10 (.len false 9),
 ao 11 (.mv (.c (.int .i64 0)))]) (.block 0 (.seq (.view [.own 5 8, .sel [0, 3, 5, 9, 10, 11] [0, 1]]) (.sub (.loop (scOf qfx)) qt8)))) (.seq (.reg [ao 31 (.mv 5),
 ao 4 (.mv 31)]) (.ret))))
theorem q72 : AC.ok Try.prog (TIof Try.prog) 32 0 (kret [.t 4] (decF true 8)) qrh := qo (zA q4s trivial)
theorem qba1 (v0 : List AV) (Aq : Bool) (Ar As At : Int) : den 0 (kret [.t 4] (decF true 8)) qrh (qj [(0, (.sl 8 v0)), (1, .agg (qc Aq Ar As At))]) (qh []) (kend (kret [.t 4] (decF true 8))) = qkj v0 Aq Ar As At := by
  rw [qxa]; kernel_rfl
theorem qba2 : cFn (TIof Try.prog) Try.f30 = some ⟨32, [.t 4], scOf qrh⟩ := by kernel_rfl
def qba3 (xs : List AV) : Option (List AV) := qg ((ql xs) 1).cells (qkj (gL [(ql xs) 0] 0))
def qvc {R : Type} : List AV → (AV → Option R) → Option R := entF q6u qba3 (AV.fr true 8)
theorem qba4 {R : Type} : qd Try.prog 30 (qvc (R := R)) :=
  qch tabOk follows Try.func30 (by kernel_rfl) qba2 hdeF q72 (qbh (by kernel_rfl)) fun xs => qba1 _ _ _ _ _
def q73 : Shp := ⟨[(0, .st (lk qi)), (1, .st (lk qi))], []⟩
def qsr (Aa : Bool) (Ab Ac Ad : Int) (Aq : Bool) (Ar As At : Int) : Option Bool :=
  (oB (qip Aa Ab Ac Ad Aq Ar As At) fun r1 => (bif r1 then (some true) else (oB (qip Aq Ar As At Aa Ab Ac Ad) fun r2 => (some r2))))
def qng := hull qsr
theorem qyv : qng = qsr := qk _
def qss : AC Bool :=
  .seq (.reg [ao 2 (.box 0),
 ao 3 (.box 1),
 ao 4 (.mv (.c (.bool false)))]) (.seq (.reg [ao 5 (.load true 4 2),
 ao 6 (.load true 4 3),
 .call (po 7 (.call 37 [5, 6])) 37 qk3,
 ao 8 (.mv 7),
 ag 9 8 false (.load true 4 3),
 ag 10 8 false (.load true 4 2),
 .call (pg 11 8 false (.call 37 [9, 10])) 37 qk3,
 ao 12 (.pick 8 (.c (.bool true)) 11),
 ao 4 (.mv 12)]) (.ret))
theorem qba5 : AC.ok Try.prog (TIof Try.prog) 13 0 (kret [.t 4] decB) qss := qo (zA (qd.ok qpa) (zA (qd.ok qpa) trivial))
theorem qbcw (Aa : Bool) (Ab Ac Ad : Int) (Aq : Bool) (Ar As At : Int) : den 0 (kret [.t 4] decB) qss (qj [(0, .agg (qc Aa Ab Ac Ad)), (1, .agg (qc Aq Ar As At))]) (qh []) (kend (kret [.t 4] decB)) = qng Aa Ab Ac Ad Aq Ar As At := by
  rw [qyv]; kernel_rfl
theorem qbcx : cFn (TIof Try.prog) Try.f36 = some ⟨13, [.t 4], scOf qss⟩ := by kernel_rfl
def qbcy (xs : List AV) : Option Bool := qg ((ql xs) 1).cells (qg ((ql xs) 0).cells (qng))
def qxb {R : Type} : List AV → (AV → Option R) → Option R := entF q73 qbcy AV.bool
theorem qbcz {R : Type} : qd Try.prog 36 (qxb (R := R)) :=
  qch tabOk follows Try.func36 (by kernel_rfl) qbcx hdeB qba5 (qbh (by kernel_rfl)) fun xs => qbcw _ _ _ _ _ _ _ _
def qt9 : Shp := ⟨[(0, .one (.own 0)), (1, .one (.l (.sl 8))), (2, .st (lk qi))], [.arr true 4]⟩
def qfr (rec : (List AV) → (List AV) → Bool → Int → Int → Int → Option (List AV)) (xs cl : List AV) : Option (List AV) := chk (q1x qt9 (ql (.own 0 xs.length :: cl)) (M1 4 xs)) (cond (hdS qt9 (ql (.own 0 xs.length :: cl)) (M1 4 xs)) (rec xs (gL [(ql (.own 0 xs.length :: cl)) 1] 0) (gB ((ql (.own 0 xs.length :: cl)) 2).cells 0) (gI ((ql (.own 0 xs.length :: cl)) 2).cells 1) (gI ((ql (.own 0 xs.length :: cl)) 2).cells 2) (gI ((ql (.own 0 xs.length :: cl)) 2).cells 3)) none)
def qmh  (a0 : List AV) (Au : Bool) (Av Aw Ax : Int) (K : Ex → Env → Mem → Option (List AV)) := (fun z_a2 => K (.exit 0) (qj [(0, (.own 0 a0.length)), (5, (.ptr 1 0)), (7, (.own 2 z_a2.length))]) (qh [(some (.arr true 4 a0)), (some (.box true (qc Au Av Aw Ax))), (some (.arr true 8 z_a2))]))
def q74 : Shp := ⟨[(0, .one (.own 0)), (5, .one (.ptr 1 0)), (7, .one (.own 2)), (13, .one (.l (.sl 8))), (14, .one (.l (.i .i64))), (15, .one (.l (.i .i64)))], [.arr true 4, .box true (lk qi), .arr true 8]⟩
def qri (v13 : List AV) (v14 v15 : Int) (a0 : List AV) (Au : Bool) (Av Aw Ax : Int) (a2 : List AV) : Env := qj [(0, (.own 0 a0.length)), (5, (.ptr 1 0)), (7, (.own 2 a2.length)), (13, (.sl 8 v13)), (14, (.int .i64 v14)), (15, (.int .i64 v15))]
def qrj (v13 : List AV) (v14 v15 : Int) (a0 : List AV) (Au : Bool) (Av Aw Ax : Int) (a2 : List AV) : Mem := qh [(some (.arr true 4 a0)), (some (.box true (qc Au Av Aw Ax))), (some (.arr true 8 a2))]
def qjn  (rec : (List AV) → (List AV) → Bool → Int → Int → Int → Option (List AV)) (v13 : List AV) (v14 v15 : Int) (a0 : List AV) (Au : Bool) (Av Aw Ax : Int) (a2 : List AV) (next : Int → (List AV) → Option (List AV)) (kx0 : (List AV) → Option (List AV)) : Option (List AV) :=
  (bif (decide (v15 < v14)) then (oB (ixB v13 v15) fun y1 => (bif fitC qa y1.cells then (oB (qip Au Av Aw Ax (gB y1.cells 0) (gI y1.cells 1) (gI y1.cells 2) (gI y1.cells 3)) fun r2 => (bif r2 then (bif hd a0 a0.length then (some a0) else none) else (oB (qng (gB y1.cells 0) (gI y1.cells 1) (gI y1.cells 2) (gI y1.cells 3) Au Av Aw Ax) fun r3 => (bif r3 then (bif hd a2 a2.length then (bif hd ([(.agg [(.bool (gB y1.cells 0)), (.int .u64 (gI y1.cells 1)), (.int .u64 (gI y1.cells 2)), (.int .i64 (gI y1.cells 3)), (.int .i64 (gI y1.cells 4)), (.str (gS y1.cells 5)), (.str (gS y1.cells 6)), (.int .i64 (gI y1.cells 7))])] : List AV) (([(.agg [(.bool (gB y1.cells 0)), (.int .u64 (gI y1.cells 1)), (.int .u64 (gI y1.cells 2)), (.int .i64 (gI y1.cells 3)), (.int .i64 (gI y1.cells 4)), (.str (gS y1.cells 5)), (.str (gS y1.cells 6)), (.int .i64 (gI y1.cells 7))])] : List AV).length) then (bif decide ((a2.length + ([(.agg [(.bool (gB y1.cells 0)), (.int .u64 (gI y1.cells 1)), (.int .u64 (gI y1.cells 2)), (.int .i64 (gI y1.cells 3)), (.int .i64 (gI y1.cells 4)), (.str (gS y1.cells 5)), (.str (gS y1.cells 6)), (.int .i64 (gI y1.cells 7))])] : List AV).length) * 80 ≤ 140737488355328) then (next (IntKind.i64.wrap (v15 + (1 : Int))) (a2 ++ ([(.agg [(.bool (gB y1.cells 0)), (.int .u64 (gI y1.cells 1)), (.int .u64 (gI y1.cells 2)), (.int .i64 (gI y1.cells 3)), (.int .i64 (gI y1.cells 4)), (.str (gS y1.cells 5)), (.str (gS y1.cells 6)), (.int .i64 (gI y1.cells 7))])] : List AV))) else none) else none) else none) else (next (IntKind.i64.wrap (v15 + (1 : Int))) a2))))) else none)) else (kx0 a2))
def qn3  (rec : (List AV) → (List AV) → Bool → Int → Int → Int → Option (List AV)) (v13 : List AV) (v14 : Int) (a0 : List AV) (Au : Bool) (Av Aw Ax : Int) (kx0 : (List AV) → Option (List AV)) : Nat → Int → (List AV) → Option (List AV)
  | 0 => (fun _ _ => none)
  | n + 1 => (fun v15 a2 => qjn rec v13 v14 v15 a0 Au Av Aw Ax a2 (qn3 rec v13 v14 a0 Au Av Aw Ax kx0 n) kx0)
def qnh  (rec : (List AV) → (List AV) → Bool → Int → Int → Int → Option (List AV)):= hull (qn3 rec)
theorem qyw  (rec : (List AV) → (List AV) → Bool → Int → Int → Int → Option (List AV)): qnh rec = qn3 rec := qk _
def qjo (rec : (List AV) → (List AV) → Bool → Int → Int → Int → Option (List AV)) : AC (List AV) :=
  .seq (.reg [ao 16 (.bin .lss 15 14)]) (.seq (.cond 16 (.skip) (.seq (.view [.sel [0, 5, 7] [0, 1, 2]]) (.exit 0))) (.seq (.block 1 (.seq (.reg [ao 17 (.ia 8 13 15),
 .st (.etac 17 qa),
 ao 18 (.load true 8 17),
 ao 9 (.alloc [(.bool false), (.int .u64 0), (.int .u64 0), (.int .i64 0), (.int .i64 0), (.str []), (.str []), (.int .i64 0)]),
 an (.store 8 9 18)]) (.seq (.seq (.reg [ao 19 (.load true 4 5),
 ao 20 (.fa 0 9),
 ao 21 (.load true 4 20),
 .call (po 22 (.call 37 [19, 21])) 37 qk3]) (.cond 22 (.seq (.reg [ao 23 (.mv 0),
 ao 6 (.mv 23)]) (.ret)) (.skip))) (.seq (.reg [ao 24 (.fa 0 9),
 ao 25 (.load true 4 24),
 ao 26 (.load true 4 5),
 .call (po 27 (.call 36 [25, 26])) 36 qxb]) (.cond 27 (.reg [ao 28 (.mv 7),
 ao 29 (.load true 8 9),
 ao 30 (.bsl 8 [29]),
 ao 31 (.app 8 80 28 30),
 ao 7 (.mv 31)]) (.skip)))))) (.seq (.reg [ao 32 (.bin .add 15 (.c (.int .i64 1))),
 ao 15 (.mv 32)]) (.view [.sel [0, 5, 7, 13, 14, 15] [0, 1, 2]]))))
theorem qba6 (rec : (List AV) → (List AV) → Bool → Int → Int → Int → Option (List AV)) (hrec : qr0 Try.prog 69 4 (qfr rec)) : AC.ok Try.prog (TIof Try.prog) 56 1 (qm [.t 6] (grK 4)) (qjo rec) := qo (zA (qd.ok qpa) (zA (qd.ok qbcz) trivial))
theorem q75 (rec : (List AV) → (List AV) → Bool → Int → Int → Int → Option (List AV)) (v13 : List AV) (v14 v15 : Int) (a0 : List AV) (Au : Bool) (Av Aw Ax : Int) (a2 : List AV) (K : Ex → Env → Mem → Option (List AV)) : den 1 (qm [.t 6] (grK 4)) (qjo rec) (qri v13 v14 v15 a0 Au Av Aw Ax a2) (qrj v13 v14 v15 a0 Au Av Aw Ax a2) K = qjn rec v13 v14 v15 a0 Au Av Aw Ax a2 (fun z_v15 z_a2 => K .norm (qri v13 v14 z_v15 a0 Au Av Aw Ax z_a2) (qrj v13 v14 z_v15 a0 Au Av Aw Ax z_a2)) (qmh a0 Au Av Aw Ax K) := by kernel_rfl
theorem qbc0 (rec : (List AV) → (List AV) → Bool → Int → Int → Int → Option (List AV)) (v13 : List AV) (v14 : Int) (a0 : List AV) (Au : Bool) (Av Aw Ax : Int) (K : Ex → Env → Mem → Option (List AV)) : ∀ (n : Nat) (v15 : Int) (a2 : List AV), qg4 (den 1 (qm [.t 6] (grK 4)) (qjo rec)) n (qri v13 v14 v15 a0 Au Av Aw Ax a2) (qrj v13 v14 v15 a0 Au Av Aw Ax a2) K = qnh rec v13 v14 a0 Au Av Aw Ax (qmh a0 Au Av Aw Ax K) n v15 a2 := by
  rw [qyw]
  intro n
  induction n with
  | zero => intros; rfl
  | succ n ih =>
 intro v15 a2
 exact (q75 rec v13 v14 v15 a0 Au Av Aw Ax a2 (itK (den 1 (qm [.t 6] (grK 4)) (qjo rec)) n K)).trans (congrArg (fun q => qjn rec v13 v14 v15 a0 Au Av Aw Ax a2 q (qmh a0 Au Av Aw Ax K)) (funext fun v15 => funext fun a2 => ih v15 a2))
def q0f (rec : (List AV) → (List AV) → Bool → Int → Int → Int → Option (List AV)) := subE (R := List AV) q74 fun t m K => qg (bxC (m.s 1)) (qnh rec (gL [t 13] 0) (gI [t 14] 0) (arL (m.s 0))) (qmh (arL (m.s 0)) (gB (bxC (m.s 1)) 0) (gI (bxC (m.s 1)) 1) (gI (bxC (m.s 1)) 2) (gI (bxC (m.s 1)) 3) K) FU (gI [t 15] 0) (arL (m.s 2))
theorem qbc1 (rec : (List AV) → (List AV) → Bool → Int → Int → Int → Option (List AV)) (hrec : qr0 Try.prog 69 4 (qfr rec)) : qdh Try.prog (TIof Try.prog) 56 1 (qm [.t 6] (grK 4)) (.loop (scOf (qjo rec))) (q0f rec) :=
  qie tabOk follows (qba6 rec hrec) (qbh (by kernel_rfl)) fun t m K => qbc0 rec _ _ _ _ _ _ _ K FU _ _
def qr4 (rec : (List AV) → (List AV) → Bool → Int → Int → Int → Option (List AV)) (a0 v1 : List AV) (Br : Bool) (Bs Bt Bu : Int) : Option (List AV) :=
  (bif (hd a0 (a0.length) && (hd ([] : List AV) (([] : List AV).length) && true)) then (qnh rec v1 (v1.length : Int) a0 Br Bs Bt Bu (fun a2q1 => (bif ((a2q1.length : Int) == (0 : Int)) then (bif hd a0 a0.length then (bif hd ([(.agg [(.bool Br), (.int .u64 Bs), (.int .u64 Bt), (.int .i64 Bu)])] : List AV) (([(.agg [(.bool Br), (.int .u64 Bs), (.int .u64 Bt), (.int .i64 Bu)])] : List AV).length) then (bif decide ((a0.length + ([(.agg [(.bool Br), (.int .u64 Bs), (.int .u64 Bt), (.int .i64 Bu)])] : List AV).length) * 32 ≤ 140737488355328) then (bif hd (a0 ++ ([(.agg [(.bool Br), (.int .u64 Bs), (.int .u64 Bt), (.int .i64 Bu)])] : List AV)) ((a0 ++ ([(.agg [(.bool Br), (.int .u64 Bs), (.int .u64 Bt), (.int .i64 Bu)])] : List AV)).length) then (some (a0 ++ ([(.agg [(.bool Br), (.int .u64 Bs), (.int .u64 Bt), (.int .i64 Bu)])] : List AV))) else none) else none) else none) else none) else (oB (qks Br Bs Bt Bu) fun r2 => (bif (!r2.2.2) then (bif hd a0 a0.length then (some a0) else none) else (bif hd a2q1 a2q1.length then (bif hd a0 a0.length then (oB (bif (hd a0 (a0.length) && true) then (rec a0 a2q1 (gB r2.1.cells 0) (gI r2.1.cells 1) (gI r2.1.cells 2) (gI r2.1.cells 3)) else none) fun r3 => (bif hd r3 r3.length then (oB (bif (hd r3 (r3.length) && true) then (rec r3 a2q1 (gB r2.2.1.cells 0) (gI r2.2.1.cells 1) (gI r2.2.1.cells 2) (gI r2.2.1.cells 3)) else none) fun r4 => (bif hd r4 r4.length then (some r4) else none)) else none)) else none) else none))))) FU (0 : Int) ([] : List AV)) else none)
def qe4 : Nat → (List AV) → (List AV) → Bool → Int → Int → Int → Option (List AV)
  | 0 => (fun _ _ _ _ _ _ => none)
  | n + 1 => (fun a0 v1 Br Bs Bt Bu => qr4 (qe4 n) a0 v1 Br Bs Bt Bu)
def qwb : (List AV) → (List AV) → Bool → Int → Int → Int → Option (List AV) := hull (qe4 FU)
theorem q3c : qwb = qe4 FU := qk _
def qon (rec : (List AV) → (List AV) → Bool → Int → Int → Int → Option (List AV)) : AC (List AV) :=
  .seq (.reg [ao 5 (.box 2),
 ao 6 (.mv (.c .nils))]) (.seq (.reg [ao 7 (.mv (.c .nils))]) (.seq (.seq (.reg [ao 13 (.mv 1),
 ao 14 (.len false 13),
 ao 15 (.mv (.c (.int .i64 0)))]) (.block 0 (.seq (.view [.own 7 8, .sel [0, 5, 7, 13, 14, 15] [0, 1, 2]]) (.sub (.loop (scOf (qjo rec))) (q0f rec))))) (.seq (.seq (.reg [ao 33 (.mv 7),
 ao 34 (.len false 33),
 ao 35 (.bin .eql 34 (.c (.int .i64 0)))]) (.cond 35 (.seq (.reg [ao 36 (.mv 0),
 ao 37 (.load true 4 5),
 ao 38 (.bsl 4 [37]),
 ao 39 (.app 4 32 36 38),
 ao 6 (.mv 39)]) (.ret)) (.skip))) (.seq (.reg [ao 41 (.load true 4 5),
 .call (po 42 (.call 59 [41])) 59 qm1,
 ao 40 (.mv 42),
 ao 43 (.ext 40 0),
 ao 44 (.ext 40 1),
 ao 45 (.ext 40 2),
 ao 10 (.alloc [(.bool false), (.int .u64 0), (.int .u64 0), (.int .i64 0)]),
 ao 11 (.alloc [(.bool false), (.int .u64 0), (.int .u64 0), (.int .i64 0)]),
 an (.store 4 10 43),
 an (.store 4 11 44),
 ao 12 (.mv 45)]) (.seq (.seq (.reg [ao 46 (.mv 12),
 ao 47 (.un .not 46)]) (.cond 47 (.seq (.reg [ao 48 (.mv 0),
 ao 6 (.mv 48)]) (.ret)) (.skip))) (.seq (.seq (.view [.snap 7]) (.draw4 [(po 49 (.mv 0)), (po 50 (.mv 7)), (po 51 (.load true 4 10))] 52 69 4 49 [50, 51] (qfr rec) [(po 53 (.mv 7)), (po 54 (.load true 4 11))] [.callr (po 55 (.call 69 [52, 53, 54])) 69 (qbft 4 (qfr rec)),
 ao 6 (.mv 55)])) (.ret)))))))
theorem qbhf (rec : (List AV) → (List AV) → Bool → Int → Int → Int → Option (List AV)) (hrec : qr0 Try.prog 69 4 (qfr rec)) : AC.ok Try.prog (TIof Try.prog) 56 1 (qm [.t 6] (grK 4)) (qon rec) := qo (zA (qbc1 rec hrec) (zA (qd.ok qt2) (zA hrec (zA (qbiw hrec) trivial))))
theorem qbj1 (rec : (List AV) → (List AV) → Bool → Int → Int → Int → Option (List AV)) (v1 : List AV) (Br : Bool) (Bs Bt Bu : Int) (a0 : List AV) : den 1 (qm [.t 6] (grK 4)) (qon rec) (qj [(0, (.own 0 a0.length)), (1, (.sl 8 v1)), (2, .agg (qc Br Bs Bt Bu))]) (qh [(some (.arr true 4 a0))]) (kend (qm [.t 6] (grK 4))) = qr4 rec a0 v1 Br Bs Bt Bu := by
  kernel_rfl
theorem qbj2 : cFn (TIof Try.prog) Try.f69 = some ⟨56, [.t 6], scOf (qon (fun _ _ _ _ _ _ => none))⟩ := by kernel_rfl
theorem qbj3 (rec : (List AV) → (List AV) → Bool → Int → Int → Int → Option (List AV)) : (qon rec).er = some (scOf (qon (fun _ _ _ _ _ _ => none))) := by kernel_rfl
theorem q3d : ∀ (k : Nat), qr0 Try.prog 69 4 (qfr (qe4 k))
  | 0 => fun xs cl zs h => by
   unfold qfr at h
   obtain ⟨h1, h2⟩ := qsx h
   obtain ⟨h3, h4⟩ := qn h2
   cases h4
  | k + 1 => fun xs cl zs h => by
   unfold qfr at h
   obtain ⟨h1, h2⟩ := qsx h
   obtain ⟨h3, h4⟩ := qn h2
   exact qbl6 tabOk follows Try.func69 (by kernel_rfl) qbj2 (qbhf (qe4 k) (q3d k)) (qbj3 (qe4 k)) qt9 (q9n h1 h3) ((qbj1 (qe4 k) (gL [(ql (.own 0 xs.length :: cl)) 1] 0) (gB ((ql (.own 0 xs.length :: cl)) 2).cells 0) (gI ((ql (.own 0 xs.length :: cl)) 2).cells 1) (gI ((ql (.own 0 xs.length :: cl)) 2).cells 2) (gI ((ql (.own 0 xs.length :: cl)) 2).cells 3) (arL ((M1 4 xs).s 0))).trans h4)
theorem qbj4 : qr0 Try.prog 69 4 (qfr qwb) := by
  have h := q3d FU
  rw [← q3c] at h
  exact h
def ql0  (Ai : Bool) (Aj Ak Al : Int) (K : Ex → Env → Mem → Option (List AV)) := (fun z_a1 => K (.exit 0) (qj [(3, (.ptr 0 0)), (7, (.own 1 z_a1.length))]) (qh [(some (.box true (qc Ai Aj Ak Al))), (some (.arr true 8 z_a1))]))
def q6v : Shp := ⟨[(3, .one (.ptr 0 0)), (7, .one (.own 1)), (23, .one (.l (.sl 8))), (24, .one (.l (.i .i64))), (25, .one (.l (.i .i64)))], [.box true (lk qi), .arr true 8]⟩
def qqd (v23 : List AV) (v24 v25 : Int) (Ai : Bool) (Aj Ak Al : Int) (a1 : List AV) : Env := qj [(3, (.ptr 0 0)), (7, (.own 1 a1.length)), (23, (.sl 8 v23)), (24, (.int .i64 v24)), (25, (.int .i64 v25))]
def qqe (v23 : List AV) (v24 v25 : Int) (Ai : Bool) (Aj Ak Al : Int) (a1 : List AV) : Mem := qh [(some (.box true (qc Ai Aj Ak Al))), (some (.arr true 8 a1))]
def qia  (v23 : List AV) (v24 v25 : Int) (Ai : Bool) (Aj Ak Al : Int) (a1 : List AV) (next : Int → (List AV) → Option (List AV)) (kx0 : (List AV) → Option (List AV)) : Option (List AV) :=
  (bif (decide (v25 < v24)) then (oB (ixB v23 v25) fun y1 => (bif fitC qa y1.cells then (oB (qge (gB y1.cells 0) (gI y1.cells 1) (gI y1.cells 2) (gI y1.cells 3) Ai Aj Ak Al) fun r2 => (bif r2 then (bif hd a1 a1.length then (bif hd ([(.agg [(.bool (gB y1.cells 0)), (.int .u64 (gI y1.cells 1)), (.int .u64 (gI y1.cells 2)), (.int .i64 (gI y1.cells 3)), (.int .i64 (gI y1.cells 4)), (.str (gS y1.cells 5)), (.str (gS y1.cells 6)), (.int .i64 (gI y1.cells 7))])] : List AV) (([(.agg [(.bool (gB y1.cells 0)), (.int .u64 (gI y1.cells 1)), (.int .u64 (gI y1.cells 2)), (.int .i64 (gI y1.cells 3)), (.int .i64 (gI y1.cells 4)), (.str (gS y1.cells 5)), (.str (gS y1.cells 6)), (.int .i64 (gI y1.cells 7))])] : List AV).length) then (bif decide ((a1.length + ([(.agg [(.bool (gB y1.cells 0)), (.int .u64 (gI y1.cells 1)), (.int .u64 (gI y1.cells 2)), (.int .i64 (gI y1.cells 3)), (.int .i64 (gI y1.cells 4)), (.str (gS y1.cells 5)), (.str (gS y1.cells 6)), (.int .i64 (gI y1.cells 7))])] : List AV).length) * 80 ≤ 140737488355328) then (next (IntKind.i64.wrap (v25 + (1 : Int))) (a1 ++ ([(.agg [(.bool (gB y1.cells 0)), (.int .u64 (gI y1.cells 1)), (.int .u64 (gI y1.cells 2)), (.int .i64 (gI y1.cells 3)), (.int .i64 (gI y1.cells 4)), (.str (gS y1.cells 5)), (.str (gS y1.cells 6)), (.int .i64 (gI y1.cells 7))])] : List AV))) else none) else none) else none) else (next (IntKind.i64.wrap (v25 + (1 : Int))) a1))) else none)) else (kx0 a1))
def qm3  (v23 : List AV) (v24 : Int) (Ai : Bool) (Aj Ak Al : Int) (kx0 : (List AV) → Option (List AV)) : Nat → Int → (List AV) → Option (List AV)
  | 0 => (fun _ _ => none)
  | n + 1 => (fun v25 a1 => qia v23 v24 v25 Ai Aj Ak Al a1 (qm3 v23 v24 Ai Aj Ak Al kx0 n) kx0)
def qmi := hull (qm3)
theorem qxc : qmi = qm3 := qk _
def qib : AC (List AV) :=
  .seq (.reg [ao 26 (.bin .lss 25 24)]) (.seq (.cond 26 (.skip) (.seq (.view [.sel [3, 7] [0, 1]]) (.exit 0))) (.seq (.block 1 (.seq (.reg [ao 27 (.ia 8 23 25),
 .st (.etac 27 qa),
 ao 28 (.load true 8 27),
 ao 9 (.alloc [(.bool false), (.int .u64 0), (.int .u64 0), (.int .i64 0), (.int .i64 0), (.str []), (.str []), (.int .i64 0)]),
 an (.store 8 9 28)]) (.seq (.reg [ao 29 (.fa 0 9),
 ao 30 (.load true 4 29),
 ao 31 (.load true 4 3),
 .call (po 32 (.call 64 [30, 31])) 64 qf3]) (.cond 32 (.reg [ao 33 (.mv 7),
 ao 34 (.load true 8 9),
 ao 35 (.bsl 8 [34]),
 ao 36 (.app 8 80 33 35),
 ao 7 (.mv 36)]) (.skip))))) (.seq (.reg [ao 37 (.bin .add 25 (.c (.int .i64 1))),
 ao 25 (.mv 37)]) (.view [.sel [3, 7, 23, 24, 25] [0, 1]]))))
theorem q76 : AC.ok Try.prog (TIof Try.prog) 41 0 (kret [.t 4] (decF true 4)) qib := qo (zA (qd.ok qkq) trivial)
theorem q6w (v23 : List AV) (v24 v25 : Int) (Ai : Bool) (Aj Ak Al : Int) (a1 : List AV) (K : Ex → Env → Mem → Option (List AV)) : den 0 (kret [.t 4] (decF true 4)) qib (qqd v23 v24 v25 Ai Aj Ak Al a1) (qqe v23 v24 v25 Ai Aj Ak Al a1) K = qia v23 v24 v25 Ai Aj Ak Al a1 (fun z_v25 z_a1 => K .norm (qqd v23 v24 z_v25 Ai Aj Ak Al z_a1) (qqe v23 v24 z_v25 Ai Aj Ak Al z_a1)) (ql0 Ai Aj Ak Al K) := by kernel_rfl
theorem qba7 (v23 : List AV) (v24 : Int) (Ai : Bool) (Aj Ak Al : Int) (K : Ex → Env → Mem → Option (List AV)) : ∀ (n : Nat) (v25 : Int) (a1 : List AV), qg4 (den 0 (kret [.t 4] (decF true 4)) qib) n (qqd v23 v24 v25 Ai Aj Ak Al a1) (qqe v23 v24 v25 Ai Aj Ak Al a1) K = qmi v23 v24 Ai Aj Ak Al (ql0 Ai Aj Ak Al K) n v25 a1 := by
  rw [qxc]
  intro n
  induction n with
  | zero => intros; rfl
  | succ n ih =>
 intro v25 a1
 exact (q6w v23 v24 v25 Ai Aj Ak Al a1 (itK (den 0 (kret [.t 4] (decF true 4)) qib) n K)).trans (congrArg (fun q => qia v23 v24 v25 Ai Aj Ak Al a1 q (ql0 Ai Aj Ak Al K)) (funext fun v25 => funext fun a1 => ih v25 a1))
def qyx := subE (R := (List AV)) q6v fun t m K => qg (bxC (m.s 0)) (qmi (gL [t 23] 0) (gI [t 24] 0)) (ql0 (gB (bxC (m.s 0)) 0) (gI (bxC (m.s 0)) 1) (gI (bxC (m.s 0)) 2) (gI (bxC (m.s 0)) 3) K) FU (gI [t 25] 0) (arL (m.s 1))
theorem qba8 : qdh Try.prog (TIof Try.prog) 41 0 (kret [.t 4] (decF true 4)) (.loop (scOf qib)) (qyx) :=
  qie tabOk follows (q76) (qbh (by kernel_rfl)) fun t m K => qba7 _ _ _ _ _ _ K FU _ _
def qbet : Shp := ⟨[(0, .one (.l (.sl 8))), (1, .st (lk qi))], []⟩
def qx4 (v0 : List AV) (Aq : Bool) (Ar As At : Int) : Option (List AV) :=
  (oB (qli v0 Aq Ar As At) fun r1 => (bif ((!r1.2) || ((gI r1.1.cells 4) != (1 : Int))) then (bif hd ([] : List AV) (([] : List AV).length) then (some ([] : List AV)) else none) else (bif (hd ([] : List AV) (([] : List AV).length) && true) then (qmi v0 (v0.length : Int) Aq Ar As At (fun a1q2 => (bif hd a1q2 a1q2.length then (oB (bif (hd ([] : List AV) (([] : List AV).length) && true) then (qwb ([] : List AV) a1q2 Aq Ar As At) else none) fun r3 => (bif hd r3 r3.length then (some r3) else none)) else none)) FU (0 : Int) ([] : List AV)) else none)))
def qov := hull qx4
theorem q3e : qov = qx4 := qk _
def qx5 : AC (List AV) :=
  .seq (.reg [ao 3 (.box 1),
 ao 4 (.mv (.c .nils))]) (.seq (.seq (.reg [ao 11 (.mv 0),
 ao 12 (.load true 4 3),
 .call (po 13 (.call 24 [11, 12])) 24 qme,
 ao 10 (.mv 13),
 ao 14 (.ext 10 0),
 ao 15 (.ext 10 1),
 ao 5 (.alloc [(.bool false), (.int .u64 0), (.int .u64 0), (.int .i64 0), (.int .i64 0), (.str []), (.str []), (.int .i64 0)]),
 an (.store 8 5 14),
 ao 6 (.mv 15)]) (.seq (.reg [ao 16 (.mv 6),
 ao 17 (.un .not 16),
 ao 18 (.mv 17),
 .grp 18 false [(pg 19 18 false (.fa 4 5)), (pg 20 18 false (.load false 1 19)), (pg 21 18 false (.bin .neq 20 (.c (.int .i64 1))))] 22 21]) (.cond 22 (.seq (.reg [ao 4 (.mv (.c .nils))]) (.seq (.view [.own 4 4]) (.ret))) (.skip)))) (.seq (.reg [ao 7 (.mv (.c .nils))]) (.seq (.seq (.reg [ao 23 (.mv 0),
 ao 24 (.len false 23),
 ao 25 (.mv (.c (.int .i64 0)))]) (.block 0 (.seq (.view [.own 7 8, .sel [3, 7, 23, 24, 25] [0, 2]]) (.sub (.loop (scOf qib)) qyx)))) (.seq (.reg [ao 38 (.mv 7),
 ao 39 (.load true 4 3),
 .st (.snap 38),
 .callr (po 40 (.call 69 [(.c .nils), 38, 39])) 69 (qbft 4 (qfr qwb)),
 ao 4 (.mv 40)]) (.ret)))))
theorem qbhg : AC.ok Try.prog (TIof Try.prog) 41 0 (kret [.t 4] (decF true 4)) qx5 := qo (zA (qd.ok qr3) (zA qba8 (zA (qbiw qbj4) trivial)))
theorem qbj5 (v0 : List AV) (Aq : Bool) (Ar As At : Int) : den 0 (kret [.t 4] (decF true 4)) qx5 (qj [(0, (.sl 8 v0)), (1, .agg (qc Aq Ar As At))]) (qh []) (kend (kret [.t 4] (decF true 4))) = qov v0 Aq Ar As At := by
  rw [q3e]; kernel_rfl
theorem qbj6 : cFn (TIof Try.prog) Try.f33 = some ⟨41, [.t 4], scOf qx5⟩ := by kernel_rfl
def qbj7 (xs : List AV) : Option (List AV) := qg ((ql xs) 1).cells (qov (gL [(ql xs) 0] 0))
def q1o {R : Type} : List AV → (AV → Option R) → Option R := entF qbet qbj7 (AV.fr true 4)
theorem qbj8 {R : Type} : qd Try.prog 33 (q1o (R := R)) :=
  qch tabOk follows Try.func33 (by kernel_rfl) qbj6 hdeF qbhg (qbh (by kernel_rfl)) fun xs => qbj5 _ _ _ _ _
def qkk  (K : Ex → Env → Mem → Option Bool) := (fun (_ : Unit) => K (.exit 0) (qj []) (qh []))
def q3f : Shp := ⟨[(0, .one (.l (.sl 8))), (1, .one (.l (.sl 8))), (12, .one (.l (.i .i64))), (13, .one (.l (.i .i64)))], []⟩
def qn4 (v0 v1 : List AV) (v12 v13 : Int) : Env := qj [(0, (.sl 8 v0)), (1, (.sl 8 v1)), (12, (.int .i64 v12)), (13, (.int .i64 v13))]
def qn5 (v0 v1 : List AV) (v12 v13 : Int) : Mem := qh []
def qga  (v0 v1 : List AV) (v12 v13 : Int) (next : Int → Option Bool) (kx0 : Unit → Option Bool) : Option Bool :=
  (bif (decide (v13 < v12)) then (oB (ixB v0 v13) fun y1 => (bif fitC qa y1.cells then (oB (ixB v1 v13) fun y2 => (bif fitC qa y2.cells then (bif (!(((gB y1.cells 0) == (gB y2.cells 0)) && (((gI y1.cells 1) == (gI y2.cells 1)) && (((gI y1.cells 2) == (gI y2.cells 2)) && (((gI y1.cells 3) == (gI y2.cells 3)) && (((gI y1.cells 4) == (gI y2.cells 4)) && (((gS y1.cells 5) == (gS y2.cells 5)) && (((gS y1.cells 6) == (gS y2.cells 6)) && (((gI y1.cells 7) == (gI y2.cells 7)) && true))))))))) then (some false) else (next (IntKind.i64.wrap (v13 + (1 : Int))))) else none)) else none)) else (kx0 ()))
def ql1  (v0 v1 : List AV) (v12 : Int) (kx0 : Unit → Option Bool) : Nat → Int → Option Bool
  | 0 => (fun _ => none)
  | n + 1 => (fun v13 => qga v0 v1 v12 v13 (ql1 v0 v1 v12 kx0 n) kx0)
def qm4 := hull (ql1)
theorem qua : qm4 = ql1 := qk _
def qgb : AC Bool :=
  .seq (.reg [ao 14 (.bin .lss 13 12)]) (.seq (.cond 14 (.skip) (.seq (.view [.sel [] []]) (.exit 0))) (.seq (.block 1 (.seq (.reg [ao 15 (.mv 13),
 ao 5 (.mv 15)]) (.seq (.draw [] [ao 16 (.mv 0),
 ao 17 (.mv 5),
 ao 18 (.ia 8 16 17),
 .et 18 qa,
 ao 19 (.load true 8 18),
 ao 20 (.mv 1),
 ao 21 (.mv 5),
 ao 22 (.ia 8 20 21),
 .et 22 qa,
 ao 23 (.load true 8 22)] [ao 24 (.eq true true [.b, (.i .u64), (.i .u64), (.i .i64), (.i .i64), .s, .s, (.i .i64)] 19 23)]) (.cond 24 (.seq (.reg [ao 4 (.mv (.c (.bool false)))]) (.ret)) (.skip))))) (.seq (.reg [ao 25 (.bin .add 13 (.c (.int .i64 1))),
 ao 13 (.mv 25)]) (.view [.sel [0, 1, 12, 13] []]))))
theorem q4t : AC.ok Try.prog (TIof Try.prog) 26 0 (kret [.t 4] decB) qgb := qo (zA rfl trivial)
theorem q3g (v0 v1 : List AV) (v12 v13 : Int) (K : Ex → Env → Mem → Option Bool) : den 0 (kret [.t 4] decB) qgb (qn4 v0 v1 v12 v13) (qn5 v0 v1 v12 v13) K = qga v0 v1 v12 v13 (fun z_v13 => K .norm (qn4 v0 v1 v12 z_v13) (qn5 v0 v1 v12 z_v13)) (qkk K) := by kernel_rfl
theorem q6x (v0 v1 : List AV) (v12 : Int) (K : Ex → Env → Mem → Option Bool) : ∀ (n : Nat) (v13 : Int), qg4 (den 0 (kret [.t 4] decB) qgb) n (qn4 v0 v1 v12 v13) (qn5 v0 v1 v12 v13) K = qm4 v0 v1 v12 (qkk K) n v13 := by
  rw [qua]
  intro n
  induction n with
  | zero => intros; rfl
  | succ n ih =>
 intro v13
 exact (q3g v0 v1 v12 v13 (itK (den 0 (kret [.t 4] decB) qgb) n K)).trans (congrArg (fun q => qga v0 v1 v12 v13 q (qkk K)) (funext fun v13 => ih v13))
def qvd := subE (R := Bool) q3f fun t m K => qm4 (gL [t 0] 0) (gL [t 1] 0) (gI [t 12] 0) (qkk K) FU (gI [t 13] 0)
theorem q6y : qdh Try.prog (TIof Try.prog) 26 0 (kret [.t 4] decB) (.loop (scOf qgb)) (qvd) :=
  qie tabOk follows (q4t) (qbh (by kernel_rfl)) fun t m K => q6x _ _ _ K FU _
def qba9 : Shp := ⟨[(0, .one (.l (.sl 8))), (1, .one (.l (.sl 8)))], []⟩
def qub (v0 v1 : List AV) : Option Bool :=
  (bif ((v0.length : Int) != (v1.length : Int)) then (some false) else (qm4 v0 v1 (v0.length : Int) (fun (_ : Unit) => (some true)) FU (0 : Int)))
def qkv := hull qub
theorem q0g : qkv = qub := qk _
def quc : AC Bool :=
  .seq (.reg [ao 4 (.mv (.c (.bool false)))]) (.seq (.seq (.reg [ao 6 (.mv 0),
 ao 7 (.len false 6),
 ao 8 (.mv 1),
 ao 9 (.len false 8),
 ao 10 (.bin .neq 7 9)]) (.cond 10 (.seq (.reg [ao 4 (.mv (.c (.bool false)))]) (.ret)) (.skip))) (.seq (.seq (.reg [ao 11 (.mv 0),
 ao 12 (.len false 11),
 ao 13 (.mv (.c (.int .i64 0)))]) (.block 0 (.seq (.view [.sel [0, 1, 12, 13] []]) (.sub (.loop (scOf qgb)) qvd)))) (.seq (.reg [ao 4 (.mv (.c (.bool true)))]) (.ret))))
theorem qbc2 : AC.ok Try.prog (TIof Try.prog) 26 0 (kret [.t 4] decB) quc := qo (zA q6y trivial)
theorem qbeu (v0 v1 : List AV) : den 0 (kret [.t 4] decB) quc (qj [(0, (.sl 8 v0)), (1, (.sl 8 v1))]) (qh []) (kend (kret [.t 4] decB)) = qkv v0 v1 := by
  rw [q0g]; kernel_rfl
theorem qbev : cFn (TIof Try.prog) Try.f19 = some ⟨26, [.t 4], scOf quc⟩ := by kernel_rfl
def qbew (xs : List AV) : Option Bool := qkv (gL [(ql xs) 0] 0) (gL [(ql xs) 1] 0)
def qyy {R : Type} : List AV → (AV → Option R) → Option R := entF qba9 qbew AV.bool
theorem qbex {R : Type} : qd Try.prog 19 (qyy (R := R)) :=
  qch tabOk follows Try.func19 (by kernel_rfl) qbev hdeB qbc2 (qbh (by kernel_rfl)) fun xs => qbeu _ _
def qs6  (v1 : List AV) (v11 v13 : Bool) (v14 v15 : List AV) (Ai : Bool) (Aj Ak Al Am : Int) (An Ao : List UInt8) (Ap : Int) (Au : Bool) (Av Aw Ax Bv : Int) (Bw Bx : List UInt8) (By : Int) (K : Ex → Env → Mem → Option Bool) := (fun z_v125 => K .norm (qj [(1, (.sl 8 v1)), (10, (.ptr 0 0)), (11, (.bool v11)), (12, (.ptr 1 0)), (13, (.bool v13)), (14, (.sl 8 v14)), (15, (.sl 4 v15)), (125, (.bool z_v125))]) (qh [(some (.box true (qb Ai Aj Ak Al Am An Ao Ap))), (some (.box true (qb Au Av Aw Ax Bv Bw Bx By)))]))
def q2h : Shp := ⟨[(1, .one (.l (.sl 8))), (3, .one (.l (.i .i64))), (4, .one (.l (.sl 8))), (5, .one (.l (.i .i64))), (6, .one (.l (.sl 8))), (7, .one (.l (.i .i64))), (8, .one (.l (.sl 8))), (9, .one (.l (.i .i64))), (10, .one (.ptr 0 0)), (11, .one (.l .b)), (12, .one (.ptr 1 0)), (13, .one (.l .b)), (14, .one (.l (.sl 8))), (15, .one (.l (.sl 4)))], [.box true (lk qa), .box true (lk qa)]⟩
def qn6  (v1 : List AV) (v3 : Int) (v4 : List AV) (v5 : Int) (v6 : List AV) (v7 : Int) (v8 : List AV) (v9 : Int) (v11 v13 : Bool) (v14 v15 : List AV) (Ai : Bool) (Aj Ak Al Am : Int) (An Ao : List UInt8) (Ap : Int) (Au : Bool) (Av Aw Ax Bv : Int) (Bw Bx : List UInt8) (By : Int) (kn : Bool → Option Bool) : Option Bool :=
  (oB (qls v1) fun r1 => (bif (r1 != (0 : Int)) then (kn true) else (bif (v3 != (25 : Int)) then (kn true) else (bif (v5 != (0 : Int)) then (kn true) else (bif ((v4.length : Int) != (4 : Int)) then (kn true) else (oB (ixB v4 (3 : Int)) fun y2 => (bif fitC qa y2.cells then (bif (!((gS y2.cells 5) == ([120] : List UInt8))) then (kn true) else (bif (v7 != (0 : Int)) then (kn true) else (bif ((v6.length : Int) != (5 : Int)) then (kn true) else (oB (ixB v6 (3 : Int)) fun y3 => (bif fitC qa y3.cells then (bif (!((gS y3.cells 5) == ([120, 45, 48] : List UInt8))) then (kn true) else (oB (ixB v6 (4 : Int)) fun y4 => (bif fitC qa y4.cells then (oB (qgf (167870464 : Int) (17 : Int)) fun r5 => (bif (!(((gB y4.cells 0) == (gB r5.cells 0)) && (((gI y4.cells 1) == (gI r5.cells 1)) && (((gI y4.cells 2) == (gI r5.cells 2)) && (((gI y4.cells 3) == (gI r5.cells 3)) && true))))) then (kn true) else (bif (v9 != (0 : Int)) then (kn true) else (oB (qkv v8 v4) fun r6 => (kn (!r6)))))) else none))) else none))))) else none)))))))
def qmj := hull (qn6)
theorem qs7 : qmj = qn6 := qk _
def qld : AC Bool :=
  .seq (.draw [] [ao 69 (.mv 1),
 .call (po 70 (.call 11 [69])) 11 qsk,
 ao 71 (.bin .neq 70 (.c (.int .i64 0))),
 ao 72 (.mv 71),
 ag 73 72 false (.mv 3),
 ag 74 72 false (.bin .neq 73 (.c (.int .i64 25))),
 ao 75 (.pick 72 (.c (.bool true)) 74),
 ao 76 (.mv 75),
 ag 77 76 false (.mv 5),
 ag 78 76 false (.bin .neq 77 (.c (.int .i64 0))),
 ao 79 (.pick 76 (.c (.bool true)) 78),
 ao 80 (.mv 79),
 ag 81 80 false (.mv 4),
 ag 82 80 false (.len false 81),
 ag 83 80 false (.bin .neq 82 (.c (.int .i64 4))),
 ao 84 (.pick 80 (.c (.bool true)) 83),
 ao 85 (.mv 84),
 ag 86 85 false (.mv 4),
 ag 87 85 false (.ia 8 86 (.c (.int .i64 3))),
 .et 87 qa,
 ag 88 85 false (.fa 5 87),
 ag 89 85 false (.load false 1 88),
 ag 90 85 false (.bin .neq 89 (.c (.str [120]))),
 ao 91 (.pick 85 (.c (.bool true)) 90),
 ao 92 (.mv 91),
 ag 93 92 false (.mv 7),
 ag 94 92 false (.bin .neq 93 (.c (.int .i64 0))),
 ao 95 (.pick 92 (.c (.bool true)) 94),
 ao 96 (.mv 95),
 ag 97 96 false (.mv 6),
 ag 98 96 false (.len false 97),
 ag 99 96 false (.bin .neq 98 (.c (.int .i64 5))),
 ao 100 (.pick 96 (.c (.bool true)) 99),
 ao 101 (.mv 100),
 ag 102 101 false (.mv 6),
 ag 103 101 false (.ia 8 102 (.c (.int .i64 3))),
 .et 103 qa,
 ag 104 101 false (.fa 5 103),
 ag 105 101 false (.load false 1 104),
 ag 106 101 false (.bin .neq 105 (.c (.str [120, 45, 48]))),
 ao 107 (.pick 101 (.c (.bool true)) 106),
 ao 108 (.mv 107),
 ag 109 108 false (.mv 6),
 ag 110 108 false (.ia 8 109 (.c (.int .i64 4))),
 .et 110 qa,
 ag 111 108 false (.fa 0 110),
 ag 112 108 false (.load true 4 111),
 .call (pg 113 108 false (.call 50 [(.c (.int .u64 167870464)), (.c (.int .i64 17))])) 50 qf4,
 ag 114 108 false (.eq true true [.b, (.i .u64), (.i .u64), (.i .i64)] 112 113),
 ao 115 (.pick 108 (.c (.bool true)) 114),
 ao 116 (.mv 115),
 ag 117 116 false (.mv 9),
 ag 118 116 false (.bin .neq 117 (.c (.int .i64 0))),
 ao 119 (.pick 116 (.c (.bool true)) 118),
 ao 120 (.mv 119),
 ag 121 120 false (.mv 8),
 ag 122 120 false (.mv 4)] [.call (pg 123 120 false (.call 19 [121, 122])) 19 qyy,
 ag 124 120 false (.un .not 123),
 ao 125 (.pick 120 (.c (.bool true)) 124)]) (.view [.sel [1, 10, 11, 12, 13, 14, 15, 125] [0, 1]])
theorem q3h : AC.ok Try.prog (TIof Try.prog) 177 0 (kret [.t 0] decB) qld := qo (zA (qd.ok q2w) (zA (qd.ok qkr) (zA (qd.ok qbex) (zA rfl trivial))))
theorem q4u (v1 : List AV) (v3 : Int) (v4 : List AV) (v5 : Int) (v6 : List AV) (v7 : Int) (v8 : List AV) (v9 : Int) (v11 v13 : Bool) (v14 v15 : List AV) (Ai : Bool) (Aj Ak Al Am : Int) (An Ao : List UInt8) (Ap : Int) (Au : Bool) (Av Aw Ax Bv : Int) (Bw Bx : List UInt8) (By : Int) (K : Ex → Env → Mem → Option Bool) : den 0 (kret [.t 0] decB) qld (qj [(1, (.sl 8 v1)), (3, (.int .i64 v3)), (4, (.sl 8 v4)), (5, (.int .i64 v5)), (6, (.sl 8 v6)), (7, (.int .i64 v7)), (8, (.sl 8 v8)), (9, (.int .i64 v9)), (10, (.ptr 0 0)), (11, (.bool v11)), (12, (.ptr 1 0)), (13, (.bool v13)), (14, (.sl 8 v14)), (15, (.sl 4 v15))]) (qh [(some (.box true (qb Ai Aj Ak Al Am An Ao Ap))), (some (.box true (qb Au Av Aw Ax Bv Bw Bx By)))]) K = qmj v1 v3 v4 v5 v6 v7 v8 v9 v11 v13 v14 v15 Ai Aj Ak Al Am An Ao Ap Au Av Aw Ax Bv Bw Bx By (qs6 v1 v11 v13 v14 v15 Ai Aj Ak Al Am An Ao Ap Au Av Aw Ax Bv Bw Bx By K) := by
  rw [qs7]; kernel_rfl
def qud := subE (R := Bool) q2h fun t m K => qe (bxC (m.s 1)) (qe (bxC (m.s 0)) (qmj (gL [t 1] 0) (gI [t 3] 0) (gL [t 4] 0) (gI [t 5] 0) (gL [t 6] 0) (gI [t 7] 0) (gL [t 8] 0) (gI [t 9] 0) (gB [t 11] 0) (gB [t 13] 0) (gL [t 14] 0) (gL [t 15] 0))) (qs6 (gL [t 1] 0) (gB [t 11] 0) (gB [t 13] 0) (gL [t 14] 0) (gL [t 15] 0) (gB (bxC (m.s 0)) 0) (gI (bxC (m.s 0)) 1) (gI (bxC (m.s 0)) 2) (gI (bxC (m.s 0)) 3) (gI (bxC (m.s 0)) 4) (gS (bxC (m.s 0)) 5) (gS (bxC (m.s 0)) 6) (gI (bxC (m.s 0)) 7) (gB (bxC (m.s 1)) 0) (gI (bxC (m.s 1)) 1) (gI (bxC (m.s 1)) 2) (gI (bxC (m.s 1)) 3) (gI (bxC (m.s 1)) 4) (gS (bxC (m.s 1)) 5) (gS (bxC (m.s 1)) 6) (gI (bxC (m.s 1)) 7) K)
theorem q4v : qdh Try.prog (TIof Try.prog) 177 0 (kret [.t 0] decB) (scOf qld) (qud) :=
  qke tabOk follows (q3h) (qbh (by kernel_rfl)) fun t m K => q4u _ _ _ _ _ _ _ _ _ _ _ _ _ _ _ _ _ _ _ _ _ _ _ _ _ _ _ _ K
def q77 : Shp := ⟨[], []⟩
def qst : Option Bool :=
  (oB (qlt) fun r1 => (oB (ixB r1 (1 : Int)) fun y2 => (bif fitC qa y2.cells then (oB (ql6 r1 (gB y2.cells 0) (gI y2.cells 1) (gI y2.cells 2) (gI y2.cells 3)) fun r3 => (oB (qgf (167837696 : Int) (16 : Int)) fun r4 => (oB (qqp r1 (gB r4.cells 0) (gI r4.cells 1) (gI r4.cells 2) (gI r4.cells 3) (2 : Int) ([120] : List UInt8) ([] : List UInt8) (0 : Int)) fun r5 => (oB (qgf (167837696 : Int) (16 : Int)) fun r6 => (oB (qnb r5.1 (gB r6.cells 0) (gI r6.cells 1) (gI r6.cells 2) (gI r6.cells 3)) fun r7 => (oB (qgf (167837696 : Int) (16 : Int)) fun r8 => (oB (qou r7.1 (gB r8.cells 0) (gI r8.cells 1) (gI r8.cells 2) (gI r8.cells 3)) fun r9 => (oB (qgf (167772166 : Int) (32 : Int)) fun r10 => (oB (qkt r1 (gB r10.cells 0) (gI r10.cells 1) (gI r10.cells 2) (gI r10.cells 3)) fun r11 => (oB (qku r1 false (0 : Int) (168361984 : Int)) fun r12 => (oB (ixB r1 (0 : Int)) fun y13 => (bif fitC qa y13.cells then (oB (qkj r1 (gB y13.cells 0) (gI y13.cells 1) (gI y13.cells 2) (gI y13.cells 3)) fun r14 => (oB (ixB r1 (0 : Int)) fun y15 => (bif fitC qa y15.cells then (oB (qov r1 (gB y15.cells 0) (gI y15.cells 1) (gI y15.cells 2) (gI y15.cells 3)) fun r16 => (qmj r1 r3.2 r5.1 r5.2 r7.1 r7.2 r9.1 r9.2 r11.2 r12.2 r14 r16 (gB r11.1.cells 0) (gI r11.1.cells 1) (gI r11.1.cells 2) (gI r11.1.cells 3) (gI r11.1.cells 4) (gS r11.1.cells 5) (gS r11.1.cells 6) (gI r11.1.cells 7) (gB r12.1.cells 0) (gI r12.1.cells 1) (gI r12.1.cells 2) (gI r12.1.cells 3) (gI r12.1.cells 4) (gS r12.1.cells 5) (gS r12.1.cells 6) (gI r12.1.cells 7) (fun v125q17 => (bif v125q17 then (some false) else (bif r11.2 then (oB (ixB r1 (1 : Int)) fun y18 => (bif fitC qa y18.cells then (bif (((gB r11.1.cells 0) == (gB y18.cells 0)) && (((gI r11.1.cells 1) == (gI y18.cells 1)) && (((gI r11.1.cells 2) == (gI y18.cells 2)) && (((gI r11.1.cells 3) == (gI y18.cells 3)) && (((gI r11.1.cells 4) == (gI y18.cells 4)) && (((gS r11.1.cells 5) == (gS y18.cells 5)) && (((gS r11.1.cells 6) == (gS y18.cells 6)) && (((gI r11.1.cells 7) == (gI y18.cells 7)) && true)))))))) then (bif r12.2 then (oB (ixB r1 (0 : Int)) fun y19 => (bif fitC qa y19.cells then (bif (((gB r12.1.cells 0) == (gB y19.cells 0)) && (((gI r12.1.cells 1) == (gI y19.cells 1)) && (((gI r12.1.cells 2) == (gI y19.cells 2)) && (((gI r12.1.cells 3) == (gI y19.cells 3)) && (((gI r12.1.cells 4) == (gI y19.cells 4)) && (((gS r12.1.cells 5) == (gS y19.cells 5)) && (((gS r12.1.cells 6) == (gS y19.cells 6)) && (((gI r12.1.cells 7) == (gI y19.cells 7)) && true)))))))) then (bif ((r14.length : Int) == (1 : Int)) then (oB (ixB r14 (0 : Int)) fun y20 => (bif fitC qa y20.cells then (oB (ixB r1 (1 : Int)) fun y21 => (bif fitC qa y21.cells then (bif (((gB y20.cells 0) == (gB y21.cells 0)) && (((gI y20.cells 1) == (gI y21.cells 1)) && (((gI y20.cells 2) == (gI y21.cells 2)) && (((gI y20.cells 3) == (gI y21.cells 3)) && (((gI y20.cells 4) == (gI y21.cells 4)) && (((gS y20.cells 5) == (gS y21.cells 5)) && (((gS y20.cells 6) == (gS y21.cells 6)) && (((gI y20.cells 7) == (gI y21.cells 7)) && true)))))))) then (bif ((r16.length : Int) == (16 : Int)) then (oB (ixB r16 (0 : Int)) fun y22 => (bif fitC qi y22.cells then (oB (qgf (167772416 : Int) (24 : Int)) fun r23 => (bif (((gB y22.cells 0) == (gB r23.cells 0)) && (((gI y22.cells 1) == (gI r23.cells 1)) && (((gI y22.cells 2) == (gI r23.cells 2)) && (((gI y22.cells 3) == (gI r23.cells 3)) && true)))) then (oB (ixB r16 (15 : Int)) fun y24 => (bif fitC qi y24.cells then (oB (qgf (176160768 : Int) (9 : Int)) fun r25 => (some (((gB y24.cells 0) == (gB r25.cells 0)) && (((gI y24.cells 1) == (gI r25.cells 1)) && (((gI y24.cells 2) == (gI r25.cells 2)) && (((gI y24.cells 3) == (gI r25.cells 3)) && true)))))) else none)) else (some false))) else none)) else (some false)) else (some false)) else none)) else none)) else (some false)) else (some false)) else none)) else (some false)) else (some false)) else none)) else (some false)))))) else none))) else none)))))))))))) else none)))
def qjp := hull qst
theorem qyz : qjp = qst := qk _
def qsu : AC Bool :=
  .seq (.reg [ao 0 (.mv (.c (.bool false)))]) (.seq (.reg [.callc (po 16 (.call 49 [])) 49 qts,
 ao 1 (.mv 16)]) (.seq (.reg [ao 18 (.mv 1),
 ao 19 (.mv 1),
 ao 20 (.ia 8 19 (.c (.int .i64 1))),
 .st (.etac 20 qa),
 ao 21 (.fa 0 20),
 ao 22 (.load true 4 21),
 .callc (po 23 (.call 17 [18, 22])) 17 qyk,
 ao 17 (.mv 23),
 ao 24 (.ext 17 0),
 ao 25 (.ext 17 1),
 ao 2 (.mv 24),
 ao 3 (.mv 25)]) (.seq (.reg [ao 27 (.mv 1),
 .call (po 28 (.call 50 [(.c (.int .u64 167837696)), (.c (.int .i64 16))])) 50 qf4,
 ao 29 (.build [(.bool false), (.int .u64 0), (.int .u64 0), (.int .i64 0), (.int .i64 0), (.str []), (.str []), (.int .i64 0)] [(0, (4, 28)), (4, (1, (.c (.int .i64 2)))), (5, (1, (.c (.str [120]))))]),
 .callc (po 30 (.call 15 [27, 29])) 15 q20,
 ao 26 (.mv 30),
 ao 31 (.ext 26 0),
 ao 32 (.ext 26 1),
 ao 4 (.mv 31),
 ao 5 (.mv 32)]) (.seq (.reg [ao 34 (.mv 4),
 .call (po 35 (.call 50 [(.c (.int .u64 167837696)), (.c (.int .i64 16))])) 50 qf4,
 .callc (po 36 (.call 20 [34, 35])) 20 qz7,
 ao 33 (.mv 36),
 ao 37 (.ext 33 0),
 ao 38 (.ext 33 1),
 ao 6 (.mv 37),
 ao 7 (.mv 38)]) (.seq (.reg [ao 40 (.mv 6),
 .call (po 41 (.call 50 [(.c (.int .u64 167837696)), (.c (.int .i64 16))])) 50 qf4,
 .callc (po 42 (.call 22 [40, 41])) 22 q1l,
 ao 39 (.mv 42),
 ao 43 (.ext 39 0),
 ao 44 (.ext 39 1),
 ao 8 (.mv 43),
 ao 9 (.mv 44)]) (.seq (.reg [ao 46 (.mv 1),
 .call (po 47 (.call 50 [(.c (.int .u64 167772166)), (.c (.int .i64 32))])) 50 qf4,
 .call (po 48 (.call 26 [46, 47])) 26 qrb,
 ao 45 (.mv 48),
 ao 49 (.ext 45 0),
 ao 50 (.ext 45 1),
 ao 10 (.alloc [(.bool false), (.int .u64 0), (.int .u64 0), (.int .i64 0), (.int .i64 0), (.str []), (.str []), (.int .i64 0)]),
 an (.store 8 10 49),
 ao 11 (.mv 50)]) (.seq (.reg [ao 52 (.mv 1),
 ao 53 (.build [(.bool false), (.int .u64 0), (.int .u64 0)] [(2, (1, (.c (.int .u64 168361984))))]),
 .call (po 54 (.call 28 [52, 53])) 28 qrf,
 ao 51 (.mv 54),
 ao 55 (.ext 51 0),
 ao 56 (.ext 51 1),
 ao 12 (.alloc [(.bool false), (.int .u64 0), (.int .u64 0), (.int .i64 0), (.int .i64 0), (.str []), (.str []), (.int .i64 0)]),
 an (.store 8 12 55),
 ao 13 (.mv 56)]) (.seq (.reg [ao 57 (.mv 1),
 ao 58 (.mv 1),
 ao 59 (.ia 8 58 (.c (.int .i64 0))),
 .st (.etac 59 qa),
 ao 60 (.fa 0 59),
 ao 61 (.load true 4 60),
 .callc (po 62 (.call 30 [57, 61])) 30 qvc,
 ao 14 (.mv 62)]) (.seq (.reg [ao 63 (.mv 1),
 ao 64 (.mv 1),
 ao 65 (.ia 8 64 (.c (.int .i64 0))),
 .st (.etac 65 qa),
 ao 66 (.fa 0 65),
 ao 67 (.load true 4 66),
 .callc (po 68 (.call 33 [63, 67])) 33 q1o,
 ao 15 (.mv 68)]) (.seq (.seq (.seq (.view [.sel [1, 3, 4, 5, 6, 7, 8, 9, 10, 11, 12, 13, 14, 15] [0, 1]]) (.sub (scOf qld) qud)) (.cond 125 (.seq (.reg [ao 0 (.mv (.c (.bool false)))]) (.ret)) (.skip))) (.seq (.draw [] [ao 126 (.mv 11),
 ao 127 (.mv 126),
 ag 128 127 true (.load true 8 10),
 ag 129 127 true (.mv 1),
 ag 130 127 true (.ia 8 129 (.c (.int .i64 1))),
 .et 130 qa,
 ag 131 127 true (.load true 8 130),
 ag 132 127 true (.eq false true [.b, (.i .u64), (.i .u64), (.i .i64), (.i .i64), .s, .s, (.i .i64)] 128 131),
 ao 133 (.pick 127 132 (.c (.bool false))),
 ao 134 (.mv 133),
 ag 135 134 true (.mv 13),
 ao 136 (.pick 134 135 (.c (.bool false))),
 ao 137 (.mv 136),
 ag 138 137 true (.load true 8 12),
 ag 139 137 true (.mv 1),
 ag 140 137 true (.ia 8 139 (.c (.int .i64 0))),
 .et 140 qa,
 ag 141 137 true (.load true 8 140),
 ag 142 137 true (.eq false true [.b, (.i .u64), (.i .u64), (.i .i64), (.i .i64), .s, .s, (.i .i64)] 138 141),
 ao 143 (.pick 137 142 (.c (.bool false))),
 ao 144 (.mv 143),
 ag 145 144 true (.mv 14),
 ag 146 144 true (.len false 145),
 ag 147 144 true (.bin .eql 146 (.c (.int .i64 1))),
 ao 148 (.pick 144 147 (.c (.bool false))),
 ao 149 (.mv 148),
 ag 150 149 true (.mv 14),
 ag 151 149 true (.ia 8 150 (.c (.int .i64 0))),
 .et 151 qa,
 ag 152 149 true (.load true 8 151),
 ag 153 149 true (.mv 1),
 ag 154 149 true (.ia 8 153 (.c (.int .i64 1))),
 .et 154 qa,
 ag 155 149 true (.load true 8 154),
 ag 156 149 true (.eq false true [.b, (.i .u64), (.i .u64), (.i .i64), (.i .i64), .s, .s, (.i .i64)] 152 155),
 ao 157 (.pick 149 156 (.c (.bool false))),
 ao 158 (.mv 157),
 ag 159 158 true (.mv 15),
 ag 160 158 true (.len false 159),
 ag 161 158 true (.bin .eql 160 (.c (.int .i64 16))),
 ao 162 (.pick 158 161 (.c (.bool false))),
 ao 163 (.mv 162),
 ag 164 163 true (.mv 15),
 ag 165 163 true (.ia 4 164 (.c (.int .i64 0))),
 .et 165 qi,
 ag 166 163 true (.load true 4 165),
 .call (pg 167 163 true (.call 50 [(.c (.int .u64 167772416)), (.c (.int .i64 24))])) 50 qf4,
 ag 168 163 true (.eq false true [.b, (.i .u64), (.i .u64), (.i .i64)] 166 167),
 ao 169 (.pick 163 168 (.c (.bool false))),
 ao 170 (.mv 169),
 ag 171 170 true (.mv 15),
 ag 172 170 true (.ia 4 171 (.c (.int .i64 15))),
 .et 172 qi,
 ag 173 170 true (.load true 4 172),
 .call (pg 174 170 true (.call 50 [(.c (.int .u64 176160768)), (.c (.int .i64 9))])) 50 qf4] [ag 175 170 true (.eq false true [.b, (.i .u64), (.i .u64), (.i .i64)] 173 174),
 ao 176 (.pick 170 175 (.c (.bool false))),
 ao 0 (.mv 176)]) (.ret))))))))))))
theorem qbba : AC.ok Try.prog (TIof Try.prog) 177 0 (kret [.t 0] decB) qsu := qo (zA (qd.ok q7k) (zA (qd.ok qbd8) (zA (qd.ok qkr) (zA (qd.ok qbkx) (zA (qd.ok qkr) (zA (qd.ok qbhc) (zA (qd.ok qkr) (zA (qd.ok qbj0) (zA (qd.ok qkr) (zA (qd.ok q1m) (zA (qd.ok q1n) (zA (qd.ok qba4) (zA (qd.ok qbj8) (zA q4v (zA (qd.ok qkr) (zA (qd.ok qkr) (zA rfl trivial)))))))))))))))))
theorem qbc3 : den 0 (kret [.t 0] decB) qsu (qj []) (qh []) (kend (kret [.t 0] decB)) = qjp := by
  rw [qyz]; kernel_rfl
theorem qbc4 : cFn (TIof Try.prog) Try.f13 = some ⟨177, [.t 0], scOf qsu⟩ := by kernel_rfl
def qbc5 (xs : List AV) : Option Bool := qjp
def qqf {R : Type} : List AV → (AV → Option R) → Option R := entF q77 qbc5 AV.bool
theorem q0h {R : Type} : qd Try.prog 13 (qqf (R := R)) :=
  qch tabOk follows Try.func13 (by kernel_rfl) qbc4 hdeB qbba (qbh (by kernel_rfl)) fun xs => qbc3
end
end Go.Proofs.Ytmjdngnagiloeaa.Dn
