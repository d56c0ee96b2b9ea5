import Derived.Test.YtmjdngnagiloeaaProg
import Derived.Test.YtmjdngnagiloeaaBfLibD
import Derived.Test.YtmjdngnagiloeaaBfDn46x1
set_option linter.all false
namespace Go.Proofs.Ytmjdngnagiloeaa.Dn
open Go Go.Pev
set_option linter.unusedVariables false
set_option linter.unusedSimpArgs false
set_option maxRecDepth 100000
set_option maxHeartbeats 4000000
def qdm (z : AV) : Option (AV × Bool) := cond (qhy [(.st [.b, (.i .u64), (.i .u64), (.i .i64)]), (.one .b)] z) (some ((gC (tpL z) 0), aB (gC (tpL z) 1))) none
def qbsm (r : AV × Bool) : AV := .tup [qll (.st [.b, (.i .u64), (.i .u64), (.i .i64)]) r.1, .bool r.2]
def q58  (v1 v2 : Int) (Ai : Bool) (Aj Ak Al : Int) (Au : Bool) (Av Aw Ax : Int) (K : Ex → Env → Mem → Option (AV × Bool)) := (fun z_v28 => K .norm (qh [(1, (.int .i64 v1)), (2, (.int .u64 v2)), (3, (.ptr 0 0)), (6, (.ptr 1 0)), (28, (.bool z_v28))]) (qg [(some (.box true (qb Ai Aj Ak Al))), (some (.box true (qb Au Av Aw Ax)))]))
def qbje : Shp := ⟨[(1, .one (.l (.i .i64))), (2, .one (.l (.i .u64))), (3, .one (.ptr 0 0)), (6, .one (.ptr 1 0))], [.box true (lk qf), .box true (lk qf)]⟩
noncomputable section
def qya  (v1 v2 : Int) (Ai : Bool) (Aj Ak Al : Int) (Au : Bool) (Av Aw Ax : Int) (kn : Bool → Option (AV × Bool)) : Option (AV × Bool) :=
  (oB (qg3 Ai Aj Ak Al) fun r1 => (bif ((!r1) || (decide (v1 < Al))) then (kn true) else (oB (qjv Ai Aj Ak) fun r2 => (kn (decide (v1 > r2))))))
def qqp := hull (qya)
theorem q59 : qqp = qya := qi _
def qrn : AC (AV × Bool) :=
  .seq (.reg [ao 13 (.load true 4 3),
 .call (po 14 (.call 71 [13])) 71 qhb,
 ao 15 (.un .not 14),
 ao 16 (.mv 15),
 .grp 16 false [(pg 17 16 false (.mv 1)), (pg 18 16 false (.fa 3 3)), (pg 19 16 false (.load false 1 18)), (pg 20 16 false (.bin .lss 17 19))] 21 20,
 ao 22 (.mv 21),
 ag 23 22 false (.mv 1),
 ag 24 22 false (.fa 0 3),
 ag 25 22 false (.load true 3 24),
 .call (pg 26 22 false (.call 76 [25])) 76 qml,
 ag 27 22 false (.bin .gtr 23 26),
 ao 28 (.pick 22 (.c (.bool true)) 27)]) (.view [.sel [1, 2, 3, 6, 28] [0, 1]])
theorem qbm5 : AC.ok Try.prog (TIof Try.prog) 81 0 (kret [(.cell 6 true 4), .t 7] qdm) qrn := qm (zA (qc.ok qni) (zA (qc.ok qtg) trivial))
theorem qbqh (v1 v2 : Int) (Ai : Bool) (Aj Ak Al : Int) (Au : Bool) (Av Aw Ax : Int) (K : Ex → Env → Mem → Option (AV × Bool)) : den 0 (kret [(.cell 6 true 4), .t 7] qdm) qrn (qh [(1, (.int .i64 v1)), (2, (.int .u64 v2)), (3, (.ptr 0 0)), (6, (.ptr 1 0))]) (qg [(some (.box true (qb Ai Aj Ak Al))), (some (.box true (qb Au Av Aw Ax)))]) K = qqp v1 v2 Ai Aj Ak Al Au Av Aw Ax (q58 v1 v2 Ai Aj Ak Al Au Av Aw Ax K) := by
  rw [q59]; kernel_rfl
def q71 := subE (R := AV × Bool) qbje fun t m K => qe (bxC (m.s 1)) (qe (bxC (m.s 0)) (qqp (gI [t 1] 0) (gI [t 2] 0))) (q58 (gI [t 1] 0) (gI [t 2] 0) (gB (bxC (m.s 0)) 0) (gI (bxC (m.s 0)) 1) (gI (bxC (m.s 0)) 2) (gI (bxC (m.s 0)) 3) (gB (bxC (m.s 1)) 0) (gI (bxC (m.s 1)) 1) (gI (bxC (m.s 1)) 2) (gI (bxC (m.s 1)) 3) K)
theorem qbqi : qcb Try.prog (TIof Try.prog) 81 0 (kret [(.cell 6 true 4), .t 7] qdm) (scOf qrn) (q71) :=
  qfa tabOk follows (qbm5) (qn (by kernel_rfl)) fun t m K => qbqh _ _ _ _ _ _ _ _ _ _ K
def q39  (v1 v2 : Int) (Ai : Bool) (Aj Ak Al : Int) (Au : Bool) (Av Aw Ax : Int) (K : Ex → Env → Mem → Option (AV × Bool)) := (fun z_v42 => K .norm (qh [(1, (.int .i64 v1)), (2, (.int .u64 v2)), (3, (.ptr 0 0)), (6, (.ptr 1 0)), (42, (.bool z_v42))]) (qg [(some (.box true (qb Ai Aj Ak Al))), (some (.box true (qb Au Av Aw Ax)))]))
def qbg6 : Shp := ⟨[(1, .one (.l (.i .i64))), (2, .one (.l (.i .u64))), (3, .one (.ptr 0 0)), (6, .one (.ptr 1 0)), (8, .one (.l (.i .i64)))], [.box true (lk qf), .box true (lk qf)]⟩
def qp4  (v1 v2 v8 : Int) (Ai : Bool) (Aj Ak Al : Int) (Au : Bool) (Av Aw Ax : Int) (kn : Bool → Option (AV × Bool)) : Option (AV × Bool) :=
  (bif (decide (v8 < (64 : Int))) then (bif decide ((IntKind.u64.wrap v8) < 0) then none else (kn ((v2.fdiv (2 ^ min (IntKind.u64.wrap v8).toNat IntKind.u64.bits)) != (0 : Int)))) else (kn false))
def qtm := hull (qp4)
theorem qum : qtm = qp4 := qi _
def qp5 : AC (AV × Bool) :=
  .seq (.reg [ao 34 (.mv 8),
 ao 35 (.bin .lss 34 (.c (.int .i64 64))),
 ao 36 (.mv 35),
 ag 37 36 true (.mv 2),
 ag 38 36 true (.mv 8),
 ag 39 36 true (.conv (.int .u64) 38),
 ag 40 36 true (.bin .shr 37 39),
 ag 41 36 true (.bin .neq 40 (.c (.int .u64 0))),
 ao 42 (.pick 36 41 (.c (.bool false)))]) (.view [.sel [1, 2, 3, 6, 42] [0, 1]])
theorem qbjf : AC.ok Try.prog (TIof Try.prog) 81 0 (kret [(.cell 6 true 4), .t 7] qdm) qp5 := qm trivial
theorem qbm6 (v1 v2 v8 : Int) (Ai : Bool) (Aj Ak Al : Int) (Au : Bool) (Av Aw Ax : Int) (K : Ex → Env → Mem → Option (AV × Bool)) : den 0 (kret [(.cell 6 true 4), .t 7] qdm) qp5 (qh [(1, (.int .i64 v1)), (2, (.int .u64 v2)), (3, (.ptr 0 0)), (6, (.ptr 1 0)), (8, (.int .i64 v8))]) (qg [(some (.box true (qb Ai Aj Ak Al))), (some (.box true (qb Au Av Aw Ax)))]) K = qtm v1 v2 v8 Ai Aj Ak Al Au Av Aw Ax (q39 v1 v2 Ai Aj Ak Al Au Av Aw Ax K) := by
  rw [qum]; kernel_rfl
def q6a := subE (R := AV × Bool) qbg6 fun t m K => qe (bxC (m.s 1)) (qe (bxC (m.s 0)) (qtm (gI [t 1] 0) (gI [t 2] 0) (gI [t 8] 0))) (q39 (gI [t 1] 0) (gI [t 2] 0) (gB (bxC (m.s 0)) 0) (gI (bxC (m.s 0)) 1) (gI (bxC (m.s 0)) 2) (gI (bxC (m.s 0)) 3) (gB (bxC (m.s 1)) 0) (gI (bxC (m.s 1)) 1) (gI (bxC (m.s 1)) 2) (gI (bxC (m.s 1)) 3) K)
theorem qbm7 : qcb Try.prog (TIof Try.prog) 81 0 (kret [(.cell 6 true 4), .t 7] qdm) (scOf qp5) (q6a) :=
  qfa tabOk follows (qbjf) (qn (by kernel_rfl)) fun t m K => qbm6 _ _ _ _ _ _ _ _ _ _ _ K
def q4a  (v1 : Int) (Ai : Bool) (Aj Ak Al : Int) (Au : Bool) (Av Aw Ax : Int) (K : Ex → Env → Mem → Option (AV × Bool)) := (fun z_v10 z_v11 => K .norm (qh [(1, (.int .i64 v1)), (3, (.ptr 0 0)), (6, (.ptr 1 0)), (10, (.int .u64 z_v10)), (11, (.int .u64 z_v11))]) (qg [(some (.box true (qb Ai Aj Ak Al))), (some (.box true (qb Au Av Aw Ax)))]))
def qbg7 : Shp := ⟨[(1, .one (.l (.i .i64))), (2, .one (.l (.i .u64))), (3, .one (.ptr 0 0)), (6, .one (.ptr 1 0)), (9, .one (.l (.i .u64))), (10, .one (.l (.i .u64))), (11, .one (.l (.i .u64)))], [.box true (lk qf), .box true (lk qf)]⟩
def qp6  (v1 v2 v9 v10 v11 : Int) (Ai : Bool) (Aj Ak Al : Int) (Au : Bool) (Av Aw Ax : Int) (kn : Int → Int → Option (AV × Bool)) : Option (AV × Bool) :=
  (bif (decide (v9 ≥ (64 : Int))) then (bif decide ((IntKind.u64.wrap (v9 - (64 : Int))) < 0) then none else (kn (IntKind.u64.wrap (v2 * 2 ^ min (IntKind.u64.wrap (v9 - (64 : Int))).toNat IntKind.u64.bits)) (0 : Int))) else (bif (decide (v9 > (0 : Int))) then (bif decide ((IntKind.u64.wrap ((64 : Int) - v9)) < 0) then none else (bif decide (v9 < 0) then none else (kn (v2.fdiv (2 ^ min (IntKind.u64.wrap ((64 : Int) - v9)).toNat IntKind.u64.bits)) (IntKind.u64.wrap (v2 * 2 ^ min v9.toNat IntKind.u64.bits))))) else (kn v10 v11)))
def qi0 := hull (qp6)
theorem qun : qi0 = qp6 := qi _
def qp7 : AC (AV × Bool) :=
  .seq (.reg [ao 51 (.mv 9),
 ao 52 (.bin .geq 51 (.c (.int .u64 64)))]) (.cond 52 (.seq (.reg [ao 53 (.mv 2),
 ao 54 (.mv 9),
 ao 55 (.bin .sub 54 (.c (.int .u64 64))),
 ao 56 (.bin .shl 53 55),
 ao 10 (.mv 56),
 ao 11 (.mv (.c (.int .u64 0)))]) (.view [.sel [1, 3, 6, 10, 11] [0, 1]])) (.seq (.reg [ao 57 (.mv 9),
 ao 58 (.bin .gtr 57 (.c (.int .u64 0)))]) (.cond 58 (.seq (.reg [ao 59 (.mv 2),
 ao 60 (.mv 9),
 ao 61 (.bin .sub (.c (.int .u64 64)) 60),
 ao 62 (.bin .shr 59 61),
 ao 63 (.mv 2),
 ao 64 (.mv 9),
 ao 65 (.bin .shl 63 64),
 ao 10 (.mv 62),
 ao 11 (.mv 65)]) (.view [.sel [1, 3, 6, 10, 11] [0, 1]])) (.seq (.skip) (.view [.sel [1, 3, 6, 10, 11] [0, 1]])))))
theorem qbjg : AC.ok Try.prog (TIof Try.prog) 81 0 (kret [(.cell 6 true 4), .t 7] qdm) qp7 := qm trivial
theorem qbm8 (v1 v2 v9 v10 v11 : Int) (Ai : Bool) (Aj Ak Al : Int) (Au : Bool) (Av Aw Ax : Int) (K : Ex → Env → Mem → Option (AV × Bool)) : den 0 (kret [(.cell 6 true 4), .t 7] qdm) qp7 (qh [(1, (.int .i64 v1)), (2, (.int .u64 v2)), (3, (.ptr 0 0)), (6, (.ptr 1 0)), (9, (.int .u64 v9)), (10, (.int .u64 v10)), (11, (.int .u64 v11))]) (qg [(some (.box true (qb Ai Aj Ak Al))), (some (.box true (qb Au Av Aw Ax)))]) K = qi0 v1 v2 v9 v10 v11 Ai Aj Ak Al Au Av Aw Ax (q4a v1 Ai Aj Ak Al Au Av Aw Ax K) := by
  rw [qun]; kernel_rfl
def q6b := subE (R := AV × Bool) qbg7 fun t m K => qe (bxC (m.s 1)) (qe (bxC (m.s 0)) (qi0 (gI [t 1] 0) (gI [t 2] 0) (gI [t 9] 0) (gI [t 10] 0) (gI [t 11] 0))) (q4a (gI [t 1] 0) (gB (bxC (m.s 0)) 0) (gI (bxC (m.s 0)) 1) (gI (bxC (m.s 0)) 2) (gI (bxC (m.s 0)) 3) (gB (bxC (m.s 1)) 0) (gI (bxC (m.s 1)) 1) (gI (bxC (m.s 1)) 2) (gI (bxC (m.s 1)) 3) K)
theorem qbm9 : qcb Try.prog (TIof Try.prog) 81 0 (kret [(.cell 6 true 4), .t 7] qdm) (scOf qp7) (q6b) :=
  qfa tabOk follows (qbjg) (qn (by kernel_rfl)) fun t m K => qbm8 _ _ _ _ _ _ _ _ _ _ _ _ _ K
def qbsn : Shp := ⟨[(0, .st (lk qf)), (1, .one (.l (.i .i64))), (2, .one (.l (.i .u64)))], []⟩
def qxd (Aa : Bool) (Ab Ac Ad v1 v2 : Int) : Option (AV × Bool) :=
  (qqp v1 v2 Aa Ab Ac Ad false (0 : Int) (0 : Int) (0 : Int) (fun v28q1 => (bif v28q1 then (some ((.agg [(.bool false), (.int .u64 (0 : Int)), (.int .u64 (0 : Int)), (.int .i64 (0 : Int))]), false)) else (qtm v1 v2 (IntKind.i64.wrap (v1 - Ad)) Aa Ab Ac Ad false (0 : Int) (0 : Int) (0 : Int) (fun v42q2 => (bif v42q2 then (some ((.agg [(.bool false), (.int .u64 (0 : Int)), (.int .u64 (0 : Int)), (.int .i64 (0 : Int))]), false)) else (oB (qjv Aa Ab Ac) fun r3 => (qi0 v1 v2 (IntKind.u64.wrap (IntKind.i64.wrap (r3 - v1))) (0 : Int) v2 Aa Ab Ac Ad false (0 : Int) (0 : Int) (0 : Int) (fun v10q4 v11q5 => (some ((.agg [(.bool Aa), (.int .u64 (qb5 .or .u64 Ab v10q4)), (.int .u64 (qb5 .or .u64 Ac v11q5)), (.int .i64 v1)]), true)))))))))))
def qpp := hull qxd
theorem q2y : qpp = qxd := qi _
def q5c : AC (AV × Bool) :=
  .seq (.reg [ao 3 (.box 0),
 ao 6 (.alloc [(.bool false), (.int .u64 0), (.int .u64 0), (.int .i64 0)]),
 ao 7 (.mv (.c (.bool false)))]) (.seq (.seq (.seq (.view [.sel [1, 2, 3, 6] [0, 1]]) (.sub (scOf qrn) q71)) (.cond 28 (.seq (.reg [ao 29 (.build [(.bool false), (.int .u64 0), (.int .u64 0), (.int .i64 0)] []),
 an (.store 4 6 29),
 ao 7 (.mv (.c (.bool false)))]) (.ret)) (.skip))) (.seq (.seq (.reg [ao 30 (.mv 1),
 ao 31 (.fa 3 3),
 ao 32 (.load false 1 31),
 ao 33 (.bin .sub 30 32),
 ao 8 (.mv 33)]) (.seq (.seq (.view [.sel [1, 2, 3, 6, 8] [0, 1]]) (.sub (scOf qp5) q6a)) (.cond 42 (.seq (.reg [ao 43 (.build [(.bool false), (.int .u64 0), (.int .u64 0), (.int .i64 0)] []),
 an (.store 4 6 43),
 ao 7 (.mv (.c (.bool false)))]) (.ret)) (.skip)))) (.seq (.reg [ao 44 (.fa 0 3),
 ao 45 (.load true 3 44),
 .call (po 46 (.call 76 [45])) 76 qml,
 ao 47 (.mv 1),
 ao 48 (.bin .sub 46 47),
 ao 49 (.conv (.int .u64) 48),
 ao 9 (.mv 49)]) (.seq (.reg [ao 50 (.mv 2),
 ao 10 (.mv (.c (.int .u64 0))),
 ao 11 (.mv 50)]) (.seq (.seq (.view [.sel [1, 2, 3, 6, 9, 10, 11] [0, 1]]) (.sub (scOf qp7) q6b)) (.seq (.reg [ao 66 (.fa 0 3),
 ao 67 (.load true 3 66),
 ao 12 (.alloc [(.bool false), (.int .u64 0), (.int .u64 0)]),
 an (.store 3 12 67)]) (.seq (.reg [ao 68 (.fa 1 12),
 ao 69 (.load false 1 68),
 ao 70 (.mv 10),
 ao 71 (.bin .or 69 70),
 ao 72 (.fa 1 12),
 an (.store 1 72 71)]) (.seq (.reg [ao 73 (.fa 2 12),
 ao 74 (.load false 1 73),
 ao 75 (.mv 11),
 ao 76 (.bin .or 74 75),
 ao 77 (.fa 2 12),
 an (.store 1 77 76)]) (.seq (.reg [ao 78 (.load true 3 12),
 ao 79 (.mv 1),
 ao 80 (.build [(.bool false), (.int .u64 0), (.int .u64 0), (.int .i64 0)] [(0, (3, 78)), (3, (1, 79))]),
 an (.store 4 6 80),
 ao 7 (.mv (.c (.bool true)))]) (.ret))))))))))
theorem qbvt : AC.ok Try.prog (TIof Try.prog) 81 0 (kret [(.cell 6 true 4), .t 7] qdm) q5c := qm (zA qbqi (zA qbm7 (zA (qc.ok qtg) (zA qbm9 trivial))))
theorem qbye (Aa : Bool) (Ab Ac Ad v1 v2 : Int) : den 0 (kret [(.cell 6 true 4), .t 7] qdm) q5c (qh [(0, .agg (qb Aa Ab Ac Ad)), (1, (.int .i64 v1)), (2, (.int .u64 v2))]) (qg []) (kend (kret [(.cell 6 true 4), .t 7] qdm)) = qpp Aa Ab Ac Ad v1 v2 := by
  rw [q2y]; kernel_rfl
theorem qbyf : cFn (TIof Try.prog) Try.f96 = some ⟨81, [(.cell 6 true 4), .t 7], scOf q5c⟩ := by kernel_rfl
def qbyg (xs : List AV) : Option (AV × Bool) := qe ((qk xs) 0).cells (qpp) (gI [(qk xs) 1] 0) (gI [(qk xs) 2] 0)
def q0c {R : Type} : List AV → (AV → Option R) → Option R := entF qbsn qbyg qbsm
theorem qbf7 {R : Type} : qc Try.prog 96 (q0c (R := R)) :=
  qba tabOk follows Try.func96 (by kernel_rfl) qbyf (fun z r h => by
 obtain ⟨h1, h2⟩ := qo h
 cases h2
 exact (qez h1).symm) qbvt (qn (by kernel_rfl)) fun xs => qbye _ _ _ _ _ _
def qjb (z : AV) : Option (AV × AV × Bool) := cond (qhy [(.st [.b, (.i .u64), (.i .u64), (.i .i64)]), (.st [.b, (.i .u64), (.i .u64), (.i .i64)]), (.one .b)] z) (some ((gC (tpL z) 0), (gC (tpL z) 1), aB (gC (tpL z) 2))) none
def qbna (r : AV × AV × Bool) : AV := .tup [qll (.st [.b, (.i .u64), (.i .u64), (.i .i64)]) r.1, qll (.st [.b, (.i .u64), (.i .u64), (.i .i64)]) r.2.1, .bool r.2.2]
def q10  (Ai : Bool) (Aj Ak Al : Int) (Au : Bool) (Av Aw Ax : Int) (A2 : Bool) (A3 A4 A5 : Int) (A6 : Bool) (A7 A8 A9 : Int) (K : Ex → Env → Mem → Option (AV × AV × Bool)) := (fun z_v22 => K .norm (qh [(1, (.ptr 0 0)), (2, (.ptr 1 0)), (3, (.ptr 2 0)), (5, (.ptr 3 0)), (22, (.bool z_v22))]) (qg [(some (.box true (qb Ai Aj Ak Al))), (some (.box true (qb Au Av Aw Ax))), (some (.box true (qb A2 A3 A4 A5))), (some (.box true (qb A6 A7 A8 A9)))]))
def qbeg : Shp := ⟨[(1, .one (.ptr 0 0)), (2, .one (.ptr 1 0)), (3, .one (.ptr 2 0)), (5, .one (.ptr 3 0)), (6, .one (.l .b))], [.box true (lk qf), .box true (lk qf), .box true (lk qf), .box true (lk qf)]⟩
def qup  (v6 Ai : Bool) (Aj Ak Al : Int) (Au : Bool) (Av Aw Ax : Int) (A2 : Bool) (A3 A4 A5 : Int) (A6 : Bool) (A7 A8 A9 : Int) (kn : Bool → Option (AV × AV × Bool)) : Option (AV × AV × Bool) :=
  (bif (!v6) then (kn true) else (oB (qg3 Ai Aj Ak Al) fun r1 => (kn (!r1))))
def qro := hull (qup)
theorem q11 : qro = qup := qi _
def qo1 : AC (AV × AV × Bool) :=
  .seq (.reg [ao 16 (.mv 6),
 ao 17 (.un .not 16),
 ao 18 (.mv 17),
 ag 19 18 false (.load true 4 1),
 .call (pg 20 18 false (.call 71 [19])) 71 qhb,
 ag 21 18 false (.un .not 20),
 ao 22 (.pick 18 (.c (.bool true)) 21)]) (.view [.sel [1, 2, 3, 5, 22] [0, 1, 2, 3]])
theorem qbg8 : AC.ok Try.prog (TIof Try.prog) 36 0 (kret [(.cell 2 true 4), (.cell 3 true 4), .t 4] qjb) qo1 := qm (zA (qc.ok qni) trivial)
theorem qbjh (v6 Ai : Bool) (Aj Ak Al : Int) (Au : Bool) (Av Aw Ax : Int) (A2 : Bool) (A3 A4 A5 : Int) (A6 : Bool) (A7 A8 A9 : Int) (K : Ex → Env → Mem → Option (AV × AV × Bool)) : den 0 (kret [(.cell 2 true 4), (.cell 3 true 4), .t 4] qjb) qo1 (qh [(1, (.ptr 0 0)), (2, (.ptr 1 0)), (3, (.ptr 2 0)), (5, (.ptr 3 0)), (6, (.bool v6))]) (qg [(some (.box true (qb Ai Aj Ak Al))), (some (.box true (qb Au Av Aw Ax))), (some (.box true (qb A2 A3 A4 A5))), (some (.box true (qb A6 A7 A8 A9)))]) K = qro v6 Ai Aj Ak Al Au Av Aw Ax A2 A3 A4 A5 A6 A7 A8 A9 (q10 Ai Aj Ak Al Au Av Aw Ax A2 A3 A4 A5 A6 A7 A8 A9 K) := by
  rw [q11]; kernel_rfl
def q4b := subE (R := AV × AV × Bool) qbeg fun t m K => qe (bxC (m.s 3)) (qe (bxC (m.s 2)) (qe (bxC (m.s 1)) (qe (bxC (m.s 0)) (qro (gB [t 6] 0))))) (q10 (gB (bxC (m.s 0)) 0) (gI (bxC (m.s 0)) 1) (gI (bxC (m.s 0)) 2) (gI (bxC (m.s 0)) 3) (gB (bxC (m.s 1)) 0) (gI (bxC (m.s 1)) 1) (gI (bxC (m.s 1)) 2) (gI (bxC (m.s 1)) 3) (gB (bxC (m.s 2)) 0) (gI (bxC (m.s 2)) 1) (gI (bxC (m.s 2)) 2) (gI (bxC (m.s 2)) 3) (gB (bxC (m.s 3)) 0) (gI (bxC (m.s 3)) 1) (gI (bxC (m.s 3)) 2) (gI (bxC (m.s 3)) 3) K)
theorem qbji : qcb Try.prog (TIof Try.prog) 36 0 (kret [(.cell 2 true 4), (.cell 3 true 4), .t 4] qjb) (scOf qo1) (q4b) :=
  qfa tabOk follows (qbg8) (qn (by kernel_rfl)) fun t m K => qbjh _ _ _ _ _ _ _ _ _ _ _ _ _ _ _ _ _ K
def qbnb : Shp := ⟨[(0, .st (lk qf))], []⟩
def q0d (Aa : Bool) (Ab Ac Ad : Int) : Option (AV × AV × Bool) :=
  (oB (qpp Aa Ab Ac Ad (IntKind.i64.wrap (Ad + (1 : Int))) (0 : Int)) fun r1 => (qro r1.2 Aa Ab Ac Ad false (0 : Int) (0 : Int) (0 : Int) false (0 : Int) (0 : Int) (0 : Int) (gB r1.1.cells 0) (gI r1.1.cells 1) (gI r1.1.cells 2) (gI r1.1.cells 3) (fun v22q2 => (bif v22q2 then (some ((.agg [(.bool false), (.int .u64 (0 : Int)), (.int .u64 (0 : Int)), (.int .i64 (0 : Int))]), (.agg [(.bool false), (.int .u64 (0 : Int)), (.int .u64 (0 : Int)), (.int .i64 (0 : Int))]), false)) else (oB (qpp Aa Ab Ac Ad (IntKind.i64.wrap (Ad + (1 : Int))) (1 : Int)) fun r3 => (some ((.agg [(.bool (gB r1.1.cells 0)), (.int .u64 (gI r1.1.cells 1)), (.int .u64 (gI r1.1.cells 2)), (.int .i64 (gI r1.1.cells 3))]), (.agg [(.bool (gB r3.1.cells 0)), (.int .u64 (gI r3.1.cells 1)), (.int .u64 (gI r3.1.cells 2)), (.int .i64 (gI r3.1.cells 3))]), r3.2)))))))
def qmh := hull q0d
theorem q72 : qmh = q0d := qi _
def q0e : AC (AV × AV × Bool) :=
  .seq (.reg [ao 1 (.box 0),
 ao 2 (.alloc [(.bool false), (.int .u64 0), (.int .u64 0), (.int .i64 0)]),
 ao 3 (.alloc [(.bool false), (.int .u64 0), (.int .u64 0), (.int .i64 0)]),
 ao 4 (.mv (.c (.bool false)))]) (.seq (.reg [ao 9 (.load true 4 1),
 ao 10 (.fa 3 1),
 ao 11 (.load false 1 10),
 ao 12 (.bin .add 11 (.c (.int .i64 1))),
 .call (po 13 (.call 96 [9, 12, (.c (.int .u64 0))])) 96 q0c,
 ao 8 (.mv 13),
 ao 14 (.ext 8 0),
 ao 15 (.ext 8 1),
 ao 5 (.alloc [(.bool false), (.int .u64 0), (.int .u64 0), (.int .i64 0)]),
 an (.store 4 5 14),
 ao 6 (.mv 15)]) (.seq (.seq (.seq (.view [.sel [1, 2, 3, 5, 6] [0, 1, 2, 3]]) (.sub (scOf qo1) q4b)) (.cond 22 (.seq (.reg [ao 23 (.build [(.bool false), (.int .u64 0), (.int .u64 0), (.int .i64 0)] []),
 ao 24 (.build [(.bool false), (.int .u64 0), (.int .u64 0), (.int .i64 0)] []),
 an (.store 4 2 23),
 an (.store 4 3 24),
 ao 4 (.mv (.c (.bool false)))]) (.ret)) (.skip))) (.seq (.reg [ao 26 (.load true 4 1),
 ao 27 (.fa 3 1),
 ao 28 (.load false 1 27),
 ao 29 (.bin .add 28 (.c (.int .i64 1))),
 .call (po 30 (.call 96 [26, 29, (.c (.int .u64 1))])) 96 q0c,
 ao 25 (.mv 30),
 ao 31 (.ext 25 0),
 ao 32 (.ext 25 1),
 ao 7 (.alloc [(.bool false), (.int .u64 0), (.int .u64 0), (.int .i64 0)]),
 an (.store 4 7 31),
 ao 6 (.mv 32)]) (.seq (.draw [] [ao 33 (.load true 4 5),
 ao 34 (.load true 4 7),
 ao 35 (.mv 6),
 an (.held [6] [((.c (.bool true)), 7), (2, 7), (3, 7)])] [an (.store 4 2 33),
 an (.store 4 3 34),
 ao 4 (.mv 35)]) (.ret)))))
theorem qbqj : AC.ok Try.prog (TIof Try.prog) 36 0 (kret [(.cell 2 true 4), (.cell 3 true 4), .t 4] qjb) q0e := qm (zA (qc.ok qbf7) (zA qbji (zA (qc.ok qbf7) (zA rfl trivial))))
theorem qbso (Aa : Bool) (Ab Ac Ad : Int) : den 0 (kret [(.cell 2 true 4), (.cell 3 true 4), .t 4] qjb) q0e (qh [(0, .agg (qb Aa Ab Ac Ad))]) (qg []) (kend (kret [(.cell 2 true 4), (.cell 3 true 4), .t 4] qjb)) = qmh Aa Ab Ac Ad := by
  rw [q72]; kernel_rfl
theorem qbsp : cFn (TIof Try.prog) Try.f59 = some ⟨36, [(.cell 2 true 4), (.cell 3 true 4), .t 4], scOf q0e⟩ := by kernel_rfl
def qbsq (xs : List AV) : Option (AV × AV × Bool) := qe ((qk xs) 0).cells (qmh)
def qp8 {R : Type} : List AV → (AV → Option R) → Option R := entF qbnb qbsq qbna
theorem q0f {R : Type} : qc Try.prog 59 (qp8 (R := R)) :=
  qba tabOk follows Try.func59 (by kernel_rfl) qbsp (fun z r h => by
 obtain ⟨h1, h2⟩ := qo h
 cases h2
 exact (qez h1).symm) qbqj (qn (by kernel_rfl)) fun xs => qbso _ _ _ _
def qyb (z : AV) : Option ((List AV) × Int) := cond (qhy [(.one (.sl 8)), (.one (.i .i64))] z) (some (aL (gC (tpL z) 0), aI (gC (tpL z) 1))) none
def qbqk (r : (List AV) × Int) : AV := .tup [.sl 8 r.1, .int .i64 r.2]
def qbql : Shp := ⟨[(0, .one (.l (.sl 8))), (1, .st (lk qf))], []⟩
def q2z (v0 : List AV) (Aq : Bool) (Ar As At : Int) : Option ((List AV) × Int) :=
  (oB (qf1 v0 Aq Ar As At) fun r1 => (bif (decide (r1 < (0 : Int))) then (some (([] : List AV), (11 : Int))) else (oB (qmh Aq Ar As At) fun r2 => (bif (!r2.2.2) then (some (([] : List AV), (21 : Int))) else (oB (qix v0 Aq Ar As At) fun r3 => (bif r3 then (some (([] : List AV), (25 : Int))) else (oB (ixB v0 r1) fun y4 => (bif fitC qa y4.cells then (bif (decide (((gS y4.cells 5).length : Int) > (61 : Int))) then (some (([] : List AV), (1 : Int))) else (bif (decide ((v0.length : Int) ≥ (512 : Int))) then (some (([] : List AV), (9 : Int))) else (bif decide ((gS y4.cells 5).length + ([45, 48] : List UInt8).length ≤ 9223372036854775807) then (bif decide ((gS y4.cells 5).length + ([45, 49] : List UInt8).length ≤ 9223372036854775807) then (oB (qgj v0 r1) fun r5 => (oB (qg9 r5 (gB r2.1.cells 0) (gI r2.1.cells 1) (gI r2.1.cells 2) (gI r2.1.cells 3) (gI y4.cells 4) ((gS y4.cells 5) ++ ([45, 48] : List UInt8)) (gS y4.cells 6) (gI y4.cells 7)) fun r6 => (oB (qg9 r6 (gB r2.2.1.cells 0) (gI r2.2.1.cells 1) (gI r2.2.1.cells 2) (gI r2.2.1.cells 3) (gI y4.cells 4) ((gS y4.cells 5) ++ ([45, 49] : List UInt8)) (gS y4.cells 6) (gI y4.cells 7)) fun r7 => (some (r7, (0 : Int)))))) else none) else none))) else none))))))))
def qqq := hull q2z
theorem q91 : qqq = q2z := qi _
def q20 : AC ((List AV) × Int) :=
  .seq (.reg [ao 3 (.box 1),
 ao 4 (.mv (.c .nils)),
 ao 5 (.mv (.c (.int .i64 0)))]) (.seq (.reg [ao 12 (.mv 0),
 ao 13 (.load true 4 3),
 .call (po 14 (.call 51 [12, 13])) 51 qf2,
 ao 6 (.mv 14)]) (.seq (.seq (.reg [ao 15 (.mv 6),
 ao 16 (.bin .lss 15 (.c (.int .i64 0)))]) (.cond 16 (.seq (.reg [ao 4 (.mv (.c .nils)),
 ao 5 (.mv (.c (.int .i64 11)))]) (.seq (.view [.eta 4 (.one (.sl 8))]) (.ret))) (.skip))) (.seq (.reg [ao 18 (.load true 4 3),
 .call (po 19 (.call 59 [18])) 59 qp8,
 ao 17 (.mv 19),
 ao 20 (.ext 17 0),
 ao 21 (.ext 17 1),
 ao 22 (.ext 17 2),
 ao 7 (.alloc [(.bool false), (.int .u64 0), (.int .u64 0), (.int .i64 0)]),
 ao 8 (.alloc [(.bool false), (.int .u64 0), (.int .u64 0), (.int .i64 0)]),
 an (.store 4 7 20),
 an (.store 4 8 21),
 ao 9 (.mv 22)]) (.seq (.seq (.reg [ao 23 (.mv 9),
 ao 24 (.un .not 23)]) (.cond 24 (.seq (.reg [ao 4 (.mv (.c .nils)),
 ao 5 (.mv (.c (.int .i64 21)))]) (.seq (.view [.eta 4 (.one (.sl 8))]) (.ret))) (.skip))) (.seq (.seq (.reg [ao 25 (.mv 0),
 ao 26 (.load true 4 3),
 .call (po 27 (.call 52 [25, 26])) 52 qob]) (.cond 27 (.seq (.reg [ao 4 (.mv (.c .nils)),
 ao 5 (.mv (.c (.int .i64 25)))]) (.seq (.view [.eta 4 (.one (.sl 8))]) (.ret))) (.skip))) (.seq (.reg [ao 28 (.mv 0),
 ao 29 (.mv 6),
 ao 30 (.ia 8 28 29),
 .st (.etac 30 qa),
 ao 31 (.load true 8 30),
 ao 10 (.alloc [(.bool false), (.int .u64 0), (.int .u64 0), (.int .i64 0), (.int .i64 0), (.str []), (.str []), (.int .i64 0)]),
 an (.store 8 10 31)]) (.seq (.seq (.reg [ao 32 (.fa 5 10),
 ao 33 (.load false 1 32),
 ao 34 (.len true 33),
 ao 35 (.bin .gtr 34 (.c (.int .i64 61)))]) (.cond 35 (.seq (.reg [ao 4 (.mv (.c .nils)),
 ao 5 (.mv (.c (.int .i64 1)))]) (.seq (.view [.eta 4 (.one (.sl 8))]) (.ret))) (.skip))) (.seq (.seq (.reg [ao 36 (.mv 0),
 ao 37 (.len false 36),
 ao 38 (.bin .geq 37 (.c (.int .i64 512)))]) (.cond 38 (.seq (.reg [ao 4 (.mv (.c .nils)),
 ao 5 (.mv (.c (.int .i64 9)))]) (.seq (.view [.eta 4 (.one (.sl 8))]) (.ret))) (.skip))) (.seq (.reg [ao 39 (.load true 8 10),
 ao 11 (.alloc [(.bool false), (.int .u64 0), (.int .u64 0), (.int .i64 0), (.int .i64 0), (.str []), (.str []), (.int .i64 0)]),
 an (.store 8 11 39)]) (.seq (.reg [ao 40 (.load true 4 7),
 ao 41 (.fa 5 10),
 ao 42 (.load false 1 41),
 ao 43 (.bin .add 42 (.c (.str [45, 48]))),
 ao 44 (.fa 0 10),
 an (.store 4 44 40),
 ao 45 (.fa 5 10),
 an (.store 1 45 43)]) (.seq (.reg [ao 46 (.load true 4 8),
 ao 47 (.fa 5 11),
 ao 48 (.load false 1 47),
 ao 49 (.bin .add 48 (.c (.str [45, 49]))),
 ao 50 (.fa 0 11),
 an (.store 4 50 46),
 ao 51 (.fa 5 11),
 an (.store 1 51 49)]) (.seq (.draw [] [ao 52 (.mv 0),
 ao 53 (.mv 6),
 .call (po 54 (.call 56 [52, 53])) 56 qlv,
 ao 55 (.load true 8 10),
 .call (po 56 (.call 53 [54, 55])) 53 qmo,
 ao 57 (.load true 8 11)] [.callc (po 58 (.call 53 [56, 57])) 53 qmo,
 ao 4 (.mv 58),
 ao 5 (.mv (.c (.int .i64 0)))]) (.ret)))))))))))))
theorem qbsr : AC.ok Try.prog (TIof Try.prog) 59 0 (kret [.t 4, .t 5] qyb) q20 := qm (zA (qc.ok qkx) (zA (qc.ok q0f) (zA (qc.ok qvz) (zA (qc.ok qrk) (zA (qc.ok qtl) (zA (qc.ok qtl) (zA rfl trivial)))))))
theorem qbvu (v0 : List AV) (Aq : Bool) (Ar As At : Int) : den 0 (kret [.t 4, .t 5] qyb) q20 (qh [(0, (.sl 8 v0)), (1, .agg (qb Aq Ar As At))]) (qg []) (kend (kret [.t 4, .t 5] qyb)) = qqq v0 Aq Ar As At := by
  rw [q91]; kernel_rfl
theorem qbvv : cFn (TIof Try.prog) Try.f20 = some ⟨59, [.t 4, .t 5], scOf q20⟩ := by kernel_rfl
def qbvw (xs : List AV) : Option ((List AV) × Int) := qe ((qk xs) 1).cells (qqq (gL [(qk xs) 0] 0))
def q73 {R : Type} : List AV → (AV → Option R) → Option R := entF qbql qbvw qbqk
theorem qbvx {R : Type} : qc Try.prog 20 (q73 (R := R)) :=
  qba tabOk follows Try.func20 (by kernel_rfl) qbvv (fun z r h => by
 obtain ⟨h1, h2⟩ := qo h
 cases h2
 exact (qez h1).symm) qbsr (qn (by kernel_rfl)) fun xs => qbvu _ _ _ _ _
def q0g (z : AV) : Option (AV × Bool) := cond (qhy [(.st [.b, (.i .u64), (.i .u64), (.i .i64), (.i .i64), .s, .s, (.i .i64)]), (.one .b)] z) (some ((gC (tpL z) 0), aB (gC (tpL z) 1))) none
def qbss (r : AV × Bool) : AV := .tup [qll (.st [.b, (.i .u64), (.i .u64), (.i .i64), (.i .i64), .s, .s, (.i .i64)]) r.1, .bool r.2]
def qbst : Shp := ⟨[(0, .one (.l (.sl 8))), (1, .st (lk qf))], []⟩
def q5d (v0 : List AV) (Aq : Bool) (Ar As At : Int) : Option (AV × Bool) :=
  (oB (qf1 v0 Aq Ar As At) fun r1 => (bif (decide (r1 ≥ (0 : Int))) then (oB (ixB v0 r1) fun y2 => (bif fitC qa y2.cells then (some ((.agg [(.bool (gB y2.cells 0)), (.int .u64 (gI y2.cells 1)), (.int .u64 (gI y2.cells 2)), (.int .i64 (gI y2.cells 3)), (.int .i64 (gI y2.cells 4)), (.str (gS y2.cells 5)), (.str (gS y2.cells 6)), (.int .i64 (gI y2.cells 7))]), true)) else none)) else (some ((.agg [(.bool false), (.int .u64 (0 : Int)), (.int .u64 (0 : Int)), (.int .i64 (0 : Int)), (.int .i64 (0 : Int)), (.str ([] : List UInt8)), (.str ([] : List UInt8)), (.int .i64 (0 : Int))]), false))))
def qnf := hull q5d
theorem qbb9 : qnf = q5d := qi _
def q5e : AC (AV × Bool) :=
  .seq (.reg [ao 3 (.box 1),
 ao 4 (.alloc [(.bool false), (.int .u64 0), (.int .u64 0), (.int .i64 0), (.int .i64 0), (.str []), (.str []), (.int .i64 0)]),
 ao 5 (.mv (.c (.bool false)))]) (.seq (.seq (.reg [ao 7 (.mv 0),
 ao 8 (.load true 4 3),
 .call (po 9 (.call 51 [7, 8])) 51 qf2,
 ao 6 (.mv 9)]) (.seq (.reg [ao 10 (.mv 6),
 ao 11 (.bin .geq 10 (.c (.int .i64 0)))]) (.cond 11 (.seq (.reg [ao 12 (.mv 0),
 ao 13 (.mv 6),
 ao 14 (.ia 8 12 13),
 .st (.etac 14 qa),
 ao 15 (.load true 8 14),
 an (.store 8 4 15),
 ao 5 (.mv (.c (.bool true)))]) (.ret)) (.skip)))) (.seq (.reg [ao 16 (.build [(.bool false), (.int .u64 0), (.int .u64 0), (.int .i64 0), (.int .i64 0), (.str []), (.str []), (.int .i64 0)] []),
 an (.store 8 4 16),
 ao 5 (.mv (.c (.bool false)))]) (.ret)))
theorem qbvy : AC.ok Try.prog (TIof Try.prog) 17 0 (kret [(.cell 4 true 8), .t 5] q0g) q5e := qm (zA (qc.ok qkx) trivial)
theorem qbyh (v0 : List AV) (Aq : Bool) (Ar As At : Int) : den 0 (kret [(.cell 4 true 8), .t 5] q0g) q5e (qh [(0, (.sl 8 v0)), (1, .agg (qb Aq Ar As At))]) (qg []) (kend (kret [(.cell 4 true 8), .t 5] q0g)) = qnf v0 Aq Ar As At := by
  rw [qbb9]; kernel_rfl
theorem qbyi : cFn (TIof Try.prog) Try.f24 = some ⟨17, [(.cell 4 true 8), .t 5], scOf q5e⟩ := by kernel_rfl
def qbyj (xs : List AV) : Option (AV × Bool) := qe ((qk xs) 1).cells (qnf (gL [(qk xs) 0] 0))
def qo2 {R : Type} : List AV → (AV → Option R) → Option R := entF qbst qbyj qbss
theorem qxe {R : Type} : qc Try.prog 24 (qo2 (R := R)) :=
  qba tabOk follows Try.func24 (by kernel_rfl) qbyi (fun z r h => by
 obtain ⟨h1, h2⟩ := qo h
 cases h2
 exact (qez h1).symm) qbvy (qn (by kernel_rfl)) fun xs => qbyh _ _ _ _ _
def q6p : Shp := ⟨[(0, .one (.l .s)), (1, .one (.l .s))], []⟩
def qoi (v0 v1 : List UInt8) : Option Bool :=
  (bif (decide ((v0.length : Int) ≥ (v1.length : Int))) then (oB (cutI v0 (some (IntKind.i64.wrap ((v0.length : Int) - (v1.length : Int)))) none) fun s1 => (some (s1 == v1))) else (some false))
def ql4 := hull qoi
theorem quq : ql4 = qoi := qi _
def qoj : AC Bool :=
  .seq (.reg [ao 4 (.mv (.c (.bool false)))]) (.seq (.reg [ao 5 (.mv 0),
 ao 6 (.len true 5),
 ao 7 (.mv 1),
 ao 8 (.len true 7),
 ao 9 (.bin .geq 6 8),
 ao 10 (.mv 9),
 ag 11 10 true (.mv 0),
 ag 12 10 true (.mv 0),
 ag 13 10 true (.len true 12),
 ag 14 10 true (.mv 1),
 ag 15 10 true (.len true 14),
 ag 16 10 true (.bin .sub 13 15),
 ag 17 10 true (.slcs 11 (some 16) none),
 ag 18 10 true (.mv 1),
 ag 19 10 true (.bin .eql 17 18),
 ao 20 (.pick 10 19 (.c (.bool false))),
 ao 4 (.mv 20)]) (.ret))
theorem q74 : AC.ok Try.prog (TIof Try.prog) 21 0 (kret [.t 4] decB) qoj := qm trivial
theorem q9b (v0 v1 : List UInt8) : den 0 (kret [.t 4] decB) qoj (qh [(0, (.str v0)), (1, (.str v1))]) (qg []) (kend (kret [.t 4] decB)) = ql4 v0 v1 := by
  rw [quq]; kernel_rfl
theorem q9c : cFn (TIof Try.prog) Try.f104 = some ⟨21, [.t 4], scOf qoj⟩ := by kernel_rfl
def q9d (xs : List AV) : Option Bool := ql4 (gS [(qk xs) 0] 0) (gS [(qk xs) 1] 0)
def qtn {R : Type} : List AV → (AV → Option R) → Option R := entF q6p q9d AV.bool
theorem q9e {R : Type} : qc Try.prog 104 (qtn (R := R)) :=
  qba tabOk follows Try.func104 (by kernel_rfl) q9c hdeB q74 (qn (by kernel_rfl)) fun xs => q9b _ _
def q5f : Shp := ⟨[(0, .one (.l .s)), (1, .one (.l .s))], []⟩
def qny (v0 v1 : List UInt8) : Option (List UInt8) :=
  (oB (ql4 v0 v1) fun r1 => (bif r1 then (oB (cutI v0 none (some (IntKind.i64.wrap ((v0.length : Int) - (v1.length : Int))))) fun s2 => (some s2)) else (some v0)))
def qlg := hull qny
theorem qto : qlg = qny := qi _
def qnz : AC (List UInt8) :=
  .seq (.reg [ao 4 (.mv (.c (.str [])))]) (.seq (.seq (.reg [ao 5 (.mv 0),
 ao 6 (.mv 1),
 .call (po 7 (.call 104 [5, 6])) 104 qtn]) (.cond 7 (.seq (.reg [ao 8 (.mv 0),
 ao 9 (.mv 0),
 ao 10 (.len true 9),
 ao 11 (.mv 1),
 ao 12 (.len true 11),
 ao 13 (.bin .sub 10 12),
 ao 14 (.slcs 8 none (some 13)),
 ao 4 (.mv 14)]) (.ret)) (.skip))) (.seq (.reg [ao 15 (.mv 0),
 ao 4 (.mv 15)]) (.ret)))
theorem q6q : AC.ok Try.prog (TIof Try.prog) 16 0 (kret [.t 4] decS) qnz := qm (zA (qc.ok q9e) trivial)
theorem q75 (v0 v1 : List UInt8) : den 0 (kret [.t 4] decS) qnz (qh [(0, (.str v0)), (1, (.str v1))]) (qg []) (kend (kret [.t 4] decS)) = qlg v0 v1 := by
  rw [qto]; kernel_rfl
theorem q76 : cFn (TIof Try.prog) Try.f98 = some ⟨16, [.t 4], scOf qnz⟩ := by kernel_rfl
def q77 (xs : List AV) : Option (List UInt8) := qlg (gS [(qk xs) 0] 0) (gS [(qk xs) 1] 0)
def qsb {R : Type} : List AV → (AV → Option R) → Option R := entF q5f q77 AV.str
theorem q78 {R : Type} : qc Try.prog 98 (qsb (R := R)) :=
  qba tabOk follows Try.func98 (by kernel_rfl) q76 hdeS q6q (qn (by kernel_rfl)) fun xs => q75 _ _
def qba2 : Shp := ⟨[(0, .one (.l .s)), (1, .one (.l .s))], []⟩
def qrp (v0 v1 : List UInt8) : Option (List UInt8) :=
  (oB (qlg v0 v1) fun r1 => (some r1))
def qlw := hull qrp
theorem qyu : qlw = qrp := qi _
def qrq : AC (List UInt8) :=
  .seq (.reg [ao 4 (.mv (.c (.str [])))]) (.seq (.reg [ao 5 (.mv 0),
 ao 6 (.mv 1),
 .call (po 7 (.call 98 [5, 6])) 98 qsb,
 ao 4 (.mv 7)]) (.ret))
theorem qbca : AC.ok Try.prog (TIof Try.prog) 8 0 (kret [.t 4] decS) qrq := qm (zA (qc.ok q78) trivial)
theorem qbeh (v0 v1 : List UInt8) : den 0 (kret [.t 4] decS) qrq (qh [(0, (.str v0)), (1, (.str v1))]) (qg []) (kend (kret [.t 4] decS)) = qlw v0 v1 := by
  rw [qyu]; kernel_rfl
theorem qbei : cFn (TIof Try.prog) Try.f61 = some ⟨8, [.t 4], scOf qrq⟩ := by kernel_rfl
def qbej (xs : List AV) : Option (List UInt8) := qlw (gS [(qk xs) 0] 0) (gS [(qk xs) 1] 0)
def qwr {R : Type} : List AV → (AV → Option R) → Option R := entF qba2 qbej AV.str
theorem qbek {R : Type} : qc Try.prog 61 (qwr (R := R)) :=
  qba tabOk follows Try.func61 (by kernel_rfl) qbei hdeS qbca (qn (by kernel_rfl)) fun xs => qbeh _ _
def ql5 (z : AV) : Option ((List AV) × Int) := cond (qhy [(.one (.sl 8)), (.one (.i .i64))] z) (some (aL (gC (tpL z) 0), aI (gC (tpL z) 1))) none
def qbsu (r : (List AV) × Int) : AV := .tup [.sl 8 r.1, .int .i64 r.2]
def q4c  (v0 : List AV) (Ai : Bool) (Aj Ak Al : Int) (Au : Bool) (Av Aw Ax : Int) (A2 : Bool) (A3 A4 A5 : Int) (A6 : Bool) (A7 A8 A9 Ba : Int) (Bb : List UInt8) (Bc : Int) (K : Ex → Env → Mem → Option ((List AV) × Int)) := (fun z_b3_5 => K .norm (qh [(0, (.sl 8 v0)), (3, (.ptr 0 0)), (6, (.ptr 1 0)), (7, (.ptr 2 0)), (9, (.ptr 3 0))]) (qg [(some (.box true (qb Ai Aj Ak Al))), (some (.box true (qb Au Av Aw Ax))), (some (.box true (qb A2 A3 A4 A5))), (some (.box true (qd A6 A7 A8 A9 Ba z_b3_5 Bb Bc)))]))
def qbg9 : Shp := ⟨[(0, .one (.l (.sl 8))), (3, .one (.ptr 0 0)), (6, .one (.ptr 1 0)), (7, .one (.ptr 2 0)), (9, .one (.ptr 3 0))], [.box true (lk qf), .box true (lk qf), .box true (lk qf), .box true (lk qa)]⟩
def qv2  (v0 : List AV) (Ai : Bool) (Aj Ak Al : Int) (Au : Bool) (Av Aw Ax : Int) (A2 : Bool) (A3 A4 A5 : Int) (A6 : Bool) (A7 A8 A9 Ba : Int) (Bd Bb : List UInt8) (Bc : Int) (kn : (List UInt8) → Option ((List AV) × Int)) : Option ((List AV) × Int) :=
  (oB (qlw Bd ([45, 48] : List UInt8)) fun r1 => (bif (!(r1 == ([] : List UInt8))) then (kn r1) else (kn Bd)))
def qo3 := hull (qv2)
theorem q4d : qo3 = qv2 := qi _
def qp9 : AC ((List AV) × Int) :=
  .seq (.reg [ao 69 (.fa 5 9),
 ao 70 (.load false 1 69),
 .call (po 71 (.call 61 [70, (.c (.str [45, 48]))])) 61 qwr,
 ao 13 (.mv 71)]) (.seq (.reg [ao 72 (.mv 13),
 ao 73 (.bin .neq 72 (.c (.str [])))]) (.cond 73 (.seq (.reg [ao 74 (.mv 13),
 ao 75 (.fa 5 9),
 an (.store 1 75 74)]) (.view [.sel [0, 3, 6, 7, 9] [0, 1, 2, 3]])) (.seq (.skip) (.view [.sel [0, 3, 6, 7, 9] [0, 1, 2, 3]]))))
theorem qbjj : AC.ok Try.prog (TIof Try.prog) 91 0 (kret [.t 4, .t 5] ql5) qp9 := qm (zA (qc.ok qbek) trivial)
theorem qbnc (v0 : List AV) (Ai : Bool) (Aj Ak Al : Int) (Au : Bool) (Av Aw Ax : Int) (A2 : Bool) (A3 A4 A5 : Int) (A6 : Bool) (A7 A8 A9 Ba : Int) (Bd Bb : List UInt8) (Bc : Int) (K : Ex → Env → Mem → Option ((List AV) × Int)) : den 0 (kret [.t 4, .t 5] ql5) qp9 (qh [(0, (.sl 8 v0)), (3, (.ptr 0 0)), (6, (.ptr 1 0)), (7, (.ptr 2 0)), (9, (.ptr 3 0))]) (qg [(some (.box true (qb Ai Aj Ak Al))), (some (.box true (qb Au Av Aw Ax))), (some (.box true (qb A2 A3 A4 A5))), (some (.box true (qd A6 A7 A8 A9 Ba Bd Bb Bc)))]) K = qo3 v0 Ai Aj Ak Al Au Av Aw Ax A2 A3 A4 A5 A6 A7 A8 A9 Ba Bd Bb Bc (q4c v0 Ai Aj Ak Al Au Av Aw Ax A2 A3 A4 A5 A6 A7 A8 A9 Ba Bb Bc K) := by
  rw [q4d]; kernel_rfl
def q6c := subE (R := (List AV) × Int) qbg9 fun t m K => qj (bxC (m.s 3)) (qe (bxC (m.s 2)) (qe (bxC (m.s 1)) (qe (bxC (m.s 0)) (qo3 (gL [t 0] 0))))) (q4c (gL [t 0] 0) (gB (bxC (m.s 0)) 0) (gI (bxC (m.s 0)) 1) (gI (bxC (m.s 0)) 2) (gI (bxC (m.s 0)) 3) (gB (bxC (m.s 1)) 0) (gI (bxC (m.s 1)) 1) (gI (bxC (m.s 1)) 2) (gI (bxC (m.s 1)) 3) (gB (bxC (m.s 2)) 0) (gI (bxC (m.s 2)) 1) (gI (bxC (m.s 2)) 2) (gI (bxC (m.s 2)) 3) (gB (bxC (m.s 3)) 0) (gI (bxC (m.s 3)) 1) (gI (bxC (m.s 3)) 2) (gI (bxC (m.s 3)) 3) (gI (bxC (m.s 3)) 4) (gS (bxC (m.s 3)) 6) (gI (bxC (m.s 3)) 7) K)
theorem qbnd : qcb Try.prog (TIof Try.prog) 91 0 (kret [.t 4, .t 5] ql5) (scOf qp9) (q6c) :=
  qfa tabOk follows (qbjj) (qn (by kernel_rfl)) fun t m K => qbnc _ _ _ _ _ _ _ _ _ _ _ _ _ _ _ _ _ _ _ _ _ K
def qbsv : Shp := ⟨[(0, .one (.l (.sl 8))), (1, .st (lk qf))], []⟩
def q5g (v0 : List AV) (Aq : Bool) (Ar As At : Int) : Option ((List AV) × Int) :=
  (oB (qmh Aq Ar As At) fun r1 => (bif (!r1.2.2) then (some (([] : List AV), (11 : Int))) else (oB (qnf v0 (gB r1.1.cells 0) (gI r1.1.cells 1) (gI r1.1.cells 2) (gI r1.1.cells 3)) fun r2 => (oB (qnf v0 (gB r1.2.1.cells 0) (gI r1.2.1.cells 1) (gI r1.2.1.cells 2) (gI r1.2.1.cells 3)) fun r3 => (bif ((!r2.2) || (!r3.2)) then (some (([] : List AV), (11 : Int))) else (oB (qf1 v0 Aq Ar As At) fun r4 => (bif (decide (r4 ≥ (0 : Int))) then (some (([] : List AV), (12 : Int))) else (bif (((((gI r2.1.cells 4) != (gI r3.1.cells 4)) || (!((gS r2.1.cells 6) == (gS r3.1.cells 6)))) || ((gI r2.1.cells 7) != (gI r3.1.cells 7))) || ((gI r2.1.cells 4) == (3 : Int))) then (some (([] : List AV), (21 : Int))) else (qo3 v0 Aq Ar As At (gB r1.1.cells 0) (gI r1.1.cells 1) (gI r1.1.cells 2) (gI r1.1.cells 3) (gB r1.2.1.cells 0) (gI r1.2.1.cells 1) (gI r1.2.1.cells 2) (gI r1.2.1.cells 3) (gB r2.1.cells 0) (gI r2.1.cells 1) (gI r2.1.cells 2) (gI r2.1.cells 3) (gI r2.1.cells 4) (gS r2.1.cells 5) (gS r2.1.cells 6) (gI r2.1.cells 7) (fun b3_5q5 => (oB (qf1 v0 (gB r1.1.cells 0) (gI r1.1.cells 1) (gI r1.1.cells 2) (gI r1.1.cells 3)) fun r6 => (oB (qgj v0 r6) fun r7 => (oB (qf1 r7 (gB r1.2.1.cells 0) (gI r1.2.1.cells 1) (gI r1.2.1.cells 2) (gI r1.2.1.cells 3)) fun r8 => (oB (qgj r7 r8) fun r9 => (oB (qg9 r9 Aq Ar As At (gI r2.1.cells 4) b3_5q5 (gS r2.1.cells 6) (gI r2.1.cells 7)) fun r10 => (some (r10, (0 : Int))))))))))))))))))
def qsn := hull q5g
theorem qbcb : qsn = q5g := qi _
def q5h : AC ((List AV) × Int) :=
  .seq (.reg [ao 3 (.box 1),
 ao 4 (.mv (.c .nils)),
 ao 5 (.mv (.c (.int .i64 0)))]) (.seq (.reg [ao 16 (.load true 4 3),
 .call (po 17 (.call 59 [16])) 59 qp8,
 ao 15 (.mv 17),
 ao 18 (.ext 15 0),
 ao 19 (.ext 15 1),
 ao 20 (.ext 15 2),
 ao 6 (.alloc [(.bool false), (.int .u64 0), (.int .u64 0), (.int .i64 0)]),
 ao 7 (.alloc [(.bool false), (.int .u64 0), (.int .u64 0), (.int .i64 0)]),
 an (.store 4 6 18),
 an (.store 4 7 19),
 ao 8 (.mv 20)]) (.seq (.seq (.reg [ao 21 (.mv 8),
 ao 22 (.un .not 21)]) (.cond 22 (.seq (.reg [ao 4 (.mv (.c .nils)),
 ao 5 (.mv (.c (.int .i64 11)))]) (.seq (.view [.eta 4 (.one (.sl 8))]) (.ret))) (.skip))) (.seq (.reg [ao 24 (.mv 0),
 ao 25 (.load true 4 6),
 .call (po 26 (.call 24 [24, 25])) 24 qo2,
 ao 23 (.mv 26),
 ao 27 (.ext 23 0),
 ao 28 (.ext 23 1),
 ao 9 (.alloc [(.bool false), (.int .u64 0), (.int .u64 0), (.int .i64 0), (.int .i64 0), (.str []), (.str []), (.int .i64 0)]),
 an (.store 8 9 27),
 ao 10 (.mv 28)]) (.seq (.reg [ao 30 (.mv 0),
 ao 31 (.load true 4 7),
 .call (po 32 (.call 24 [30, 31])) 24 qo2,
 ao 29 (.mv 32),
 ao 33 (.ext 29 0),
 ao 34 (.ext 29 1),
 ao 11 (.alloc [(.bool false), (.int .u64 0), (.int .u64 0), (.int .i64 0), (.int .i64 0), (.str []), (.str []), (.int .i64 0)]),
 an (.store 8 11 33),
 ao 12 (.mv 34)]) (.seq (.seq (.reg [ao 35 (.mv 10),
 ao 36 (.un .not 35),
 ao 37 (.mv 36),
 .grp 37 false [(pg 38 37 false (.mv 12)), (pg 39 37 false (.un .not 38))] 40 39]) (.cond 40 (.seq (.reg [ao 4 (.mv (.c .nils)),
 ao 5 (.mv (.c (.int .i64 11)))]) (.seq (.view [.eta 4 (.one (.sl 8))]) (.ret))) (.skip))) (.seq (.seq (.reg [ao 41 (.mv 0),
 ao 42 (.load true 4 3),
 .call (po 43 (.call 51 [41, 42])) 51 qf2,
 ao 44 (.bin .geq 43 (.c (.int .i64 0)))]) (.cond 44 (.seq (.reg [ao 4 (.mv (.c .nils)),
 ao 5 (.mv (.c (.int .i64 12)))]) (.seq (.view [.eta 4 (.one (.sl 8))]) (.ret))) (.skip))) (.seq (.seq (.reg [ao 45 (.fa 4 9),
 ao 46 (.load false 1 45),
 ao 47 (.fa 4 11),
 ao 48 (.load false 1 47),
 ao 49 (.bin .neq 46 48),
 ao 50 (.mv 49),
 .grp 50 false [(pg 51 50 false (.fa 6 9)), (pg 52 50 false (.load false 1 51)), (pg 53 50 false (.fa 6 11)), (pg 54 50 false (.load false 1 53)), (pg 55 50 false (.bin .neq 52 54))] 56 55,
 ao 57 (.mv 56),
 .grp 57 false [(pg 58 57 false (.fa 7 9)), (pg 59 57 false (.load false 1 58)), (pg 60 57 false (.fa 7 11)), (pg 61 57 false (.load false 1 60)), (pg 62 57 false (.bin .neq 59 61))] 63 62,
 ao 64 (.mv 63),
 .grp 64 false [(pg 65 64 false (.fa 4 9)), (pg 66 64 false (.load false 1 65)), (pg 67 64 false (.bin .eql 66 (.c (.int .i64 3))))] 68 67]) (.cond 68 (.seq (.reg [ao 4 (.mv (.c .nils)),
 ao 5 (.mv (.c (.int .i64 21)))]) (.seq (.view [.eta 4 (.one (.sl 8))]) (.ret))) (.skip))) (.seq (.seq (.view [.sel [0, 3, 6, 7, 9] [0, 1, 2, 3]]) (.sub (scOf qp9) q6c)) (.seq (.reg [ao 76 (.load true 4 3),
 ao 77 (.fa 0 9),
 an (.store 4 77 76)]) (.seq (.reg [ao 78 (.mv 0),
 ao 79 (.mv 0),
 ao 80 (.load true 4 6),
 .call (po 81 (.call 51 [79, 80])) 51 qf2,
 .callc (po 82 (.call 56 [78, 81])) 56 qlv,
 ao 14 (.mv 82)]) (.seq (.reg [ao 83 (.mv 14),
 ao 84 (.mv 14),
 ao 85 (.load true 4 7),
 .call (po 86 (.call 51 [84, 85])) 51 qf2,
 .callc (po 87 (.call 56 [83, 86])) 56 qlv,
 ao 14 (.mv 87)]) (.seq (.reg [ao 88 (.mv 14),
 ao 89 (.load true 8 9),
 .callc (po 90 (.call 53 [88, 89])) 53 qmo,
 ao 4 (.mv 90),
 ao 5 (.mv (.c (.int .i64 0)))]) (.ret)))))))))))))
theorem qbvz : AC.ok Try.prog (TIof Try.prog) 91 0 (kret [.t 4, .t 5] ql5) q5h := qm (zA (qc.ok q0f) (zA (qc.ok qxe) (zA (qc.ok qxe) (zA (qc.ok qkx) (zA qbnd (zA (qc.ok qkx) (zA (qc.ok qrk) (zA (qc.ok qkx) (zA (qc.ok qrk) (zA (qc.ok qtl) trivial))))))))))
theorem qbyk (v0 : List AV) (Aq : Bool) (Ar As At : Int) : den 0 (kret [.t 4, .t 5] ql5) q5h (qh [(0, (.sl 8 v0)), (1, .agg (qb Aq Ar As At))]) (qg []) (kend (kret [.t 4, .t 5] ql5)) = qsn v0 Aq Ar As At := by
  rw [qbcb]; kernel_rfl
theorem qbyl : cFn (TIof Try.prog) Try.f22 = some ⟨91, [.t 4, .t 5], scOf q5h⟩ := by kernel_rfl
def qbym (xs : List AV) : Option ((List AV) × Int) := qe ((qk xs) 1).cells (qsn (gL [(qk xs) 0] 0))
def q92 {R : Type} : List AV → (AV → Option R) → Option R := entF qbsv qbym qbsu
theorem qbyn {R : Type} : qc Try.prog 22 (q92 (R := R)) :=
  qba tabOk follows Try.func22 (by kernel_rfl) qbyl (fun z r h => by
 obtain ⟨h1, h2⟩ := qo h
 cases h2
 exact (qez h1).symm) qbvz (qn (by kernel_rfl)) fun xs => qbyk _ _ _ _ _
def qbha : Shp := ⟨[(0, .st (lk qa)), (1, .one (.ptr 1 0))], [.box true (lk qa), .box true (lk qf), .box true (lk qa), .box true (lk qa), .box true (lk qa)]⟩
def q4e {R : Type} (KK : AV → Mem → Option R) := (fun v3 Ai Aj Ak Al Am An Ao Ap Au Av Aw Ax A2 A3 A4 A5 Be Bf Bg Bh A6 A7 A8 A9 Ba Bd Bb Bc Bi Bj Bl Bm Bn Bo Bp Bq => KK (.bool v3) (qg [(some (.box true [(.bool Ai), (.int .u64 Aj), (.int .u64 Ak), (.int .i64 Al), (.int .i64 Am), (.str An), (.str Ao), (.int .i64 Ap)])), (some (.box true [(.bool Au), (.int .u64 Av), (.int .u64 Aw), (.int .i64 Ax)])), (some (.box true [(.bool A2), (.int .u64 A3), (.int .u64 A4), (.int .i64 A5), (.int .i64 Be), (.str Bf), (.str Bg), (.int .i64 Bh)])), (some (.box true [(.bool A6), (.int .u64 A7), (.int .u64 A8), (.int .i64 A9), (.int .i64 Ba), (.str Bd), (.str Bb), (.int .i64 Bc)])), (some (.box true [(.bool Bi), (.int .u64 Bj), (.int .u64 Bl), (.int .i64 Bm), (.int .i64 Bn), (.str Bo), (.str Bp), (.int .i64 Bq)]))]))
def qv3 {R : Type}  (Aa : Bool) (Ab Ac Ad Ae : Int) (Af Ag : List UInt8) (Ah : Int) (Ai : Bool) (Aj Ak Al Am : Int) (An Ao : List UInt8) (Ap : Int) (Au : Bool) (Av Aw Ax : Int) (A2 : Bool) (A3 A4 A5 Be : Int) (Bf Bg : List UInt8) (Bh : Int) (A6 : Bool) (A7 A8 A9 Ba : Int) (Bd Bb : List UInt8) (Bc : Int) (Bi : Bool) (Bj Bl Bm Bn : Int) (Bo Bp : List UInt8) (Bq : Int) (kr : Bool → Bool → Int → Int → Int → Int → (List UInt8) → (List UInt8) → Int → Bool → Int → Int → Int → Bool → Int → Int → Int → Int → (List UInt8) → (List UInt8) → Int → Bool → Int → Int → Int → Int → (List UInt8) → (List UInt8) → Int → Bool → Int → Int → Int → Int → (List UInt8) → (List UInt8) → Int → Option R) : Option R :=
  (oB (qg4 Au Av Aw Ax Aa Ab Ac Ad) fun r1 => (kr r1 Ai Aj Ak Al Am An Ao Ap Au Av Aw Ax A2 A3 A4 A5 Be Bf Bg Bh A6 A7 A8 A9 Ba Bd Bb Bc Bi Bj Bl Bm Bn Bo Bp Bq))
def qtp {R : Type} := hull (qv3 (R := R))
theorem q4f {R : Type} : qtp (R := R) = qv3 := qi _
def qjc {R : Type} (KK : AV → Mem → Option R) : AC R :=
  .seq (.reg [ao 2 (.box 0),
 ao 3 (.mv (.c (.bool false)))]) (.seq (.reg [ao 4 (.load true 4 1),
 ao 5 (.fa 0 2),
 ao 6 (.load true 4 5),
 .call (po 7 (.call 64 [4, 6])) 64 qgt,
 ao 3 (.mv 7)]) (.seq (.view [.sel [3] [0, 1, 2, 3, 4]]) (.ret)))
theorem qbjk {R : Type} (KK : AV → Mem → Option R) : AC.ok Try.prog (TIof Try.prog) 8 5 (qp [.t 3] KK) (qjc KK) := qm (zA (qc.ok qme) trivial)
theorem qbne {R : Type} (KK : AV → Mem → Option R) (Aa : Bool) (Ab Ac Ad Ae : Int) (Af Ag : List UInt8) (Ah : Int) (Ai : Bool) (Aj Ak Al Am : Int) (An Ao : List UInt8) (Ap : Int) (Au : Bool) (Av Aw Ax : Int) (A2 : Bool) (A3 A4 A5 Be : Int) (Bf Bg : List UInt8) (Bh : Int) (A6 : Bool) (A7 A8 A9 Ba : Int) (Bd Bb : List UInt8) (Bc : Int) (Bi : Bool) (Bj Bl Bm Bn : Int) (Bo Bp : List UInt8) (Bq : Int) : den 5 (qp [.t 3] KK) (qjc KK) (qh [(0, .agg (qd Aa Ab Ac Ad Ae Af Ag Ah)), (1, (.ptr 1 0))]) (qg [(some (.box true (qd Ai Aj Ak Al Am An Ao Ap))), (some (.box true (qb Au Av Aw Ax))), (some (.box true (qd A2 A3 A4 A5 Be Bf Bg Bh))), (some (.box true (qd A6 A7 A8 A9 Ba Bd Bb Bc))), (some (.box true (qd Bi Bj Bl Bm Bn Bo Bp Bq)))]) (kend (qp [.t 3] KK)) = qtp Aa Ab Ac Ad Ae Af Ag Ah Ai Aj Ak Al Am An Ao Ap Au Av Aw Ax A2 A3 A4 A5 Be Bf Bg Bh A6 A7 A8 A9 Ba Bd Bb Bc Bi Bj Bl Bm Bn Bo Bp Bq (q4e KK) := by
  rw [q4f]; kernel_rfl
theorem qbnf : cFn (TIof Try.prog) Try.f63 = some ⟨8, [.t 3], scOf (qjc (R := Unit) (fun _ _ => none))⟩ := by kernel_rfl
theorem qbng {R : Type} (KK : AV → Mem → Option R) : (qjc KK).er = some (scOf (qjc (R := Unit) (fun _ _ => none))) := by kernel_rfl
def q6d {R : Type} : List AV → Mem → (AV → Mem → Option R) → Option R := refE qbha fun xs m KK => qj (bxC (m.s 4)) (qj (bxC (m.s 3)) (qj (bxC (m.s 2)) (qe (bxC (m.s 1)) (qj (bxC (m.s 0)) (qj ((qk xs) 0).cells (qtp)))))) (q4e KK)
theorem qbnh {R : Type} : qfx Try.prog 63 (q6d (R := R)) :=
  qly (ac := fun KK => qjc KK) tabOk follows Try.func63 (by kernel_rfl) qbnf (fun KK => qbjk KK) (fun KK => qbng KK) rfl fun xs m KK => qbne KK _ _ _ _ _ _ _ _ _ _ _ _ _ _ _ _ _ _ _ _ _ _ _ _ _ _ _ _ _ _ _ _ _ _ _ _ _ _ _ _ _ _ _ _
def qkk {R : Type}  (v7 : Bool) (v10 : List AV) (v11 v12 : Int) (K : Ex → Env → Mem → Option R) := (fun z_v31 z_b0_0 z_b0_1 z_b0_2 z_b0_3 z_b0_4 z_b0_5 z_b0_6 z_b0_7 z_b1_0 z_b1_1 z_b1_2 z_b1_3 z_b2_0 z_b2_1 z_b2_2 z_b2_3 z_b2_4 z_b2_5 z_b2_6 z_b2_7 z_b3_0 z_b3_1 z_b3_2 z_b3_3 z_b3_4 z_b3_5 z_b3_6 z_b3_7 z_b4_0 z_b4_1 z_b4_2 z_b4_3 z_b4_4 z_b4_5 z_b4_6 z_b4_7 => K .norm (qh [(1, (.func 63 [(.ptr 1 0)])), (4, (.ptr 2 0)), (6, (.ptr 3 0)), (7, (.bool v7)), (9, (.ptr 4 0)), (10, (.sl 8 v10)), (11, (.int .i64 v11)), (12, (.int .i64 v12)), (31, (.bool z_v31))]) (qg [(some (.box true (qd z_b0_0 z_b0_1 z_b0_2 z_b0_3 z_b0_4 z_b0_5 z_b0_6 z_b0_7))), (some (.box true (qb z_b1_0 z_b1_1 z_b1_2 z_b1_3))), (some (.box true (qd z_b2_0 z_b2_1 z_b2_2 z_b2_3 z_b2_4 z_b2_5 z_b2_6 z_b2_7))), (some (.box true (qd z_b3_0 z_b3_1 z_b3_2 z_b3_3 z_b3_4 z_b3_5 z_b3_6 z_b3_7))), (some (.box true (qd z_b4_0 z_b4_1 z_b4_2 z_b4_3 z_b4_4 z_b4_5 z_b4_6 z_b4_7)))]))
def qsc : Shp := ⟨[(1, .one (.fn 63 [(1, 0)])), (4, .one (.ptr 2 0)), (6, .one (.ptr 3 0)), (7, .one (.l .b)), (9, .one (.ptr 4 0)), (10, .one (.l (.sl 8))), (11, .one (.l (.i .i64))), (12, .one (.l (.i .i64)))], [.box true (lk qa), .box true (lk qf), .box true (lk qa), .box true (lk qa), .box true (lk qa)]⟩
def qfy {R : Type}  (v7 : Bool) (v10 : List AV) (v11 v12 : Int) (Ai : Bool) (Aj Ak Al Am : Int) (An Ao : List UInt8) (Ap : Int) (Au : Bool) (Av Aw Ax : Int) (A2 : Bool) (A3 A4 A5 Be : Int) (Bf Bg : List UInt8) (Bh : Int) (A6 : Bool) (A7 A8 A9 Ba : Int) (Bd Bb : List UInt8) (Bc : Int) (Bi : Bool) (Bj Bl Bm Bn : Int) (Bo Bp : List UInt8) (Bq : Int) (kn : Bool → Bool → Int → Int → Int → Int → (List UInt8) → (List UInt8) → Int → Bool → Int → Int → Int → Bool → Int → Int → Int → Int → (List UInt8) → (List UInt8) → Int → Bool → Int → Int → Int → Int → (List UInt8) → (List UInt8) → Int → Bool → Int → Int → Int → Int → (List UInt8) → (List UInt8) → Int → Option R) : Option R :=
  (qtp Bi Bj Bl Bm Bn Bo Bp Bq Ai Aj Ak Al Am An Ao Ap Au Av Aw Ax A2 A3 A4 A5 Be Bf Bg Bh A6 A7 A8 A9 Ba Bd Bb Bc Bi Bj Bl Bm Bn Bo Bp Bq fun v3q1 b0_0q2 b0_1q3 b0_2q4 b0_3q5 b0_4q6 b0_5q7 b0_6q8 b0_7q9 b1_0q10 b1_1q11 b1_2q12 b1_3q13 b2_0q14 b2_1q15 b2_2q16 b2_3q17 b2_4q18 b2_5q19 b2_6q20 b2_7q21 b3_0q22 b3_1q23 b3_2q24 b3_3q25 b3_4q26 b3_5q27 b3_6q28 b3_7q29 b4_0q30 b4_1q31 b4_2q32 b4_3q33 b4_4q34 b4_5q35 b4_6q36 b4_7q37 => (bif v3q1 then (bif (!v7) then (kn true b0_0q2 b0_1q3 b0_2q4 b0_3q5 b0_4q6 b0_5q7 b0_6q8 b0_7q9 b1_0q10 b1_1q11 b1_2q12 b1_3q13 b2_0q14 b2_1q15 b2_2q16 b2_3q17 b2_4q18 b2_5q19 b2_6q20 b2_7q21 b3_0q22 b3_1q23 b3_2q24 b3_3q25 b3_4q26 b3_5q27 b3_6q28 b3_7q29 b4_0q30 b4_1q31 b4_2q32 b4_3q33 b4_4q34 b4_5q35 b4_6q36 b4_7q37) else (kn (decide (b4_3q33 > b3_3q25)) b0_0q2 b0_1q3 b0_2q4 b0_3q5 b0_4q6 b0_5q7 b0_6q8 b0_7q9 b1_0q10 b1_1q11 b1_2q12 b1_3q13 b2_0q14 b2_1q15 b2_2q16 b2_3q17 b2_4q18 b2_5q19 b2_6q20 b2_7q21 b3_0q22 b3_1q23 b3_2q24 b3_3q25 b3_4q26 b3_5q27 b3_6q28 b3_7q29 b4_0q30 b4_1q31 b4_2q32 b4_3q33 b4_4q34 b4_5q35 b4_6q36 b4_7q37)) else (kn false b0_0q2 b0_1q3 b0_2q4 b0_3q5 b0_4q6 b0_5q7 b0_6q8 b0_7q9 b1_0q10 b1_1q11 b1_2q12 b1_3q13 b2_0q14 b2_1q15 b2_2q16 b2_3q17 b2_4q18 b2_5q19 b2_6q20 b2_7q21 b3_0q22 b3_1q23 b3_2q24 b3_3q25 b3_4q26 b3_5q27 b3_6q28 b3_7q29 b4_0q30 b4_1q31 b4_2q32 b4_3q33 b4_4q34 b4_5q35 b4_6q36 b4_7q37)))
def qek {R : Type} := hull (qfy (R := R))
theorem qkl {R : Type} : qek (R := R) = qfy := qi _
def qd0 {R : Type} (KK : AV → Mem → Option R) : AC R :=
  .seq (.reg [ao 16 (.mv 1),
 ao 17 (.load true 8 9),
 .st (.sel [1, 4, 6, 7, 9, 10, 11, 12, 16, 17] [0, 1, 2, 3, 4]),
 .callr (po 18 (.callv 16 [17])) 63 q6d,
 ao 19 (.mv 18),
 ag 20 19 true (.mv 7),
 ag 21 19 true (.un .not 20),
 ag 22 19 true (.mv 21),
 ag 23 22 false (.fa 0 9),
 ag 24 22 false (.fa 3 23),
 ag 25 22 false (.load false 1 24),
 ag 26 22 false (.fa 0 6),
 ag 27 22 false (.fa 3 26),
 ag 28 22 false (.load false 1 27),
 ag 29 22 false (.bin .gtr 25 28),
 ag 30 19 true (.pick 22 (.c (.bool true)) 29),
 ao 31 (.pick 19 30 (.c (.bool false)))]) (.view [.sel [1, 4, 6, 7, 9, 10, 11, 12, 31] [0, 1, 2, 3, 4]])
theorem qs0 {R : Type} (KK : AV → Mem → Option R) : AC.ok Try.prog (TIof Try.prog) 36 2 (qp [(.cell 4 true 8), .t 5] KK) (qd0 KK) := qm (zA qbnh trivial)
theorem qtu {R : Type} (KK : AV → Mem → Option R) (v7 : Bool) (v10 : List AV) (v11 v12 : Int) (Ai : Bool) (Aj Ak Al Am : Int) (An Ao : List UInt8) (Ap : Int) (Au : Bool) (Av Aw Ax : Int) (A2 : Bool) (A3 A4 A5 Be : Int) (Bf Bg : List UInt8) (Bh : Int) (A6 : Bool) (A7 A8 A9 Ba : Int) (Bd Bb : List UInt8) (Bc : Int) (Bi : Bool) (Bj Bl Bm Bn : Int) (Bo Bp : List UInt8) (Bq : Int) (K : Ex → Env → Mem → Option R) : den 2 (qp [(.cell 4 true 8), .t 5] KK) (qd0 KK) (qh [(1, (.func 63 [(.ptr 1 0)])), (4, (.ptr 2 0)), (6, (.ptr 3 0)), (7, (.bool v7)), (9, (.ptr 4 0)), (10, (.sl 8 v10)), (11, (.int .i64 v11)), (12, (.int .i64 v12))]) (qg [(some (.box true (qd Ai Aj Ak Al Am An Ao Ap))), (some (.box true (qb Au Av Aw Ax))), (some (.box true (qd A2 A3 A4 A5 Be Bf Bg Bh))), (some (.box true (qd A6 A7 A8 A9 Ba Bd Bb Bc))), (some (.box true (qd Bi Bj Bl Bm Bn Bo Bp Bq)))]) K = qek v7 v10 v11 v12 Ai Aj Ak Al Am An Ao Ap Au Av Aw Ax A2 A3 A4 A5 Be Bf Bg Bh A6 A7 A8 A9 Ba Bd Bb Bc Bi Bj Bl Bm Bn Bo Bp Bq (qkk v7 v10 v11 v12 K) := by
  rw [qkl]; kernel_rfl
def qk2 {R : Type} (KK : AV → Mem → Option R) := subE (R := R) qsc fun t m K => qj (bxC (m.s 4)) (qj (bxC (m.s 3)) (qj (bxC (m.s 2)) (qe (bxC (m.s 1)) (qj (bxC (m.s 0)) (qek (gB [t 7] 0) (gL [t 10] 0) (gI [t 11] 0) (gI [t 12] 0)))))) (qkk (gB [t 7] 0) (gL [t 10] 0) (gI [t 11] 0) (gI [t 12] 0) K)
theorem qtv {R : Type} (KK : AV → Mem → Option R) : qcb Try.prog (TIof Try.prog) 36 2 (qp [(.cell 4 true 8), .t 5] KK) (scOf (qd0 KK)) (qk2 KK) :=
  qfa tabOk follows (qs0 KK) (qn (by kernel_rfl)) fun t m K => qtu KK _ _ _ _ _ _ _ _ _ _ _ _ _ _ _ _ _ _ _ _ _ _ _ _ _ _ _ _ _ _ _ _ _ _ _ _ _ _ _ _ K
def qdn {R : Type}  (K : Ex → Env → Mem → Option R) := (fun z_v7 z_b0_0 z_b0_1 z_b0_2 z_b0_3 z_b0_4 z_b0_5 z_b0_6 z_b0_7 z_b1_0 z_b1_1 z_b1_2 z_b1_3 z_b2_0 z_b2_1 z_b2_2 z_b2_3 z_b2_4 z_b2_5 z_b2_6 z_b2_7 z_b3_0 z_b3_1 z_b3_2 z_b3_3 z_b3_4 z_b3_5 z_b3_6 z_b3_7 => K (.exit 0) (qh [(4, (.ptr 2 0)), (6, (.ptr 3 0)), (7, (.bool z_v7))]) (qg [(some (.box true (qd z_b0_0 z_b0_1 z_b0_2 z_b0_3 z_b0_4 z_b0_5 z_b0_6 z_b0_7))), (some (.box true (qb z_b1_0 z_b1_1 z_b1_2 z_b1_3))), (some (.box true (qd z_b2_0 z_b2_1 z_b2_2 z_b2_3 z_b2_4 z_b2_5 z_b2_6 z_b2_7))), (some (.box true (qd z_b3_0 z_b3_1 z_b3_2 z_b3_3 z_b3_4 z_b3_5 z_b3_6 z_b3_7)))]))
def qsd : Shp := ⟨[(1, .one (.fn 63 [(1, 0)])), (4, .one (.ptr 2 0)), (6, .one (.ptr 3 0)), (7, .one (.l .b)), (10, .one (.l (.sl 8))), (11, .one (.l (.i .i64))), (12, .one (.l (.i .i64)))], [.box true (lk qa), .box true (lk qf), .box true (lk qa), .box true (lk qa)]⟩
def qfr (v7 : Bool) (v10 : List AV) (v11 v12 : Int) (Ai : Bool) (Aj Ak Al Am : Int) (An Ao : List UInt8) (Ap : Int) (Au : Bool) (Av Aw Ax : Int) (A2 : Bool) (A3 A4 A5 Be : Int) (Bf Bg : List UInt8) (Bh : Int) (A6 : Bool) (A7 A8 A9 Ba : Int) (Bd Bb : List UInt8) (Bc : Int) : Env := qh [(1, (.func 63 [(.ptr 1 0)])), (4, (.ptr 2 0)), (6, (.ptr 3 0)), (7, (.bool v7)), (10, (.sl 8 v10)), (11, (.int .i64 v11)), (12, (.int .i64 v12))]
def qfs (v7 : Bool) (v10 : List AV) (v11 v12 : Int) (Ai : Bool) (Aj Ak Al Am : Int) (An Ao : List UInt8) (Ap : Int) (Au : Bool) (Av Aw Ax : Int) (A2 : Bool) (A3 A4 A5 Be : Int) (Bf Bg : List UInt8) (Bh : Int) (A6 : Bool) (A7 A8 A9 Ba : Int) (Bd Bb : List UInt8) (Bc : Int) : Mem := qg [(some (.box true (qd Ai Aj Ak Al Am An Ao Ap))), (some (.box true (qb Au Av Aw Ax))), (some (.box true (qd A2 A3 A4 A5 Be Bf Bg Bh))), (some (.box true (qd A6 A7 A8 A9 Ba Bd Bb Bc)))]
def qcl {R : Type}  (v7 : Bool) (v10 : List AV) (v11 v12 : Int) (Ai : Bool) (Aj Ak Al Am : Int) (An Ao : List UInt8) (Ap : Int) (Au : Bool) (Av Aw Ax : Int) (A2 : Bool) (A3 A4 A5 Be : Int) (Bf Bg : List UInt8) (Bh : Int) (A6 : Bool) (A7 A8 A9 Ba : Int) (Bd Bb : List UInt8) (Bc : Int) (next : Bool → Int → Bool → Int → Int → Int → Int → (List UInt8) → (List UInt8) → Int → Bool → Int → Int → Int → Bool → Int → Int → Int → Int → (List UInt8) → (List UInt8) → Int → Bool → Int → Int → Int → Int → (List UInt8) → (List UInt8) → Int → Option R) (kx0 : Bool → Bool → Int → Int → Int → Int → (List UInt8) → (List UInt8) → Int → Bool → Int → Int → Int → Bool → Int → Int → Int → Int → (List UInt8) → (List UInt8) → Int → Bool → Int → Int → Int → Int → (List UInt8) → (List UInt8) → Int → Option R) : Option R :=
  (bif (decide (v12 < v11)) then (oB (ixB v10 v12) fun y1 => (bif fitC qa y1.cells then (qek v7 v10 v11 v12 Ai Aj Ak Al Am An Ao Ap Au Av Aw Ax A2 A3 A4 A5 Be Bf Bg Bh A6 A7 A8 A9 Ba Bd Bb Bc (gB y1.cells 0) (gI y1.cells 1) (gI y1.cells 2) (gI y1.cells 3) (gI y1.cells 4) (gS y1.cells 5) (gS y1.cells 6) (gI y1.cells 7) (fun v31q2 b0_0q3 b0_1q4 b0_2q5 b0_3q6 b0_4q7 b0_5q8 b0_6q9 b0_7q10 b1_0q11 b1_1q12 b1_2q13 b1_3q14 b2_0q15 b2_1q16 b2_2q17 b2_3q18 b2_4q19 b2_5q20 b2_6q21 b2_7q22 b3_0q23 b3_1q24 b3_2q25 b3_3q26 b3_4q27 b3_5q28 b3_6q29 b3_7q30 b4_0q31 b4_1q32 b4_2q33 b4_3q34 b4_4q35 b4_5q36 b4_6q37 b4_7q38 => (bif v31q2 then (next true (IntKind.i64.wrap (v12 + (1 : Int))) b0_0q3 b0_1q4 b0_2q5 b0_3q6 b0_4q7 b0_5q8 b0_6q9 b0_7q10 b1_0q11 b1_1q12 b1_2q13 b1_3q14 b2_0q15 b2_1q16 b2_2q17 b2_3q18 b2_4q19 b2_5q20 b2_6q21 b2_7q22 b4_0q31 b4_1q32 b4_2q33 b4_3q34 b4_4q35 b4_5q36 b4_6q37 b4_7q38) else (next v7 (IntKind.i64.wrap (v12 + (1 : Int))) b0_0q3 b0_1q4 b0_2q5 b0_3q6 b0_4q7 b0_5q8 b0_6q9 b0_7q10 b1_0q11 b1_1q12 b1_2q13 b1_3q14 b2_0q15 b2_1q16 b2_2q17 b2_3q18 b2_4q19 b2_5q20 b2_6q21 b2_7q22 b3_0q23 b3_1q24 b3_2q25 b3_3q26 b3_4q27 b3_5q28 b3_6q29 b3_7q30)))) else none)) else (kx0 v7 Ai Aj Ak Al Am An Ao Ap Au Av Aw Ax A2 A3 A4 A5 Be Bf Bg Bh A6 A7 A8 A9 Ba Bd Bb Bc))
def qdf {R : Type}  (v10 : List AV) (v11 : Int) (kx0 : Bool → Bool → Int → Int → Int → Int → (List UInt8) → (List UInt8) → Int → Bool → Int → Int → Int → Bool → Int → Int → Int → Int → (List UInt8) → (List UInt8) → Int → Bool → Int → Int → Int → Int → (List UInt8) → (List UInt8) → Int → Option R) : Nat → Bool → Int → Bool → Int → Int → Int → Int → (List UInt8) → (List UInt8) → Int → Bool → Int → Int → Int → Bool → Int → Int → Int → Int → (List UInt8) → (List UInt8) → Int → Bool → Int → Int → Int → Int → (List UInt8) → (List UInt8) → Int → Option R
  | 0 => (fun _ _ _ _ _ _ _ _ _ _ _ _ _ _ _ _ _ _ _ _ _ _ _ _ _ _ _ _ _ _ => none)
  | n + 1 => (fun v7 v12 Ai Aj Ak Al Am An Ao Ap Au Av Aw Ax A2 A3 A4 A5 Be Bf Bg Bh A6 A7 A8 A9 Ba Bd Bb Bc => qcl v7 v10 v11 v12 Ai Aj Ak Al Am An Ao Ap Au Av Aw Ax A2 A3 A4 A5 Be Bf Bg Bh A6 A7 A8 A9 Ba Bd Bb Bc (qdf v10 v11 kx0 n) kx0)
def qel {R : Type} := hull (qdf (R := R))
theorem qkm {R : Type} : qel (R := R) = qdf := qi _
def qcm {R : Type} (KK : AV → Mem → Option R) : AC R :=
  .seq (.reg [ao 13 (.bin .lss 12 11)]) (.seq (.cond 13 (.skip) (.seq (.view [.sel [4, 6, 7] [0, 1, 2, 3]]) (.exit 0))) (.seq (.block 1 (.seq (.reg [ao 14 (.ia 8 10 12),
 .st (.etac 14 qa),
 ao 15 (.load true 8 14),
 ao 9 (.alloc [(.bool false), (.int .u64 0), (.int .u64 0), (.int .i64 0), (.int .i64 0), (.str []), (.str []), (.int .i64 0)]),
 an (.store 8 9 15)]) (.seq (.seq (.view [.sel [1, 4, 6, 7, 9, 10, 11, 12] [0, 1, 2, 3, 4]]) (.sub (scOf (qd0 KK)) (qk2 KK))) (.cond 31 (.reg [ao 32 (.load true 8 9),
 an (.store 8 6 32),
 ao 7 (.mv (.c (.bool true)))]) (.skip))))) (.seq (.reg [ao 33 (.bin .add 12 (.c (.int .i64 1))),
 ao 12 (.mv 33)]) (.view [.sel [1, 4, 6, 7, 10, 11, 12] [0, 1, 2, 3]]))))
theorem qs1 {R : Type} (KK : AV → Mem → Option R) : AC.ok Try.prog (TIof Try.prog) 36 2 (qp [(.cell 4 true 8), .t 5] KK) (qcm KK) := qm (zA (qtv KK) trivial)
theorem qse {R : Type} (KK : AV → Mem → Option R) (v7 : Bool) (v10 : List AV) (v11 v12 : Int) (Ai : Bool) (Aj Ak Al Am : Int) (An Ao : List UInt8) (Ap : Int) (Au : Bool) (Av Aw Ax : Int) (A2 : Bool) (A3 A4 A5 Be : Int) (Bf Bg : List UInt8) (Bh : Int) (A6 : Bool) (A7 A8 A9 Ba : Int) (Bd Bb : List UInt8) (Bc : Int) (K : Ex → Env → Mem → Option R) : den 2 (qp [(.cell 4 true 8), .t 5] KK) (qcm KK) (qfr v7 v10 v11 v12 Ai Aj Ak Al Am An Ao Ap Au Av Aw Ax A2 A3 A4 A5 Be Bf Bg Bh A6 A7 A8 A9 Ba Bd Bb Bc) (qfs v7 v10 v11 v12 Ai Aj Ak Al Am An Ao Ap Au Av Aw Ax A2 A3 A4 A5 Be Bf Bg Bh A6 A7 A8 A9 Ba Bd Bb Bc) K = qcl v7 v10 v11 v12 Ai Aj Ak Al Am An Ao Ap Au Av Aw Ax A2 A3 A4 A5 Be Bf Bg Bh A6 A7 A8 A9 Ba Bd Bb Bc (fun z_v7 z_v12 z_b0_0 z_b0_1 z_b0_2 z_b0_3 z_b0_4 z_b0_5 z_b0_6 z_b0_7 z_b1_0 z_b1_1 z_b1_2 z_b1_3 z_b2_0 z_b2_1 z_b2_2 z_b2_3 z_b2_4 z_b2_5 z_b2_6 z_b2_7 z_b3_0 z_b3_1 z_b3_2 z_b3_3 z_b3_4 z_b3_5 z_b3_6 z_b3_7 => K .norm (qfr z_v7 v10 v11 z_v12 z_b0_0 z_b0_1 z_b0_2 z_b0_3 z_b0_4 z_b0_5 z_b0_6 z_b0_7 z_b1_0 z_b1_1 z_b1_2 z_b1_3 z_b2_0 z_b2_1 z_b2_2 z_b2_3 z_b2_4 z_b2_5 z_b2_6 z_b2_7 z_b3_0 z_b3_1 z_b3_2 z_b3_3 z_b3_4 z_b3_5 z_b3_6 z_b3_7) (qfs z_v7 v10 v11 z_v12 z_b0_0 z_b0_1 z_b0_2 z_b0_3 z_b0_4 z_b0_5 z_b0_6 z_b0_7 z_b1_0 z_b1_1 z_b1_2 z_b1_3 z_b2_0 z_b2_1 z_b2_2 z_b2_3 z_b2_4 z_b2_5 z_b2_6 z_b2_7 z_b3_0 z_b3_1 z_b3_2 z_b3_3 z_b3_4 z_b3_5 z_b3_6 z_b3_7)) (qdn K) := by kernel_rfl
theorem qtw {R : Type} (KK : AV → Mem → Option R) (v10 : List AV) (v11 : Int) (K : Ex → Env → Mem → Option R) : ∀ (n : Nat) (v7 : Bool) (v12 : Int) (Ai : Bool) (Aj Ak Al Am : Int) (An Ao : List UInt8) (Ap : Int) (Au : Bool) (Av Aw Ax : Int) (A2 : Bool) (A3 A4 A5 Be : Int) (Bf Bg : List UInt8) (Bh : Int) (A6 : Bool) (A7 A8 A9 Ba : Int) (Bd Bb : List UInt8) (Bc : Int), qep (den 2 (qp [(.cell 4 true 8), .t 5] KK) (qcm KK)) n (qfr v7 v10 v11 v12 Ai Aj Ak Al Am An Ao Ap Au Av Aw Ax A2 A3 A4 A5 Be Bf Bg Bh A6 A7 A8 A9 Ba Bd Bb Bc) (qfs v7 v10 v11 v12 Ai Aj Ak Al Am An Ao Ap Au Av Aw Ax A2 A3 A4 A5 Be Bf Bg Bh A6 A7 A8 A9 Ba Bd Bb Bc) K = qel v10 v11 (qdn K) n v7 v12 Ai Aj Ak Al Am An Ao Ap Au Av Aw Ax A2 A3 A4 A5 Be Bf Bg Bh A6 A7 A8 A9 Ba Bd Bb Bc := by
  rw [qkm]
  intro n
  induction n with
  | zero => intros; rfl
  | succ n ih =>
 intro v7 v12 Ai Aj Ak Al Am An Ao Ap Au Av Aw Ax A2 A3 A4 A5 Be Bf Bg Bh A6 A7 A8 A9 Ba Bd Bb Bc
 exact (qse KK v7 v10 v11 v12 Ai Aj Ak Al Am An Ao Ap Au Av Aw Ax A2 A3 A4 A5 Be Bf Bg Bh A6 A7 A8 A9 Ba Bd Bb Bc (itK (den 2 (qp [(.cell 4 true 8), .t 5] KK) (qcm KK)) n K)).trans (congrArg (fun q => qcl v7 v10 v11 v12 Ai Aj Ak Al Am An Ao Ap Au Av Aw Ax A2 A3 A4 A5 Be Bf Bg Bh A6 A7 A8 A9 Ba Bd Bb Bc q (qdn K)) (funext fun v7 => funext fun v12 => funext fun Ai => funext fun Aj => funext fun Ak => funext fun Al => funext fun Am => funext fun An => funext fun Ao => funext fun Ap => funext fun Au => funext fun Av => funext fun Aw => funext fun Ax => funext fun A2 => funext fun A3 => funext fun A4 => funext fun A5 => funext fun Be => funext fun Bf => funext fun Bg => funext fun Bh => funext fun A6 => funext fun A7 => funext fun A8 => funext fun A9 => funext fun Ba => funext fun Bd => funext fun Bb => funext fun Bc => ih v7 v12 Ai Aj Ak Al Am An Ao Ap Au Av Aw Ax A2 A3 A4 A5 Be Bf Bg Bh A6 A7 A8 A9 Ba Bd Bb Bc))
def qk3 {R : Type} (KK : AV → Mem → Option R) := subE (R := R) qsd fun t m K => qj (bxC (m.s 3)) (qj (bxC (m.s 2)) (qe (bxC (m.s 1)) (qj (bxC (m.s 0)) (qel (gL [t 10] 0) (gI [t 11] 0) (qdn K) FU (gB [t 7] 0) (gI [t 12] 0)))))
theorem qtx {R : Type} (KK : AV → Mem → Option R) : qcb Try.prog (TIof Try.prog) 36 2 (qp [(.cell 4 true 8), .t 5] KK) (.loop (scOf (qcm KK))) (qk3 KK) :=
  qdt tabOk follows (qs1 KK) (qn (by kernel_rfl)) fun t m K => qtw KK _ _ K FU _ _ _ _ _ _ _ _ _ _ _ _ _ _ _ _ _ _ _ _ _ _ _ _ _ _ _ _ _ _
def qvb : Shp := ⟨[(0, .one (.l (.sl 8))), (1, .one (.fn 63 [(1, 0)]))], [.box true (lk qa), .box true (lk qf)]⟩
def qmp {R : Type} (KK : AV → Mem → Option R) := (fun v5 Ai Aj Ak Al Am An Ao Ap Au Av Aw Ax A2 A3 A4 A5 Be Bf Bg Bh => KK (.tup [(.agg [(.bool A2), (.int .u64 A3), (.int .u64 A4), (.int .i64 A5), (.int .i64 Be), (.str Bf), (.str Bg), (.int .i64 Bh)]), (.bool v5)]) (qg [(some (.box true [(.bool Ai), (.int .u64 Aj), (.int .u64 Ak), (.int .i64 Al), (.int .i64 Am), (.str An), (.str Ao), (.int .i64 Ap)])), (some (.box true [(.bool Au), (.int .u64 Av), (.int .u64 Aw), (.int .i64 Ax)])), (some (.box true [(.bool A2), (.int .u64 A3), (.int .u64 A4), (.int .i64 A5), (.int .i64 Be), (.str Bf), (.str Bg), (.int .i64 Bh)]))]))
def qg6 {R : Type}  (v0 : List AV) (Ai : Bool) (Aj Ak Al Am : Int) (An Ao : List UInt8) (Ap : Int) (Au : Bool) (Av Aw Ax : Int) (kr : Bool → Bool → Int → Int → Int → Int → (List UInt8) → (List UInt8) → Int → Bool → Int → Int → Int → Bool → Int → Int → Int → Int → (List UInt8) → (List UInt8) → Int → Option R) : Option R :=
  (qel v0 (v0.length : Int) (fun v7q1 b0_0q2 b0_1q3 b0_2q4 b0_3q5 b0_4q6 b0_5q7 b0_6q8 b0_7q9 b1_0q10 b1_1q11 b1_2q12 b1_3q13 b2_0q14 b2_1q15 b2_2q16 b2_3q17 b2_4q18 b2_5q19 b2_6q20 b2_7q21 b3_0q22 b3_1q23 b3_2q24 b3_3q25 b3_4q26 b3_5q27 b3_6q28 b3_7q29 => (kr v7q1 b0_0q2 b0_1q3 b0_2q4 b0_3q5 b0_4q6 b0_5q7 b0_6q8 b0_7q9 b1_0q10 b1_1q11 b1_2q12 b1_3q13 b3_0q22 b3_1q23 b3_2q24 b3_3q25 b3_4q26 b3_5q27 b3_6q28 b3_7q29)) FU false (0 : Int) Ai Aj Ak Al Am An Ao Ap Au Av Aw Ax false (0 : Int) (0 : Int) (0 : Int) (0 : Int) ([] : List UInt8) ([] : List UInt8) (0 : Int) false (0 : Int) (0 : Int) (0 : Int) (0 : Int) ([] : List UInt8) ([] : List UInt8) (0 : Int))
def qfj {R : Type} := hull (qg6 (R := R))
theorem qmq {R : Type} : qfj (R := R) = qg6 := qi _
def qc8 {R : Type} (KK : AV → Mem → Option R) : AC R :=
  .seq (.reg [ao 4 (.alloc [(.bool false), (.int .u64 0), (.int .u64 0), (.int .i64 0), (.int .i64 0), (.str []), (.str []), (.int .i64 0)]),
 ao 5 (.mv (.c (.bool false)))]) (.seq (.reg [ao 6 (.alloc [(.bool false), (.int .u64 0), (.int .u64 0), (.int .i64 0), (.int .i64 0), (.str []), (.str []), (.int .i64 0)])]) (.seq (.reg [ao 7 (.mv (.c (.bool false)))]) (.seq (.seq (.reg [ao 10 (.mv 0),
 ao 11 (.len false 10),
 ao 12 (.mv (.c (.int .i64 0)))]) (.block 0 (.seq (.view [.sel [1, 4, 6, 7, 10, 11, 12] [0, 1, 2, 3]]) (.sub (.loop (scOf (qcm KK))) (qk3 KK))))) (.seq (.reg [ao 34 (.load true 8 6),
 ao 35 (.mv 7),
 an (.store 8 4 34),
 ao 5 (.mv 35)]) (.seq (.view [.sel [4, 5] [0, 1, 2]]) (.ret))))))
theorem qv4 {R : Type} (KK : AV → Mem → Option R) : AC.ok Try.prog (TIof Try.prog) 36 2 (qp [(.cell 4 true 8), .t 5] KK) (qc8 KK) := qm (zA (qtx KK) trivial)
theorem qws {R : Type} (KK : AV → Mem → Option R) (v0 : List AV) (Ai : Bool) (Aj Ak Al Am : Int) (An Ao : List UInt8) (Ap : Int) (Au : Bool) (Av Aw Ax : Int) : den 2 (qp [(.cell 4 true 8), .t 5] KK) (qc8 KK) (qh [(0, (.sl 8 v0)), (1, (.func 63 [(.ptr 1 0)]))]) (qg [(some (.box true (qd Ai Aj Ak Al Am An Ao Ap))), (some (.box true (qb Au Av Aw Ax)))]) (kend (qp [(.cell 4 true 8), .t 5] KK)) = qfj v0 Ai Aj Ak Al Am An Ao Ap Au Av Aw Ax (qmp KK) := by
  rw [qmq]; kernel_rfl
theorem qwt : cFn (TIof Try.prog) Try.f62 = some ⟨36, [(.cell 4 true 8), .t 5], scOf (qc8 (R := Unit) (fun _ _ => none))⟩ := by kernel_rfl
theorem qwu {R : Type} (KK : AV → Mem → Option R) : (qc8 KK).er = some (scOf (qc8 (R := Unit) (fun _ _ => none))) := by kernel_rfl
def qng {R : Type} : List AV → Mem → (AV → Mem → Option R) → Option R := refE qvb fun xs m KK => qe (bxC (m.s 1)) (qj (bxC (m.s 0)) (qfj (gL [(qk xs) 0] 0))) (qmp KK)
theorem qwv {R : Type} : qfx Try.prog 62 (qng (R := R)) :=
  qly (ac := fun KK => qc8 KK) tabOk follows Try.func62 (by kernel_rfl) qwt (fun KK => qv4 KK) (fun KK => qwu KK) rfl fun xs m KK => qws KK _ _ _ _ _ _ _ _ _ _ _ _ _
def qv5 (z : AV) : Option (AV × Bool) := cond (qhy [(.st [.b, (.i .u64), (.i .u64), (.i .i64), (.i .i64), .s, .s, (.i .i64)]), (.one .b)] z) (some ((gC (tpL z) 0), aB (gC (tpL z) 1))) none
def qbni (r : AV × Bool) : AV := .tup [qll (.st [.b, (.i .u64), (.i .u64), (.i .i64), (.i .i64), .s, .s, (.i .i64)]) r.1, .bool r.2]
def qbnj : Shp := ⟨[(0, .one (.l (.sl 8))), (1, .st (lk qf))], []⟩
def q0h (v0 : List AV) (Aq : Bool) (Ar As At : Int) : Option (AV × Bool) :=
  (qfj v0 false (0 : Int) (0 : Int) (0 : Int) (0 : Int) ([] : List UInt8) ([] : List UInt8) (0 : Int) Aq Ar As At fun v5q1 b0_0q2 b0_1q3 b0_2q4 b0_3q5 b0_4q6 b0_5q7 b0_6q8 b0_7q9 b1_0q10 b1_1q11 b1_2q12 b1_3q13 b2_0q14 b2_1q15 b2_2q16 b2_3q17 b2_4q18 b2_5q19 b2_6q20 b2_7q21 => (some ((.agg [(.bool b2_0q14), (.int .u64 b2_1q15), (.int .u64 b2_2q16), (.int .i64 b2_3q17), (.int .i64 b2_4q18), (.str b2_5q19), (.str b2_6q20), (.int .i64 b2_7q21)]), v5q1)))
def qmi := hull q0h
theorem q79 : qmi = q0h := qi _
def q0i : AC (AV × Bool) :=
  .seq (.reg [ao 3 (.box 1),
 ao 4 (.alloc [(.bool false), (.int .u64 0), (.int .u64 0), (.int .i64 0), (.int .i64 0), (.str []), (.str []), (.int .i64 0)]),
 ao 5 (.mv (.c (.bool false)))]) (.seq (.reg [ao 6 (.mv 0),
 ao 7 (.mkf 63 [3]),
 .st (.sel [4, 6, 7] [1, 0]),
 .callr (po 8 (.call 62 [6, 7])) 62 qng,
 ao 9 (.ext 8 0),
 ao 10 (.ext 8 1),
 an (.store 8 4 9),
 ao 5 (.mv 10)]) (.ret))
theorem qbqm : AC.ok Try.prog (TIof Try.prog) 11 0 (kret [(.cell 4 true 8), .t 5] qv5) q0i := qm (zA qwv trivial)
theorem qbsw (v0 : List AV) (Aq : Bool) (Ar As At : Int) : den 0 (kret [(.cell 4 true 8), .t 5] qv5) q0i (qh [(0, (.sl 8 v0)), (1, .agg (qb Aq Ar As At))]) (qg []) (kend (kret [(.cell 4 true 8), .t 5] qv5)) = qmi v0 Aq Ar As At := by
  rw [q79]; kernel_rfl
theorem qbsx : cFn (TIof Try.prog) Try.f26 = some ⟨11, [(.cell 4 true 8), .t 5], scOf q0i⟩ := by kernel_rfl
def qbsy (xs : List AV) : Option (AV × Bool) := qe ((qk xs) 1).cells (qmi (gL [(qk xs) 0] 0))
def qv6 {R : Type} : List AV → (AV → Option R) → Option R := entF qbnj qbsy qbni
theorem q93 {R : Type} : qc Try.prog 26 (qv6 (R := R)) :=
  qba tabOk follows Try.func26 (by kernel_rfl) qbsx (fun z r h => by
 obtain ⟨h1, h2⟩ := qo h
 cases h2
 exact (qez h1).symm) qbqm (qn (by kernel_rfl)) fun xs => qbsw _ _ _ _ _
def qbhb : Shp := ⟨[(0, .st (lk qa)), (1, .one (.ptr 1 0))], [.box true (lk qa), .box true (lk qcy), .box true (lk qa), .box true (lk qa), .box true (lk qa)]⟩
def q4g {R : Type} (KK : AV → Mem → Option R) := (fun v3 Ai Aj Ak Al Am An Ao Ap Au Av Aw A2 A3 A4 A5 Be Bf Bg Bh A6 A7 A8 A9 Ba Bd Bb Bc Bi Bj Bl Bm Bn Bo Bp Bq => KK (.bool v3) (qg [(some (.box true [(.bool Ai), (.int .u64 Aj), (.int .u64 Ak), (.int .i64 Al), (.int .i64 Am), (.str An), (.str Ao), (.int .i64 Ap)])), (some (.box true [(.bool Au), (.int .u64 Av), (.int .u64 Aw)])), (some (.box true [(.bool A2), (.int .u64 A3), (.int .u64 A4), (.int .i64 A5), (.int .i64 Be), (.str Bf), (.str Bg), (.int .i64 Bh)])), (some (.box true [(.bool A6), (.int .u64 A7), (.int .u64 A8), (.int .i64 A9), (.int .i64 Ba), (.str Bd), (.str Bb), (.int .i64 Bc)])), (some (.box true [(.bool Bi), (.int .u64 Bj), (.int .u64 Bl), (.int .i64 Bm), (.int .i64 Bn), (.str Bo), (.str Bp), (.int .i64 Bq)]))]))
def qv7 {R : Type}  (Aa : Bool) (Ab Ac Ad Ae : Int) (Af Ag : List UInt8) (Ah : Int) (Ai : Bool) (Aj Ak Al Am : Int) (An Ao : List UInt8) (Ap : Int) (Au : Bool) (Av Aw : Int) (A2 : Bool) (A3 A4 A5 Be : Int) (Bf Bg : List UInt8) (Bh : Int) (A6 : Bool) (A7 A8 A9 Ba : Int) (Bd Bb : List UInt8) (Bc : Int) (Bi : Bool) (Bj Bl Bm Bn : Int) (Bo Bp : List UInt8) (Bq : Int) (kr : Bool → Bool → Int → Int → Int → Int → (List UInt8) → (List UInt8) → Int → Bool → Int → Int → Bool → Int → Int → Int → Int → (List UInt8) → (List UInt8) → Int → Bool → Int → Int → Int → Int → (List UInt8) → (List UInt8) → Int → Bool → Int → Int → Int → Int → (List UInt8) → (List UInt8) → Int → Option R) : Option R :=
  (oB (qlz Aa Ab Ac Ad Au Av Aw) fun r1 => (kr r1 Ai Aj Ak Al Am An Ao Ap Au Av Aw A2 A3 A4 A5 Be Bf Bg Bh A6 A7 A8 A9 Ba Bd Bb Bc Bi Bj Bl Bm Bn Bo Bp Bq))
def qtq {R : Type} := hull (qv7 (R := R))
theorem q4h {R : Type} : qtq (R := R) = qv7 := qi _
def qjd {R : Type} (KK : AV → Mem → Option R) : AC R :=
  .seq (.reg [ao 2 (.box 0),
 ao 3 (.mv (.c (.bool false)))]) (.seq (.reg [ao 4 (.fa 0 2),
 ao 5 (.load true 4 4),
 ao 6 (.load true 3 1),
 .call (po 7 (.call 35 [5, 6])) 35 qsr,
 ao 3 (.mv 7)]) (.seq (.view [.sel [3] [0, 1, 2, 3, 4]]) (.ret)))
theorem qbjl {R : Type} (KK : AV → Mem → Option R) : AC.ok Try.prog (TIof Try.prog) 8 5 (qp [.t 3] KK) (qjd KK) := qm (zA (qc.ok q5s) trivial)
theorem qbnk {R : Type} (KK : AV → Mem → Option R) (Aa : Bool) (Ab Ac Ad Ae : Int) (Af Ag : List UInt8) (Ah : Int) (Ai : Bool) (Aj Ak Al Am : Int) (An Ao : List UInt8) (Ap : Int) (Au : Bool) (Av Aw : Int) (A2 : Bool) (A3 A4 A5 Be : Int) (Bf Bg : List UInt8) (Bh : Int) (A6 : Bool) (A7 A8 A9 Ba : Int) (Bd Bb : List UInt8) (Bc : Int) (Bi : Bool) (Bj Bl Bm Bn : Int) (Bo Bp : List UInt8) (Bq : Int) : den 5 (qp [.t 3] KK) (qjd KK) (qh [(0, .agg (qd Aa Ab Ac Ad Ae Af Ag Ah)), (1, (.ptr 1 0))]) (qg [(some (.box true (qd Ai Aj Ak Al Am An Ao Ap))), (some (.box true (qbj Au Av Aw))), (some (.box true (qd A2 A3 A4 A5 Be Bf Bg Bh))), (some (.box true (qd A6 A7 A8 A9 Ba Bd Bb Bc))), (some (.box true (qd Bi Bj Bl Bm Bn Bo Bp Bq)))]) (kend (qp [.t 3] KK)) = qtq Aa Ab Ac Ad Ae Af Ag Ah Ai Aj Ak Al Am An Ao Ap Au Av Aw A2 A3 A4 A5 Be Bf Bg Bh A6 A7 A8 A9 Ba Bd Bb Bc Bi Bj Bl Bm Bn Bo Bp Bq (q4g KK) := by
  rw [q4h]; kernel_rfl
theorem qbnl : cFn (TIof Try.prog) Try.f65 = some ⟨8, [.t 3], scOf (qjd (R := Unit) (fun _ _ => none))⟩ := by kernel_rfl
theorem qbnm {R : Type} (KK : AV → Mem → Option R) : (qjd KK).er = some (scOf (qjd (R := Unit) (fun _ _ => none))) := by kernel_rfl
def q6e {R : Type} : List AV → Mem → (AV → Mem → Option R) → Option R := refE qbhb fun xs m KK => qj (bxC (m.s 4)) (qj (bxC (m.s 3)) (qj (bxC (m.s 2)) (qbu (bxC (m.s 1)) (qj (bxC (m.s 0)) (qj ((qk xs) 0).cells (qtq)))))) (q4g KK)
theorem qbnn {R : Type} : qfx Try.prog 65 (q6e (R := R)) :=
  qly (ac := fun KK => qjd KK) tabOk follows Try.func65 (by kernel_rfl) qbnl (fun KK => qbjl KK) (fun KK => qbnm KK) rfl fun xs m KK => qbnk KK _ _ _ _ _ _ _ _ _ _ _ _ _ _ _ _ _ _ _ _ _ _ _ _ _ _ _ _ _ _ _ _ _ _ _ _ _ _ _ _ _ _ _
def qkn {R : Type}  (v7 : Bool) (v10 : List AV) (v11 v12 : Int) (K : Ex → Env → Mem → Option R) := (fun z_v31 z_b0_0 z_b0_1 z_b0_2 z_b0_3 z_b0_4 z_b0_5 z_b0_6 z_b0_7 z_b1_0 z_b1_1 z_b1_2 z_b2_0 z_b2_1 z_b2_2 z_b2_3 z_b2_4 z_b2_5 z_b2_6 z_b2_7 z_b3_0 z_b3_1 z_b3_2 z_b3_3 z_b3_4 z_b3_5 z_b3_6 z_b3_7 z_b4_0 z_b4_1 z_b4_2 z_b4_3 z_b4_4 z_b4_5 z_b4_6 z_b4_7 => K .norm (qh [(1, (.func 65 [(.ptr 1 0)])), (4, (.ptr 2 0)), (6, (.ptr 3 0)), (7, (.bool v7)), (9, (.ptr 4 0)), (10, (.sl 8 v10)), (11, (.int .i64 v11)), (12, (.int .i64 v12)), (31, (.bool z_v31))]) (qg [(some (.box true (qd z_b0_0 z_b0_1 z_b0_2 z_b0_3 z_b0_4 z_b0_5 z_b0_6 z_b0_7))), (some (.box true (qbj z_b1_0 z_b1_1 z_b1_2))), (some (.box true (qd z_b2_0 z_b2_1 z_b2_2 z_b2_3 z_b2_4 z_b2_5 z_b2_6 z_b2_7))), (some (.box true (qd z_b3_0 z_b3_1 z_b3_2 z_b3_3 z_b3_4 z_b3_5 z_b3_6 z_b3_7))), (some (.box true (qd z_b4_0 z_b4_1 z_b4_2 z_b4_3 z_b4_4 z_b4_5 z_b4_6 z_b4_7)))]))
def qsf : Shp := ⟨[(1, .one (.fn 65 [(1, 0)])), (4, .one (.ptr 2 0)), (6, .one (.ptr 3 0)), (7, .one (.l .b)), (9, .one (.ptr 4 0)), (10, .one (.l (.sl 8))), (11, .one (.l (.i .i64))), (12, .one (.l (.i .i64)))], [.box true (lk qa), .box true (lk qcy), .box true (lk qa), .box true (lk qa), .box true (lk qa)]⟩
def qfz {R : Type}  (v7 : Bool) (v10 : List AV) (v11 v12 : Int) (Ai : Bool) (Aj Ak Al Am : Int) (An Ao : List UInt8) (Ap : Int) (Au : Bool) (Av Aw : Int) (A2 : Bool) (A3 A4 A5 Be : Int) (Bf Bg : List UInt8) (Bh : Int) (A6 : Bool) (A7 A8 A9 Ba : Int) (Bd Bb : List UInt8) (Bc : Int) (Bi : Bool) (Bj Bl Bm Bn : Int) (Bo Bp : List UInt8) (Bq : Int) (kn : Bool → Bool → Int → Int → Int → Int → (List UInt8) → (List UInt8) → Int → Bool → Int → Int → Bool → Int → Int → Int → Int → (List UInt8) → (List UInt8) → Int → Bool → Int → Int → Int → Int → (List UInt8) → (List UInt8) → Int → Bool → Int → Int → Int → Int → (List UInt8) → (List UInt8) → Int → Option R) : Option R :=
  (qtq Bi Bj Bl Bm Bn Bo Bp Bq Ai Aj Ak Al Am An Ao Ap Au Av Aw A2 A3 A4 A5 Be Bf Bg Bh A6 A7 A8 A9 Ba Bd Bb Bc Bi Bj Bl Bm Bn Bo Bp Bq fun v3q1 b0_0q2 b0_1q3 b0_2q4 b0_3q5 b0_4q6 b0_5q7 b0_6q8 b0_7q9 b1_0q10 b1_1q11 b1_2q12 b2_0q13 b2_1q14 b2_2q15 b2_3q16 b2_4q17 b2_5q18 b2_6q19 b2_7q20 b3_0q21 b3_1q22 b3_2q23 b3_3q24 b3_4q25 b3_5q26 b3_6q27 b3_7q28 b4_0q29 b4_1q30 b4_2q31 b4_3q32 b4_4q33 b4_5q34 b4_6q35 b4_7q36 => (bif v3q1 then (bif (!v7) then (kn true b0_0q2 b0_1q3 b0_2q4 b0_3q5 b0_4q6 b0_5q7 b0_6q8 b0_7q9 b1_0q10 b1_1q11 b1_2q12 b2_0q13 b2_1q14 b2_2q15 b2_3q16 b2_4q17 b2_5q18 b2_6q19 b2_7q20 b3_0q21 b3_1q22 b3_2q23 b3_3q24 b3_4q25 b3_5q26 b3_6q27 b3_7q28 b4_0q29 b4_1q30 b4_2q31 b4_3q32 b4_4q33 b4_5q34 b4_6q35 b4_7q36) else (kn (decide (b4_3q32 > b3_3q24)) b0_0q2 b0_1q3 b0_2q4 b0_3q5 b0_4q6 b0_5q7 b0_6q8 b0_7q9 b1_0q10 b1_1q11 b1_2q12 b2_0q13 b2_1q14 b2_2q15 b2_3q16 b2_4q17 b2_5q18 b2_6q19 b2_7q20 b3_0q21 b3_1q22 b3_2q23 b3_3q24 b3_4q25 b3_5q26 b3_6q27 b3_7q28 b4_0q29 b4_1q30 b4_2q31 b4_3q32 b4_4q33 b4_5q34 b4_6q35 b4_7q36)) else (kn false b0_0q2 b0_1q3 b0_2q4 b0_3q5 b0_4q6 b0_5q7 b0_6q8 b0_7q9 b1_0q10 b1_1q11 b1_2q12 b2_0q13 b2_1q14 b2_2q15 b2_3q16 b2_4q17 b2_5q18 b2_6q19 b2_7q20 b3_0q21 b3_1q22 b3_2q23 b3_3q24 b3_4q25 b3_5q26 b3_6q27 b3_7q28 b4_0q29 b4_1q30 b4_2q31 b4_3q32 b4_4q33 b4_5q34 b4_6q35 b4_7q36)))
def qem {R : Type} := hull (qfz (R := R))
theorem qko {R : Type} : qem (R := R) = qfz := qi _
def qd1 {R : Type} (KK : AV → Mem → Option R) : AC R :=
  .seq (.reg [ao 16 (.mv 1),
 ao 17 (.load true 8 9),
 .st (.sel [1, 4, 6, 7, 9, 10, 11, 12, 16, 17] [0, 1, 2, 3, 4]),
 .callr (po 18 (.callv 16 [17])) 65 q6e,
 ao 19 (.mv 18),
 ag 20 19 true (.mv 7),
 ag 21 19 true (.un .not 20),
 ag 22 19 true (.mv 21),
 ag 23 22 false (.fa 0 9),
 ag 24 22 false (.fa 3 23),
 ag 25 22 false (.load false 1 24),
 ag 26 22 false (.fa 0 6),
 ag 27 22 false (.fa 3 26),
 ag 28 22 false (.load false 1 27),
 ag 29 22 false (.bin .gtr 25 28),
 ag 30 19 true (.pick 22 (.c (.bool true)) 29),
 ao 31 (.pick 19 30 (.c (.bool false)))]) (.view [.sel [1, 4, 6, 7, 9, 10, 11, 12, 31] [0, 1, 2, 3, 4]])
theorem qs2 {R : Type} (KK : AV → Mem → Option R) : AC.ok Try.prog (TIof Try.prog) 36 2 (qp [(.cell 4 true 8), .t 5] KK) (qd1 KK) := qm (zA qbnn trivial)
theorem qty {R : Type} (KK : AV → Mem → Option R) (v7 : Bool) (v10 : List AV) (v11 v12 : Int) (Ai : Bool) (Aj Ak Al Am : Int) (An Ao : List UInt8) (Ap : Int) (Au : Bool) (Av Aw : Int) (A2 : Bool) (A3 A4 A5 Be : Int) (Bf Bg : List UInt8) (Bh : Int) (A6 : Bool) (A7 A8 A9 Ba : Int) (Bd Bb : List UInt8) (Bc : Int) (Bi : Bool) (Bj Bl Bm Bn : Int) (Bo Bp : List UInt8) (Bq : Int) (K : Ex → Env → Mem → Option R) : den 2 (qp [(.cell 4 true 8), .t 5] KK) (qd1 KK) (qh [(1, (.func 65 [(.ptr 1 0)])), (4, (.ptr 2 0)), (6, (.ptr 3 0)), (7, (.bool v7)), (9, (.ptr 4 0)), (10, (.sl 8 v10)), (11, (.int .i64 v11)), (12, (.int .i64 v12))]) (qg [(some (.box true (qd Ai Aj Ak Al Am An Ao Ap))), (some (.box true (qbj Au Av Aw))), (some (.box true (qd A2 A3 A4 A5 Be Bf Bg Bh))), (some (.box true (qd A6 A7 A8 A9 Ba Bd Bb Bc))), (some (.box true (qd Bi Bj Bl Bm Bn Bo Bp Bq)))]) K = qem v7 v10 v11 v12 Ai Aj Ak Al Am An Ao Ap Au Av Aw A2 A3 A4 A5 Be Bf Bg Bh A6 A7 A8 A9 Ba Bd Bb Bc Bi Bj Bl Bm Bn Bo Bp Bq (qkn v7 v10 v11 v12 K) := by
  rw [qko]; kernel_rfl
def qk4 {R : Type} (KK : AV → Mem → Option R) := subE (R := R) qsf fun t m K => qj (bxC (m.s 4)) (qj (bxC (m.s 3)) (qj (bxC (m.s 2)) (qbu (bxC (m.s 1)) (qj (bxC (m.s 0)) (qem (gB [t 7] 0) (gL [t 10] 0) (gI [t 11] 0) (gI [t 12] 0)))))) (qkn (gB [t 7] 0) (gL [t 10] 0) (gI [t 11] 0) (gI [t 12] 0) K)
theorem qtz {R : Type} (KK : AV → Mem → Option R) : qcb Try.prog (TIof Try.prog) 36 2 (qp [(.cell 4 true 8), .t 5] KK) (scOf (qd1 KK)) (qk4 KK) :=
  qfa tabOk follows (qs2 KK) (qn (by kernel_rfl)) fun t m K => qty KK _ _ _ _ _ _ _ _ _ _ _ _ _ _ _ _ _ _ _ _ _ _ _ _ _ _ _ _ _ _ _ _ _ _ _ _ _ _ _ K
def qdo {R : Type}  (K : Ex → Env → Mem → Option R) := (fun z_v7 z_b0_0 z_b0_1 z_b0_2 z_b0_3 z_b0_4 z_b0_5 z_b0_6 z_b0_7 z_b1_0 z_b1_1 z_b1_2 z_b2_0 z_b2_1 z_b2_2 z_b2_3 z_b2_4 z_b2_5 z_b2_6 z_b2_7 z_b3_0 z_b3_1 z_b3_2 z_b3_3 z_b3_4 z_b3_5 z_b3_6 z_b3_7 => K (.exit 0) (qh [(4, (.ptr 2 0)), (6, (.ptr 3 0)), (7, (.bool z_v7))]) (qg [(some (.box true (qd z_b0_0 z_b0_1 z_b0_2 z_b0_3 z_b0_4 z_b0_5 z_b0_6 z_b0_7))), (some (.box true (qbj z_b1_0 z_b1_1 z_b1_2))), (some (.box true (qd z_b2_0 z_b2_1 z_b2_2 z_b2_3 z_b2_4 z_b2_5 z_b2_6 z_b2_7))), (some (.box true (qd z_b3_0 z_b3_1 z_b3_2 z_b3_3 z_b3_4 z_b3_5 z_b3_6 z_b3_7)))]))
def qsg : Shp := ⟨[(1, .one (.fn 65 [(1, 0)])), (4, .one (.ptr 2 0)), (6, .one (.ptr 3 0)), (7, .one (.l .b)), (10, .one (.l (.sl 8))), (11, .one (.l (.i .i64))), (12, .one (.l (.i .i64)))], [.box true (lk qa), .box true (lk qcy), .box true (lk qa), .box true (lk qa)]⟩
def qft (v7 : Bool) (v10 : List AV) (v11 v12 : Int) (Ai : Bool) (Aj Ak Al Am : Int) (An Ao : List UInt8) (Ap : Int) (Au : Bool) (Av Aw : Int) (A2 : Bool) (A3 A4 A5 Be : Int) (Bf Bg : List UInt8) (Bh : Int) (A6 : Bool) (A7 A8 A9 Ba : Int) (Bd Bb : List UInt8) (Bc : Int) : Env := qh [(1, (.func 65 [(.ptr 1 0)])), (4, (.ptr 2 0)), (6, (.ptr 3 0)), (7, (.bool v7)), (10, (.sl 8 v10)), (11, (.int .i64 v11)), (12, (.int .i64 v12))]
def qfu (v7 : Bool) (v10 : List AV) (v11 v12 : Int) (Ai : Bool) (Aj Ak Al Am : Int) (An Ao : List UInt8) (Ap : Int) (Au : Bool) (Av Aw : Int) (A2 : Bool) (A3 A4 A5 Be : Int) (Bf Bg : List UInt8) (Bh : Int) (A6 : Bool) (A7 A8 A9 Ba : Int) (Bd Bb : List UInt8) (Bc : Int) : Mem := qg [(some (.box true (qd Ai Aj Ak Al Am An Ao Ap))), (some (.box true (qbj Au Av Aw))), (some (.box true (qd A2 A3 A4 A5 Be Bf Bg Bh))), (some (.box true (qd A6 A7 A8 A9 Ba Bd Bb Bc)))]
def qcn {R : Type}  (v7 : Bool) (v10 : List AV) (v11 v12 : Int) (Ai : Bool) (Aj Ak Al Am : Int) (An Ao : List UInt8) (Ap : Int) (Au : Bool) (Av Aw : Int) (A2 : Bool) (A3 A4 A5 Be : Int) (Bf Bg : List UInt8) (Bh : Int) (A6 : Bool) (A7 A8 A9 Ba : Int) (Bd Bb : List UInt8) (Bc : Int) (next : Bool → Int → Bool → Int → Int → Int → Int → (List UInt8) → (List UInt8) → Int → Bool → Int → Int → Bool → Int → Int → Int → Int → (List UInt8) → (List UInt8) → Int → Bool → Int → Int → Int → Int → (List UInt8) → (List UInt8) → Int → Option R) (kx0 : Bool → Bool → Int → Int → Int → Int → (List UInt8) → (List UInt8) → Int → Bool → Int → Int → Bool → Int → Int → Int → Int → (List UInt8) → (List UInt8) → Int → Bool → Int → Int → Int → Int → (List UInt8) → (List UInt8) → Int → Option R) : Option R :=
  (bif (decide (v12 < v11)) then (oB (ixB v10 v12) fun y1 => (bif fitC qa y1.cells then (qem v7 v10 v11 v12 Ai Aj Ak Al Am An Ao Ap Au Av Aw A2 A3 A4 A5 Be Bf Bg Bh A6 A7 A8 A9 Ba Bd Bb Bc (gB y1.cells 0) (gI y1.cells 1) (gI y1.cells 2) (gI y1.cells 3) (gI y1.cells 4) (gS y1.cells 5) (gS y1.cells 6) (gI y1.cells 7) (fun v31q2 b0_0q3 b0_1q4 b0_2q5 b0_3q6 b0_4q7 b0_5q8 b0_6q9 b0_7q10 b1_0q11 b1_1q12 b1_2q13 b2_0q14 b2_1q15 b2_2q16 b2_3q17 b2_4q18 b2_5q19 b2_6q20 b2_7q21 b3_0q22 b3_1q23 b3_2q24 b3_3q25 b3_4q26 b3_5q27 b3_6q28 b3_7q29 b4_0q30 b4_1q31 b4_2q32 b4_3q33 b4_4q34 b4_5q35 b4_6q36 b4_7q37 => (bif v31q2 then (next true (IntKind.i64.wrap (v12 + (1 : Int))) b0_0q3 b0_1q4 b0_2q5 b0_3q6 b0_4q7 b0_5q8 b0_6q9 b0_7q10 b1_0q11 b1_1q12 b1_2q13 b2_0q14 b2_1q15 b2_2q16 b2_3q17 b2_4q18 b2_5q19 b2_6q20 b2_7q21 b4_0q30 b4_1q31 b4_2q32 b4_3q33 b4_4q34 b4_5q35 b4_6q36 b4_7q37) else (next v7 (IntKind.i64.wrap (v12 + (1 : Int))) b0_0q3 b0_1q4 b0_2q5 b0_3q6 b0_4q7 b0_5q8 b0_6q9 b0_7q10 b1_0q11 b1_1q12 b1_2q13 b2_0q14 b2_1q15 b2_2q16 b2_3q17 b2_4q18 b2_5q19 b2_6q20 b2_7q21 b3_0q22 b3_1q23 b3_2q24 b3_3q25 b3_4q26 b3_5q27 b3_6q28 b3_7q29)))) else none)) else (kx0 v7 Ai Aj Ak Al Am An Ao Ap Au Av Aw A2 A3 A4 A5 Be Bf Bg Bh A6 A7 A8 A9 Ba Bd Bb Bc))
def qdg {R : Type}  (v10 : List AV) (v11 : Int) (kx0 : Bool → Bool → Int → Int → Int → Int → (List UInt8) → (List UInt8) → Int → Bool → Int → Int → Bool → Int → Int → Int → Int → (List UInt8) → (List UInt8) → Int → Bool → Int → Int → Int → Int → (List UInt8) → (List UInt8) → Int → Option R) : Nat → Bool → Int → Bool → Int → Int → Int → Int → (List UInt8) → (List UInt8) → Int → Bool → Int → Int → Bool → Int → Int → Int → Int → (List UInt8) → (List UInt8) → Int → Bool → Int → Int → Int → Int → (List UInt8) → (List UInt8) → Int → Option R
  | 0 => (fun _ _ _ _ _ _ _ _ _ _ _ _ _ _ _ _ _ _ _ _ _ _ _ _ _ _ _ _ _ => none)
  | n + 1 => (fun v7 v12 Ai Aj Ak Al Am An Ao Ap Au Av Aw A2 A3 A4 A5 Be Bf Bg Bh A6 A7 A8 A9 Ba Bd Bb Bc => qcn v7 v10 v11 v12 Ai Aj Ak Al Am An Ao Ap Au Av Aw A2 A3 A4 A5 Be Bf Bg Bh A6 A7 A8 A9 Ba Bd Bb Bc (qdg v10 v11 kx0 n) kx0)
def qen {R : Type} := hull (qdg (R := R))
theorem qkp {R : Type} : qen (R := R) = qdg := qi _
def qco {R : Type} (KK : AV → Mem → Option R) : AC R :=
  .seq (.reg [ao 13 (.bin .lss 12 11)]) (.seq (.cond 13 (.skip) (.seq (.view [.sel [4, 6, 7] [0, 1, 2, 3]]) (.exit 0))) (.seq (.block 1 (.seq (.reg [ao 14 (.ia 8 10 12),
 .st (.etac 14 qa),
 ao 15 (.load true 8 14),
 ao 9 (.alloc [(.bool false), (.int .u64 0), (.int .u64 0), (.int .i64 0), (.int .i64 0), (.str []), (.str []), (.int .i64 0)]),
 an (.store 8 9 15)]) (.seq (.seq (.view [.sel [1, 4, 6, 7, 9, 10, 11, 12] [0, 1, 2, 3, 4]]) (.sub (scOf (qd1 KK)) (qk4 KK))) (.cond 31 (.reg [ao 32 (.load true 8 9),
 an (.store 8 6 32),
 ao 7 (.mv (.c (.bool true)))]) (.skip))))) (.seq (.reg [ao 33 (.bin .add 12 (.c (.int .i64 1))),
 ao 12 (.mv 33)]) (.view [.sel [1, 4, 6, 7, 10, 11, 12] [0, 1, 2, 3]]))))
theorem qs3 {R : Type} (KK : AV → Mem → Option R) : AC.ok Try.prog (TIof Try.prog) 36 2 (qp [(.cell 4 true 8), .t 5] KK) (qco KK) := qm (zA (qtz KK) trivial)
theorem qsh {R : Type} (KK : AV → Mem → Option R) (v7 : Bool) (v10 : List AV) (v11 v12 : Int) (Ai : Bool) (Aj Ak Al Am : Int) (An Ao : List UInt8) (Ap : Int) (Au : Bool) (Av Aw : Int) (A2 : Bool) (A3 A4 A5 Be : Int) (Bf Bg : List UInt8) (Bh : Int) (A6 : Bool) (A7 A8 A9 Ba : Int) (Bd Bb : List UInt8) (Bc : Int) (K : Ex → Env → Mem → Option R) : den 2 (qp [(.cell 4 true 8), .t 5] KK) (qco KK) (qft v7 v10 v11 v12 Ai Aj Ak Al Am An Ao Ap Au Av Aw A2 A3 A4 A5 Be Bf Bg Bh A6 A7 A8 A9 Ba Bd Bb Bc) (qfu v7 v10 v11 v12 Ai Aj Ak Al Am An Ao Ap Au Av Aw A2 A3 A4 A5 Be Bf Bg Bh A6 A7 A8 A9 Ba Bd Bb Bc) K = qcn v7 v10 v11 v12 Ai Aj Ak Al Am An Ao Ap Au Av Aw A2 A3 A4 A5 Be Bf Bg Bh A6 A7 A8 A9 Ba Bd Bb Bc (fun z_v7 z_v12 z_b0_0 z_b0_1 z_b0_2 z_b0_3 z_b0_4 z_b0_5 z_b0_6 z_b0_7 z_b1_0 z_b1_1 z_b1_2 z_b2_0 z_b2_1 z_b2_2 z_b2_3 z_b2_4 z_b2_5 z_b2_6 z_b2_7 z_b3_0 z_b3_1 z_b3_2 z_b3_3 z_b3_4 z_b3_5 z_b3_6 z_b3_7 => K .norm (qft z_v7 v10 v11 z_v12 z_b0_0 z_b0_1 z_b0_2 z_b0_3 z_b0_4 z_b0_5 z_b0_6 z_b0_7 z_b1_0 z_b1_1 z_b1_2 z_b2_0 z_b2_1 z_b2_2 z_b2_3 z_b2_4 z_b2_5 z_b2_6 z_b2_7 z_b3_0 z_b3_1 z_b3_2 z_b3_3 z_b3_4 z_b3_5 z_b3_6 z_b3_7) (qfu z_v7 v10 v11 z_v12 z_b0_0 z_b0_1 z_b0_2 z_b0_3 z_b0_4 z_b0_5 z_b0_6 z_b0_7 z_b1_0 z_b1_1 z_b1_2 z_b2_0 z_b2_1 z_b2_2 z_b2_3 z_b2_4 z_b2_5 z_b2_6 z_b2_7 z_b3_0 z_b3_1 z_b3_2 z_b3_3 z_b3_4 z_b3_5 z_b3_6 z_b3_7)) (qdo K) := by kernel_rfl
theorem qt0 {R : Type} (KK : AV → Mem → Option R) (v10 : List AV) (v11 : Int) (K : Ex → Env → Mem → Option R) : ∀ (n : Nat) (v7 : Bool) (v12 : Int) (Ai : Bool) (Aj Ak Al Am : Int) (An Ao : List UInt8) (Ap : Int) (Au : Bool) (Av Aw : Int) (A2 : Bool) (A3 A4 A5 Be : Int) (Bf Bg : List UInt8) (Bh : Int) (A6 : Bool) (A7 A8 A9 Ba : Int) (Bd Bb : List UInt8) (Bc : Int), qep (den 2 (qp [(.cell 4 true 8), .t 5] KK) (qco KK)) n (qft v7 v10 v11 v12 Ai Aj Ak Al Am An Ao Ap Au Av Aw A2 A3 A4 A5 Be Bf Bg Bh A6 A7 A8 A9 Ba Bd Bb Bc) (qfu v7 v10 v11 v12 Ai Aj Ak Al Am An Ao Ap Au Av Aw A2 A3 A4 A5 Be Bf Bg Bh A6 A7 A8 A9 Ba Bd Bb Bc) K = qen v10 v11 (qdo K) n v7 v12 Ai Aj Ak Al Am An Ao Ap Au Av Aw A2 A3 A4 A5 Be Bf Bg Bh A6 A7 A8 A9 Ba Bd Bb Bc := by
  rw [qkp]
  intro n
  induction n with
  | zero => intros; rfl
  | succ n ih =>
 intro v7 v12 Ai Aj Ak Al Am An Ao Ap Au Av Aw A2 A3 A4 A5 Be Bf Bg Bh A6 A7 A8 A9 Ba Bd Bb Bc
 exact (qsh KK v7 v10 v11 v12 Ai Aj Ak Al Am An Ao Ap Au Av Aw A2 A3 A4 A5 Be Bf Bg Bh A6 A7 A8 A9 Ba Bd Bb Bc (itK (den 2 (qp [(.cell 4 true 8), .t 5] KK) (qco KK)) n K)).trans (congrArg (fun q => qcn v7 v10 v11 v12 Ai Aj Ak Al Am An Ao Ap Au Av Aw A2 A3 A4 A5 Be Bf Bg Bh A6 A7 A8 A9 Ba Bd Bb Bc q (qdo K)) (funext fun v7 => funext fun v12 => funext fun Ai => funext fun Aj => funext fun Ak => funext fun Al => funext fun Am => funext fun An => funext fun Ao => funext fun Ap => funext fun Au => funext fun Av => funext fun Aw => funext fun A2 => funext fun A3 => funext fun A4 => funext fun A5 => funext fun Be => funext fun Bf => funext fun Bg => funext fun Bh => funext fun A6 => funext fun A7 => funext fun A8 => funext fun A9 => funext fun Ba => funext fun Bd => funext fun Bb => funext fun Bc => ih v7 v12 Ai Aj Ak Al Am An Ao Ap Au Av Aw A2 A3 A4 A5 Be Bf Bg Bh A6 A7 A8 A9 Ba Bd Bb Bc))
def qk5 {R : Type} (KK : AV → Mem → Option R) := subE (R := R) qsg fun t m K => qj (bxC (m.s 3)) (qj (bxC (m.s 2)) (qbu (bxC (m.s 1)) (qj (bxC (m.s 0)) (qen (gL [t 10] 0) (gI [t 11] 0) (qdo K) FU (gB [t 7] 0) (gI [t 12] 0)))))
theorem qt1 {R : Type} (KK : AV → Mem → Option R) : qcb Try.prog (TIof Try.prog) 36 2 (qp [(.cell 4 true 8), .t 5] KK) (.loop (scOf (qco KK))) (qk5 KK) :=
  qdt tabOk follows (qs3 KK) (qn (by kernel_rfl)) fun t m K => qt0 KK _ _ K FU _ _ _ _ _ _ _ _ _ _ _ _ _ _ _ _ _ _ _ _ _ _ _ _ _ _ _ _ _
def qvc : Shp := ⟨[(0, .one (.l (.sl 8))), (1, .one (.fn 65 [(1, 0)]))], [.box true (lk qa), .box true (lk qcy)]⟩
def qmr {R : Type} (KK : AV → Mem → Option R) := (fun v5 Ai Aj Ak Al Am An Ao Ap Au Av Aw A2 A3 A4 A5 Be Bf Bg Bh => KK (.tup [(.agg [(.bool A2), (.int .u64 A3), (.int .u64 A4), (.int .i64 A5), (.int .i64 Be), (.str Bf), (.str Bg), (.int .i64 Bh)]), (.bool v5)]) (qg [(some (.box true [(.bool Ai), (.int .u64 Aj), (.int .u64 Ak), (.int .i64 Al), (.int .i64 Am), (.str An), (.str Ao), (.int .i64 Ap)])), (some (.box true [(.bool Au), (.int .u64 Av), (.int .u64 Aw)])), (some (.box true [(.bool A2), (.int .u64 A3), (.int .u64 A4), (.int .i64 A5), (.int .i64 Be), (.str Bf), (.str Bg), (.int .i64 Bh)]))]))
def qg7 {R : Type}  (v0 : List AV) (Ai : Bool) (Aj Ak Al Am : Int) (An Ao : List UInt8) (Ap : Int) (Au : Bool) (Av Aw : Int) (kr : Bool → Bool → Int → Int → Int → Int → (List UInt8) → (List UInt8) → Int → Bool → Int → Int → Bool → Int → Int → Int → Int → (List UInt8) → (List UInt8) → Int → Option R) : Option R :=
  (qen v0 (v0.length : Int) (fun v7q1 b0_0q2 b0_1q3 b0_2q4 b0_3q5 b0_4q6 b0_5q7 b0_6q8 b0_7q9 b1_0q10 b1_1q11 b1_2q12 b2_0q13 b2_1q14 b2_2q15 b2_3q16 b2_4q17 b2_5q18 b2_6q19 b2_7q20 b3_0q21 b3_1q22 b3_2q23 b3_3q24 b3_4q25 b3_5q26 b3_6q27 b3_7q28 => (kr v7q1 b0_0q2 b0_1q3 b0_2q4 b0_3q5 b0_4q6 b0_5q7 b0_6q8 b0_7q9 b1_0q10 b1_1q11 b1_2q12 b3_0q21 b3_1q22 b3_2q23 b3_3q24 b3_4q25 b3_5q26 b3_6q27 b3_7q28)) FU false (0 : Int) Ai Aj Ak Al Am An Ao Ap Au Av Aw false (0 : Int) (0 : Int) (0 : Int) (0 : Int) ([] : List UInt8) ([] : List UInt8) (0 : Int) false (0 : Int) (0 : Int) (0 : Int) (0 : Int) ([] : List UInt8) ([] : List UInt8) (0 : Int))
def qfk {R : Type} := hull (qg7 (R := R))
theorem qms {R : Type} : qfk (R := R) = qg7 := qi _
def qc9 {R : Type} (KK : AV → Mem → Option R) : AC R :=
  .seq (.reg [ao 4 (.alloc [(.bool false), (.int .u64 0), (.int .u64 0), (.int .i64 0), (.int .i64 0), (.str []), (.str []), (.int .i64 0)]),
 ao 5 (.mv (.c (.bool false)))]) (.seq (.reg [ao 6 (.alloc [(.bool false), (.int .u64 0), (.int .u64 0), (.int .i64 0), (.int .i64 0), (.str []), (.str []), (.int .i64 0)])]) (.seq (.reg [ao 7 (.mv (.c (.bool false)))]) (.seq (.seq (.reg [ao 10 (.mv 0),
 ao 11 (.len false 10),
 ao 12 (.mv (.c (.int .i64 0)))]) (.block 0 (.seq (.view [.sel [1, 4, 6, 7, 10, 11, 12] [0, 1, 2, 3]]) (.sub (.loop (scOf (qco KK))) (qk5 KK))))) (.seq (.reg [ao 34 (.load true 8 6),
 ao 35 (.mv 7),
 an (.store 8 4 34),
 ao 5 (.mv 35)]) (.seq (.view [.sel [4, 5] [0, 1, 2]]) (.ret))))))
theorem qv8 {R : Type} (KK : AV → Mem → Option R) : AC.ok Try.prog (TIof Try.prog) 36 2 (qp [(.cell 4 true 8), .t 5] KK) (qc9 KK) := qm (zA (qt1 KK) trivial)
theorem qww {R : Type} (KK : AV → Mem → Option R) (v0 : List AV) (Ai : Bool) (Aj Ak Al Am : Int) (An Ao : List UInt8) (Ap : Int) (Au : Bool) (Av Aw : Int) : den 2 (qp [(.cell 4 true 8), .t 5] KK) (qc9 KK) (qh [(0, (.sl 8 v0)), (1, (.func 65 [(.ptr 1 0)]))]) (qg [(some (.box true (qd Ai Aj Ak Al Am An Ao Ap))), (some (.box true (qbj Au Av Aw)))]) (kend (qp [(.cell 4 true 8), .t 5] KK)) = qfk v0 Ai Aj Ak Al Am An Ao Ap Au Av Aw (qmr KK) := by
  rw [qms]; kernel_rfl
theorem qwx : cFn (TIof Try.prog) Try.f62 = some ⟨36, [(.cell 4 true 8), .t 5], scOf (qc9 (R := Unit) (fun _ _ => none))⟩ := by kernel_rfl
theorem qwy {R : Type} (KK : AV → Mem → Option R) : (qc9 KK).er = some (scOf (qc9 (R := Unit) (fun _ _ => none))) := by kernel_rfl
def qnh {R : Type} : List AV → Mem → (AV → Mem → Option R) → Option R := refE qvc fun xs m KK => qbu (bxC (m.s 1)) (qj (bxC (m.s 0)) (qfk (gL [(qk xs) 0] 0))) (qmr KK)
theorem qwz {R : Type} : qfx Try.prog 62 (qnh (R := R)) :=
  qly (ac := fun KK => qc9 KK) tabOk follows Try.func62 (by kernel_rfl) qwx (fun KK => qv8 KK) (fun KK => qwy KK) rfl fun xs m KK => qww KK _ _ _ _ _ _ _ _ _ _ _ _
def qv9 (z : AV) : Option (AV × Bool) := cond (qhy [(.st [.b, (.i .u64), (.i .u64), (.i .i64), (.i .i64), .s, .s, (.i .i64)]), (.one .b)] z) (some ((gC (tpL z) 0), aB (gC (tpL z) 1))) none
def qbno (r : AV × Bool) : AV := .tup [qll (.st [.b, (.i .u64), (.i .u64), (.i .i64), (.i .i64), .s, .s, (.i .i64)]) r.1, .bool r.2]
def qbnp : Shp := ⟨[(0, .one (.l (.sl 8))), (1, .st (lk qcy))], []⟩
def q0j (v0 : List AV) (Aq : Bool) (Ar As : Int) : Option (AV × Bool) :=
  (qfk v0 false (0 : Int) (0 : Int) (0 : Int) (0 : Int) ([] : List UInt8) ([] : List UInt8) (0 : Int) Aq Ar As fun v5q1 b0_0q2 b0_1q3 b0_2q4 b0_3q5 b0_4q6 b0_5q7 b0_6q8 b0_7q9 b1_0q10 b1_1q11 b1_2q12 b2_0q13 b2_1q14 b2_2q15 b2_3q16 b2_4q17 b2_5q18 b2_6q19 b2_7q20 => (some ((.agg [(.bool b2_0q13), (.int .u64 b2_1q14), (.int .u64 b2_2q15), (.int .i64 b2_3q16), (.int .i64 b2_4q17), (.str b2_5q18), (.str b2_6q19), (.int .i64 b2_7q20)]), v5q1)))
def qmj := hull q0j
theorem q8a : qmj = q0j := qi _
def q0k : AC (AV × Bool) :=
  .seq (.reg [ao 3 (.box 1),
 ao 4 (.alloc [(.bool false), (.int .u64 0), (.int .u64 0), (.int .i64 0), (.int .i64 0), (.str []), (.str []), (.int .i64 0)]),
 ao 5 (.mv (.c (.bool false)))]) (.seq (.reg [ao 6 (.mv 0),
 ao 7 (.mkf 65 [3]),
 .st (.sel [4, 6, 7] [1, 0]),
 .callr (po 8 (.call 62 [6, 7])) 62 qnh,
 ao 9 (.ext 8 0),
 ao 10 (.ext 8 1),
 an (.store 8 4 9),
 ao 5 (.mv 10)]) (.ret))
theorem qbqn : AC.ok Try.prog (TIof Try.prog) 11 0 (kret [(.cell 4 true 8), .t 5] qv9) q0k := qm (zA qwz trivial)
theorem qbsz (v0 : List AV) (Aq : Bool) (Ar As : Int) : den 0 (kret [(.cell 4 true 8), .t 5] qv9) q0k (qh [(0, (.sl 8 v0)), (1, .agg (qbj Aq Ar As))]) (qg []) (kend (kret [(.cell 4 true 8), .t 5] qv9)) = qmj v0 Aq Ar As := by
  rw [q8a]; kernel_rfl
theorem qbs0 : cFn (TIof Try.prog) Try.f28 = some ⟨11, [(.cell 4 true 8), .t 5], scOf q0k⟩ := by kernel_rfl
def qbs1 (xs : List AV) : Option (AV × Bool) := qbu ((qk xs) 1).cells (qmj (gL [(qk xs) 0] 0))
def qwa {R : Type} : List AV → (AV → Option R) → Option R := entF qbnp qbs1 qbno
theorem q94 {R : Type} : qc Try.prog 28 (qwa (R := R)) :=
  qba tabOk follows Try.func28 (by kernel_rfl) qbs0 (fun z r h => by
 obtain ⟨h1, h2⟩ := qo h
 cases h2
 exact (qez h1).symm) qbqn (qn (by kernel_rfl)) fun xs => qbsz _ _ _ _
def q9f : Shp := ⟨[(0, .st (lk qa)), (1, .one (.ptr 0 0)), (2, .one (.ptr 2 0))], [.box true (lk qf), .arr true 8, .box true (lk qa)]⟩
def qw0 {R : Type} (KK : AV → Mem → Option R) := (fun v4 Ai Aj Ak Al a1 A2 A3 A4 A5 Be Bf Bg Bh => KK (.bool v4) (qg [(some (.box true [(.bool Ai), (.int .u64 Aj), (.int .u64 Ak), (.int .i64 Al)])), (some (.arr true 8 a1)), (some (.box true [(.bool A2), (.int .u64 A3), (.int .u64 A4), (.int .i64 A5), (.int .i64 Be), (.str Bf), (.str Bg), (.int .i64 Bh)]))]))
def qqr {R : Type}  (Aa : Bool) (Ab Ac Ad Ae : Int) (Af Ag : List UInt8) (Ah : Int) (Ai : Bool) (Aj Ak Al : Int) (a1 : List AV) (A2 : Bool) (A3 A4 A5 Be : Int) (Bf Bg : List UInt8) (Bh : Int) (kr : Bool → Bool → Int → Int → Int → (List AV) → Bool → Int → Int → Int → Int → (List UInt8) → (List UInt8) → Int → Option R) : Option R :=
  (oB (qg4 Aa Ab Ac Ad Ai Aj Ak Al) fun r1 => (bif r1 then (oB (qg4 A2 A3 A4 A5 Aa Ab Ac Ad) fun r2 => (kr r2 Ai Aj Ak Al a1 A2 A3 A4 A5 Be Bf Bg Bh)) else (kr false Ai Aj Ak Al a1 A2 A3 A4 A5 Be Bf Bg Bh)))
def qkq {R : Type} := hull (qqr (R := R))
theorem qw1 {R : Type} : qkq (R := R) = qqr := qi _
def qf0 {R : Type} (KK : AV → Mem → Option R) : AC R :=
  .seq (.reg [ao 3 (.box 0),
 ao 4 (.mv (.c (.bool false)))]) (.seq (.reg [ao 5 (.fa 0 3),
 ao 6 (.load true 4 5),
 ao 7 (.load true 4 1),
 .call (po 8 (.call 64 [6, 7])) 64 qgt,
 ao 9 (.mv 8),
 ag 10 9 true (.fa 0 2),
 ag 11 9 true (.load true 4 10),
 ag 12 9 true (.fa 0 3),
 ag 13 9 true (.load true 4 12),
 .call (pg 14 9 true (.call 64 [11, 13])) 64 qgt,
 ao 15 (.pick 9 14 (.c (.bool false))),
 ao 4 (.mv 15)]) (.seq (.view [.sel [4] [0, 1, 2]]) (.ret)))
theorem qba3 {R : Type} (KK : AV → Mem → Option R) : AC.ok Try.prog (TIof Try.prog) 16 3 (qp [.t 4] KK) (qf0 KK) := qm (zA (qc.ok qme) (zA (qc.ok qme) trivial))
theorem qbcc {R : Type} (KK : AV → Mem → Option R) (Aa : Bool) (Ab Ac Ad Ae : Int) (Af Ag : List UInt8) (Ah : Int) (Ai : Bool) (Aj Ak Al : Int) (a1 : List AV) (A2 : Bool) (A3 A4 A5 Be : Int) (Bf Bg : List UInt8) (Bh : Int) : den 3 (qp [.t 4] KK) (qf0 KK) (qh [(0, .agg (qd Aa Ab Ac Ad Ae Af Ag Ah)), (1, (.ptr 0 0)), (2, (.ptr 2 0))]) (qg [(some (.box true (qb Ai Aj Ak Al))), (some (.arr true 8 a1)), (some (.box true (qd A2 A3 A4 A5 Be Bf Bg Bh)))]) (kend (qp [.t 4] KK)) = qkq Aa Ab Ac Ad Ae Af Ag Ah Ai Aj Ak Al a1 A2 A3 A4 A5 Be Bf Bg Bh (qw0 KK) := by
  rw [qw1]; kernel_rfl
theorem qbcd : cFn (TIof Try.prog) Try.f67 = some ⟨16, [.t 4], scOf (qf0 (R := Unit) (fun _ _ => none))⟩ := by kernel_rfl
theorem qbce {R : Type} (KK : AV → Mem → Option R) : (qf0 KK).er = some (scOf (qf0 (R := Unit) (fun _ _ => none))) := by kernel_rfl
def qyv {R : Type} : List AV → Mem → (AV → Mem → Option R) → Option R := refE q9f fun xs m KK => qj (bxC (m.s 2)) (qe (bxC (m.s 0)) (qj ((qk xs) 0).cells (qkq)) (arL (m.s 1))) (qw0 KK)
theorem qbcf {R : Type} : qfx Try.prog 67 (qyv (R := R)) :=
  qly (ac := fun KK => qf0 KK) tabOk follows Try.func67 (by kernel_rfl) qbcd (fun KK => qba3 KK) (fun KK => qbce KK) rfl fun xs m KK => qbcc KK _ _ _ _ _ _ _ _ _ _ _ _ _ _ _ _ _ _ _ _ _
def qbq {R : Type}  (K : Ex → Env → Mem → Option R) := (fun z_b0_0 z_b0_1 z_b0_2 z_b0_3 z_a1 z_b2_0 z_b2_1 z_b2_2 z_b2_3 z_b2_4 z_b2_5 z_b2_6 z_b2_7 => K (.exit 0) (qh []) (qg [(some (.box true (qb z_b0_0 z_b0_1 z_b0_2 z_b0_3))), (some (.arr true 8 z_a1)), (some (.box true (qd z_b2_0 z_b2_1 z_b2_2 z_b2_3 z_b2_4 z_b2_5 z_b2_6 z_b2_7)))]))
def qbt {R : Type} (KK : AV → Mem → Option R) := (fun v4 Ai Aj Ak Al a1 A2 A3 A4 A5 Be Bf Bg Bh => KK (.int .i64 v4) (qg [(some (.box true [(.bool Ai), (.int .u64 Aj), (.int .u64 Ak), (.int .i64 Al)])), (some (.arr true 8 a1)), (some (.box true [(.bool A2), (.int .u64 A3), (.int .u64 A4), (.int .i64 A5), (.int .i64 Be), (.str Bf), (.str Bg), (.int .i64 Bh)]))]))
def qhd : Shp := ⟨[(0, .one (.l (.sl 8))), (1, .one (.fn 67 [(0, 0), (2, 0)])), (7, .one (.l (.i .i64))), (8, .one (.l (.i .i64)))], [.box true (lk qf), .arr true 8, .box true (lk qa)]⟩
def qcp (v0 : List AV) (v7 v8 : Int) (Ai : Bool) (Aj Ak Al : Int) (a1 : List AV) (A2 : Bool) (A3 A4 A5 Be : Int) (Bf Bg : List UInt8) (Bh : Int) : Env := qh [(0, (.sl 8 v0)), (1, (.func 67 [(.ptr 0 0), (.ptr 2 0)])), (7, (.int .i64 v7)), (8, (.int .i64 v8))]
def qcq (v0 : List AV) (v7 v8 : Int) (Ai : Bool) (Aj Ak Al : Int) (a1 : List AV) (A2 : Bool) (A3 A4 A5 Be : Int) (Bf Bg : List UInt8) (Bh : Int) : Mem := qg [(some (.box true (qb Ai Aj Ak Al))), (some (.arr true 8 a1)), (some (.box true (qd A2 A3 A4 A5 Be Bf Bg Bh)))]
def qr {R : Type}  (v0 : List AV) (v7 v8 : Int) (Ai : Bool) (Aj Ak Al : Int) (a1 : List AV) (A2 : Bool) (A3 A4 A5 Be : Int) (Bf Bg : List UInt8) (Bh : Int) (next : Int → Bool → Int → Int → Int → (List AV) → Bool → Int → Int → Int → Int → (List UInt8) → (List UInt8) → Int → Option R) (kx0 : Bool → Int → Int → Int → (List AV) → Bool → Int → Int → Int → Int → (List UInt8) → (List UInt8) → Int → Option R) (kr : Int → Bool → Int → Int → Int → (List AV) → Bool → Int → Int → Int → Int → (List UInt8) → (List UInt8) → Int → Option R) : Option R :=
  (bif (decide (v8 < v7)) then (oB (ixB v0 v8) fun y1 => (bif fitC qa y1.cells then (qkq (gB y1.cells 0) (gI y1.cells 1) (gI y1.cells 2) (gI y1.cells 3) (gI y1.cells 4) (gS y1.cells 5) (gS y1.cells 6) (gI y1.cells 7) Ai Aj Ak Al a1 A2 A3 A4 A5 Be Bf Bg Bh fun v4q2 b0_0q3 b0_1q4 b0_2q5 b0_3q6 a1q7 b2_0q8 b2_1q9 b2_2q10 b2_3q11 b2_4q12 b2_5q13 b2_6q14 b2_7q15 => (bif v4q2 then (kr v8 b0_0q3 b0_1q4 b0_2q5 b0_3q6 a1q7 b2_0q8 b2_1q9 b2_2q10 b2_3q11 b2_4q12 b2_5q13 b2_6q14 b2_7q15) else (next (IntKind.i64.wrap (v8 + (1 : Int))) b0_0q3 b0_1q4 b0_2q5 b0_3q6 a1q7 b2_0q8 b2_1q9 b2_2q10 b2_3q11 b2_4q12 b2_5q13 b2_6q14 b2_7q15))) else none)) else (kx0 Ai Aj Ak Al a1 A2 A3 A4 A5 Be Bf Bg Bh))
def qbx {R : Type}  (v0 : List AV) (v7 : Int) (kx0 : Bool → Int → Int → Int → (List AV) → Bool → Int → Int → Int → Int → (List UInt8) → (List UInt8) → Int → Option R) (kr : Int → Bool → Int → Int → Int → (List AV) → Bool → Int → Int → Int → Int → (List UInt8) → (List UInt8) → Int → Option R) : Nat → Int → Bool → Int → Int → Int → (List AV) → Bool → Int → Int → Int → Int → (List UInt8) → (List UInt8) → Int → Option R
  | 0 => (fun _ _ _ _ _ _ _ _ _ _ _ _ _ _ => none)
  | n + 1 => (fun v8 Ai Aj Ak Al a1 A2 A3 A4 A5 Be Bf Bg Bh => qr v0 v7 v8 Ai Aj Ak Al a1 A2 A3 A4 A5 Be Bf Bg Bh (qbx v0 v7 kx0 kr n) kx0 kr)
def qb3 {R : Type} := hull (qbx (R := R))
theorem qdq {R : Type} : qb3 (R := R) = qbx := qi _
def qt {R : Type} (KK : AV → Mem → Option R) : AC R :=
  .seq (.reg [ao 9 (.bin .lss 8 7)]) (.seq (.cond 9 (.skip) (.seq (.view [.sel [] [0, 1, 2]]) (.exit 0))) (.seq (.block 1 (.seq (.reg [ao 10 (.mv 8),
 ao 5 (.mv 10)]) (.seq (.reg [ao 11 (.mv 1),
 ao 12 (.mv 0),
 ao 13 (.mv 5),
 ao 14 (.ia 8 12 13),
 .st (.etac 14 qa),
 ao 15 (.load true 8 14),
 .st (.sel [0, 1, 5, 7, 8, 11, 15] [0, 1, 2]),
 .callr (po 16 (.callv 11 [15])) 67 qyv]) (.cond 16 (.seq (.reg [ao 17 (.mv 5),
 ao 4 (.mv 17)]) (.seq (.view [.sel [4] [0, 1, 2]]) (.ret))) (.skip))))) (.seq (.reg [ao 18 (.bin .add 8 (.c (.int .i64 1))),
 ao 8 (.mv 18)]) (.view [.sel [0, 1, 7, 8] [0, 1, 2]]))))
theorem qhq {R : Type} (KK : AV → Mem → Option R) : AC.ok Try.prog (TIof Try.prog) 19 3 (qp [.t 4] KK) (qt KK) := qm (zA qbcf trivial)
theorem qhe {R : Type} (KK : AV → Mem → Option R) (v0 : List AV) (v7 v8 : Int) (Ai : Bool) (Aj Ak Al : Int) (a1 : List AV) (A2 : Bool) (A3 A4 A5 Be : Int) (Bf Bg : List UInt8) (Bh : Int) (K : Ex → Env → Mem → Option R) : den 3 (qp [.t 4] KK) (qt KK) (qcp v0 v7 v8 Ai Aj Ak Al a1 A2 A3 A4 A5 Be Bf Bg Bh) (qcq v0 v7 v8 Ai Aj Ak Al a1 A2 A3 A4 A5 Be Bf Bg Bh) K = qr v0 v7 v8 Ai Aj Ak Al a1 A2 A3 A4 A5 Be Bf Bg Bh (fun z_v8 z_b0_0 z_b0_1 z_b0_2 z_b0_3 z_a1 z_b2_0 z_b2_1 z_b2_2 z_b2_3 z_b2_4 z_b2_5 z_b2_6 z_b2_7 => K .norm (qcp v0 v7 z_v8 z_b0_0 z_b0_1 z_b0_2 z_b0_3 z_a1 z_b2_0 z_b2_1 z_b2_2 z_b2_3 z_b2_4 z_b2_5 z_b2_6 z_b2_7) (qcq v0 v7 z_v8 z_b0_0 z_b0_1 z_b0_2 z_b0_3 z_a1 z_b2_0 z_b2_1 z_b2_2 z_b2_3 z_b2_4 z_b2_5 z_b2_6 z_b2_7)) (qbq K) (qbt KK) := by kernel_rfl
theorem qib {R : Type} (KK : AV → Mem → Option R) (v0 : List AV) (v7 : Int) (K : Ex → Env → Mem → Option R) : ∀ (n : Nat) (v8 : Int) (Ai : Bool) (Aj Ak Al : Int) (a1 : List AV) (A2 : Bool) (A3 A4 A5 Be : Int) (Bf Bg : List UInt8) (Bh : Int), qep (den 3 (qp [.t 4] KK) (qt KK)) n (qcp v0 v7 v8 Ai Aj Ak Al a1 A2 A3 A4 A5 Be Bf Bg Bh) (qcq v0 v7 v8 Ai Aj Ak Al a1 A2 A3 A4 A5 Be Bf Bg Bh) K = qb3 v0 v7 (qbq K) (qbt KK) n v8 Ai Aj Ak Al a1 A2 A3 A4 A5 Be Bf Bg Bh := by
  rw [qdq]
  intro n
  induction n with
  | zero => intros; rfl
  | succ n ih =>
 intro v8 Ai Aj Ak Al a1 A2 A3 A4 A5 Be Bf Bg Bh
 exact (qhe KK v0 v7 v8 Ai Aj Ak Al a1 A2 A3 A4 A5 Be Bf Bg Bh (itK (den 3 (qp [.t 4] KK) (qt KK)) n K)).trans (congrArg (fun q => qr v0 v7 v8 Ai Aj Ak Al a1 A2 A3 A4 A5 Be Bf Bg Bh q (qbq K) (qbt KK)) (funext fun v8 => funext fun Ai => funext fun Aj => funext fun Ak => funext fun Al => funext fun a1 => funext fun A2 => funext fun A3 => funext fun A4 => funext fun A5 => funext fun Be => funext fun Bf => funext fun Bg => funext fun Bh => ih v8 Ai Aj Ak Al a1 A2 A3 A4 A5 Be Bf Bg Bh))
def qdx {R : Type} (KK : AV → Mem → Option R) := subE (R := R) qhd fun t m K => qj (bxC (m.s 2)) (qe (bxC (m.s 0)) (qb3 (gL [t 0] 0) (gI [t 7] 0) (qbq K) (qbt KK) FU (gI [t 8] 0)) (arL (m.s 1)))
theorem qic {R : Type} (KK : AV → Mem → Option R) : qcb Try.prog (TIof Try.prog) 19 3 (qp [.t 4] KK) (.loop (scOf (qt KK))) (qdx KK) :=
  qdt tabOk follows (qhq KK) (qn (by kernel_rfl)) fun t m K => qib KK _ _ K FU _ _ _ _ _ _ _ _ _ _ _ _ _ _
def qip : Shp := ⟨[(0, .one (.l (.sl 8))), (1, .one (.fn 67 [(0, 0), (2, 0)]))], [.box true (lk qf), .arr true 8, .box true (lk qa)]⟩
def qeb {R : Type} (KK : AV → Mem → Option R) := (fun v4 Ai Aj Ak Al a1 A2 A3 A4 A5 Be Bf Bg Bh => KK (.int .i64 v4) (qg [(some (.box true [(.bool Ai), (.int .u64 Aj), (.int .u64 Ak), (.int .i64 Al)])), (some (.arr true 8 a1)), (some (.box true [(.bool A2), (.int .u64 A3), (.int .u64 A4), (.int .i64 A5), (.int .i64 Be), (.str Bf), (.str Bg), (.int .i64 Bh)]))]))
def qc4 {R : Type}  (v0 : List AV) (Ai : Bool) (Aj Ak Al : Int) (a1 : List AV) (A2 : Bool) (A3 A4 A5 Be : Int) (Bf Bg : List UInt8) (Bh : Int) (kr : Int → Bool → Int → Int → Int → (List AV) → Bool → Int → Int → Int → Int → (List UInt8) → (List UInt8) → Int → Option R) : Option R :=
  (qb3 v0 (v0.length : Int) (fun b0_0q1 b0_1q2 b0_2q3 b0_3q4 a1q5 b2_0q6 b2_1q7 b2_2q8 b2_3q9 b2_4q10 b2_5q11 b2_6q12 b2_7q13 => (kr (-1 : Int) b0_0q1 b0_1q2 b0_2q3 b0_3q4 a1q5 b2_0q6 b2_1q7 b2_2q8 b2_3q9 b2_4q10 b2_5q11 b2_6q12 b2_7q13)) kr FU (0 : Int) Ai Aj Ak Al a1 A2 A3 A4 A5 Be Bf Bg Bh)
def qbm {R : Type} := hull (qc4 (R := R))
theorem qec {R : Type} : qbm (R := R) = qc4 := qi _
def qbb {R : Type} (KK : AV → Mem → Option R) : AC R :=
  .seq (.reg [ao 4 (.mv (.c (.int .i64 0)))]) (.seq (.seq (.reg [ao 6 (.mv 0),
 ao 7 (.len false 6),
 ao 8 (.mv (.c (.int .i64 0)))]) (.block 0 (.seq (.view [.sel [0, 1, 7, 8] [0, 1, 2]]) (.sub (.loop (scOf (qt KK))) (qdx KK))))) (.seq (.reg [ao 4 (.mv (.c (.int .i64 (-1))))]) (.seq (.view [.sel [4] [0, 1, 2]]) (.ret))))
theorem qi1 {R : Type} (KK : AV → Mem → Option R) : AC.ok Try.prog (TIof Try.prog) 19 3 (qp [.t 4] KK) (qbb KK) := qm (zA (qic KK) trivial)
theorem qjr {R : Type} (KK : AV → Mem → Option R) (v0 : List AV) (Ai : Bool) (Aj Ak Al : Int) (a1 : List AV) (A2 : Bool) (A3 A4 A5 Be : Int) (Bf Bg : List UInt8) (Bh : Int) : den 3 (qp [.t 4] KK) (qbb KK) (qh [(0, (.sl 8 v0)), (1, (.func 67 [(.ptr 0 0), (.ptr 2 0)]))]) (qg [(some (.box true (qb Ai Aj Ak Al))), (some (.arr true 8 a1)), (some (.box true (qd A2 A3 A4 A5 Be Bf Bg Bh)))]) (kend (qp [.t 4] KK)) = qbm v0 Ai Aj Ak Al a1 A2 A3 A4 A5 Be Bf Bg Bh (qeb KK) := by
  rw [qec]; kernel_rfl
theorem qjs : cFn (TIof Try.prog) Try.f88 = some ⟨19, [.t 4], scOf (qbb (R := Unit) (fun _ _ => none))⟩ := by kernel_rfl
theorem qjt {R : Type} (KK : AV → Mem → Option R) : (qbb KK).er = some (scOf (qbb (R := Unit) (fun _ _ => none))) := by kernel_rfl
def qei {R : Type} : List AV → Mem → (AV → Mem → Option R) → Option R := refE qip fun xs m KK => qj (bxC (m.s 2)) (qe (bxC (m.s 0)) (qbm (gL [(qk xs) 0] 0)) (arL (m.s 1))) (qeb KK)
theorem qju {R : Type} : qfx Try.prog 88 (qei (R := R)) :=
  qly (ac := fun KK => qbb KK) tabOk follows Try.func88 (by kernel_rfl) qjs (fun KK => qi1 KK) (fun KK => qjt KK) rfl fun xs m KK => qjr KK _ _ _ _ _ _ _ _ _ _ _ _ _ _
def qhf : Shp := ⟨[(0, .one (.l (.sl 8))), (1, .one (.fn 67 [(0, 0), (2, 0)]))], [.box true (lk qf), .arr true 8, .box true (lk qa)]⟩
def qdr {R : Type} (KK : AV → Mem → Option R) := (fun v4 Ai Aj Ak Al a1 A2 A3 A4 A5 Be Bf Bg Bh => KK (.bool v4) (qg [(some (.box true [(.bool Ai), (.int .u64 Aj), (.int .u64 Ak), (.int .i64 Al)])), (some (.arr true 8 a1)), (some (.box true [(.bool A2), (.int .u64 A3), (.int .u64 A4), (.int .i64 A5), (.int .i64 Be), (.str Bf), (.str Bg), (.int .i64 Bh)]))]))
def qct {R : Type}  (v0 : List AV) (Ai : Bool) (Aj Ak Al : Int) (a1 : List AV) (A2 : Bool) (A3 A4 A5 Be : Int) (Bf Bg : List UInt8) (Bh : Int) (kr : Bool → Bool → Int → Int → Int → (List AV) → Bool → Int → Int → Int → Int → (List UInt8) → (List UInt8) → Int → Option R) : Option R :=
  (qbm v0 Ai Aj Ak Al a1 A2 A3 A4 A5 Be Bf Bg Bh fun v4q1 b0_0q2 b0_1q3 b0_2q4 b0_3q5 a1q6 b2_0q7 b2_1q8 b2_2q9 b2_3q10 b2_4q11 b2_5q12 b2_6q13 b2_7q14 => (kr (decide (v4q1 ≥ (0 : Int))) b0_0q2 b0_1q3 b0_2q4 b0_3q5 a1q6 b2_0q7 b2_1q8 b2_2q9 b2_3q10 b2_4q11 b2_5q12 b2_6q13 b2_7q14))
def qb4 {R : Type} := hull (qct (R := R))
theorem qds {R : Type} : qb4 (R := R) = qct := qi _
def qu {R : Type} (KK : AV → Mem → Option R) : AC R :=
  .seq (.reg [ao 4 (.mv (.c (.bool false)))]) (.seq (.reg [ao 5 (.mv 0),
 ao 6 (.mv 1),
 .st (.sel [5, 6] [0, 1, 2]),
 .callr (po 7 (.call 88 [5, 6])) 88 qei,
 ao 8 (.bin .geq 7 (.c (.int .i64 0))),
 ao 4 (.mv 8)]) (.seq (.view [.sel [4] [0, 1, 2]]) (.ret)))
theorem qhr {R : Type} (KK : AV → Mem → Option R) : AC.ok Try.prog (TIof Try.prog) 9 3 (qp [.t 4] KK) (qu KK) := qm (zA qju trivial)
theorem qid {R : Type} (KK : AV → Mem → Option R) (v0 : List AV) (Ai : Bool) (Aj Ak Al : Int) (a1 : List AV) (A2 : Bool) (A3 A4 A5 Be : Int) (Bf Bg : List UInt8) (Bh : Int) : den 3 (qp [.t 4] KK) (qu KK) (qh [(0, (.sl 8 v0)), (1, (.func 67 [(.ptr 0 0), (.ptr 2 0)]))]) (qg [(some (.box true (qb Ai Aj Ak Al))), (some (.arr true 8 a1)), (some (.box true (qd A2 A3 A4 A5 Be Bf Bg Bh)))]) (kend (qp [.t 4] KK)) = qb4 v0 Ai Aj Ak Al a1 A2 A3 A4 A5 Be Bf Bg Bh (qdr KK) := by
  rw [qds]; kernel_rfl
theorem qie : cFn (TIof Try.prog) Try.f68 = some ⟨9, [.t 4], scOf (qu (R := Unit) (fun _ _ => none))⟩ := by kernel_rfl
theorem qif {R : Type} (KK : AV → Mem → Option R) : (qu KK).er = some (scOf (qu (R := Unit) (fun _ _ => none))) := by kernel_rfl
def qdy {R : Type} : List AV → Mem → (AV → Mem → Option R) → Option R := refE qhf fun xs m KK => qj (bxC (m.s 2)) (qe (bxC (m.s 0)) (qb4 (gL [(qk xs) 0] 0)) (arL (m.s 1))) (qdr KK)
theorem qig {R : Type} : qfx Try.prog 68 (qdy (R := R)) :=
  qly (ac := fun KK => qu KK) tabOk follows Try.func68 (by kernel_rfl) qie (fun KK => qhr KK) (fun KK => qif KK) rfl fun xs m KK => qid KK _ _ _ _ _ _ _ _ _ _ _ _ _ _
def qw2  (v0 v9 : List AV) (v10 v11 : Int) (K : Ex → Env → Mem → Option (List AV)) := (fun z_v25 z_b0_0 z_b0_1 z_b0_2 z_b0_3 z_a1 z_b2_0 z_b2_1 z_b2_2 z_b2_3 z_b2_4 z_b2_5 z_b2_6 z_b2_7 => K .norm (qh [(0, (.sl 8 v0)), (3, (.ptr 0 0)), (5, (.own 1 z_a1.length)), (7, (.ptr 2 0)), (9, (.sl 8 v9)), (10, (.int .i64 v10)), (11, (.int .i64 v11)), (25, (.bool z_v25))]) (qg [(some (.box true (qb z_b0_0 z_b0_1 z_b0_2 z_b0_3))), (some (.arr true 8 z_a1)), (some (.box true (qd z_b2_0 z_b2_1 z_b2_2 z_b2_3 z_b2_4 z_b2_5 z_b2_6 z_b2_7)))]))
def q9g : Shp := ⟨[(0, .one (.l (.sl 8))), (3, .one (.ptr 0 0)), (5, .one (.own 1)), (7, .one (.ptr 2 0)), (8, .one (.fn 67 [(0, 0), (2, 0)])), (9, .one (.l (.sl 8))), (10, .one (.l (.i .i64))), (11, .one (.l (.i .i64)))], [.box true (lk qf), .arr true 8, .box true (lk qa)]⟩
def qqs  (v0 v9 : List AV) (v10 v11 : Int) (Ai : Bool) (Aj Ak Al : Int) (a1 : List AV) (A2 : Bool) (A3 A4 A5 Be : Int) (Bf Bg : List UInt8) (Bh : Int) (kn : Bool → Bool → Int → Int → Int → (List AV) → Bool → Int → Int → Int → Int → (List UInt8) → (List UInt8) → Int → Option (List AV)) : Option (List AV) :=
  (oB (qg4 A2 A3 A4 A5 Ai Aj Ak Al) fun r1 => (bif r1 then (qb4 v0 Ai Aj Ak Al a1 A2 A3 A4 A5 Be Bf Bg Bh fun v4q2 b0_0q3 b0_1q4 b0_2q5 b0_3q6 a1q7 b2_0q8 b2_1q9 b2_2q10 b2_3q11 b2_4q12 b2_5q13 b2_6q14 b2_7q15 => (bif hd a1q7 a1.length then (kn (!v4q2) b0_0q3 b0_1q4 b0_2q5 b0_3q6 a1q7 b2_0q8 b2_1q9 b2_2q10 b2_3q11 b2_4q12 b2_5q13 b2_6q14 b2_7q15) else none)) else (bif hd a1 a1.length then (kn false Ai Aj Ak Al a1 A2 A3 A4 A5 Be Bf Bg Bh) else none)))
def qkr := hull (qqs)
theorem qw3 : qkr = qqs := qi _
def ql6 : AC (List AV) :=
  .seq (.reg [ao 16 (.fa 0 7),
 ao 17 (.load true 4 16),
 ao 18 (.load true 4 3),
 .call (po 19 (.call 64 [17, 18])) 64 qgt,
 ao 20 (.mv 19),
 ag 21 20 true (.mv 0),
 ag 22 20 true (.mv 8),
 .stg 20 true (.sel [0, 3, 5, 7, 9, 10, 11, 20, 21, 22] [0, 1, 2]),
 .callr (pg 23 20 true (.call 68 [21, 22])) 68 qdy,
 ag 24 20 true (.un .not 23),
 ao 25 (.pick 20 24 (.c (.bool false)))]) (.view [.hd 5, .sel [0, 3, 5, 7, 9, 10, 11, 25] [0, 1, 2]])
theorem qba4 : AC.ok Try.prog (TIof Try.prog) 32 0 (kret [.t 4] (decF true 8)) ql6 := qm (zA (qc.ok qme) (zA qig trivial))
theorem qbcg (v0 v9 : List AV) (v10 v11 : Int) (Ai : Bool) (Aj Ak Al : Int) (a1 : List AV) (A2 : Bool) (A3 A4 A5 Be : Int) (Bf Bg : List UInt8) (Bh : Int) (K : Ex → Env → Mem → Option (List AV)) : den 0 (kret [.t 4] (decF true 8)) ql6 (qh [(0, (.sl 8 v0)), (3, (.ptr 0 0)), (5, (.own 1 a1.length)), (7, (.ptr 2 0)), (8, (.func 67 [(.ptr 0 0), (.ptr 2 0)])), (9, (.sl 8 v9)), (10, (.int .i64 v10)), (11, (.int .i64 v11))]) (qg [(some (.box true (qb Ai Aj Ak Al))), (some (.arr true 8 a1)), (some (.box true (qd A2 A3 A4 A5 Be Bf Bg Bh)))]) K = qkr v0 v9 v10 v11 Ai Aj Ak Al a1 A2 A3 A4 A5 Be Bf Bg Bh (qw2 v0 v9 v10 v11 K) := by
  rw [qw3]; kernel_rfl
def qyw := subE (R := (List AV)) q9g fun t m K => qj (bxC (m.s 2)) (qe (bxC (m.s 0)) (qkr (gL [t 0] 0) (gL [t 9] 0) (gI [t 10] 0) (gI [t 11] 0)) (arL (m.s 1))) (qw2 (gL [t 0] 0) (gL [t 9] 0) (gI [t 10] 0) (gI [t 11] 0) K)
theorem qbch : qcb Try.prog (TIof Try.prog) 32 0 (kret [.t 4] (decF true 8)) (scOf ql6) (qyw) :=
  qfa tabOk follows (qba4) (qn (by kernel_rfl)) fun t m K => qbcg _ _ _ _ _ _ _ _ _ _ _ _ _ _ _ _ _ K
def qlh  (K : Ex → Env → Mem → Option (List AV)) := (fun z_a0 => K (.exit 0) (qh [(5, (.own 0 z_a0.length))]) (qg [(some (.arr true 8 z_a0))]))
def qba5 : Shp := ⟨[(0, .one (.l (.sl 8))), (3, .one (.ptr 0 0)), (5, .one (.own 1)), (9, .one (.l (.sl 8))), (10, .one (.l (.i .i64))), (11, .one (.l (.i .i64)))], [.box true (lk qf), .arr true 8]⟩
def qqt (v0 v9 : List AV) (v10 v11 : Int) (Ai : Bool) (Aj Ak Al : Int) (a1 : List AV) : Env := qh [(0, (.sl 8 v0)), (3, (.ptr 0 0)), (5, (.own 1 a1.length)), (9, (.sl 8 v9)), (10, (.int .i64 v10)), (11, (.int .i64 v11))]
def qqu (v0 v9 : List AV) (v10 v11 : Int) (Ai : Bool) (Aj Ak Al : Int) (a1 : List AV) : Mem := qg [(some (.box true (qb Ai Aj Ak Al))), (some (.arr true 8 a1))]
def qgk  (v0 v9 : List AV) (v10 v11 : Int) (Ai : Bool) (Aj Ak Al : Int) (a1 : List AV) (next : Int → Bool → Int → Int → Int → (List AV) → Option (List AV)) (kx0 : (List AV) → Option (List AV)) : Option (List AV) :=
  (bif (decide (v11 < v10)) then (oB (ixB v9 v11) fun y1 => (bif fitC qa y1.cells then (bif (hd a1 (a1.length) && true) then (qkr v0 v9 v10 v11 Ai Aj Ak Al a1 (gB y1.cells 0) (gI y1.cells 1) (gI y1.cells 2) (gI y1.cells 3) (gI y1.cells 4) (gS y1.cells 5) (gS y1.cells 6) (gI y1.cells 7) (fun v25q2 b0_0q3 b0_1q4 b0_2q5 b0_3q6 a1q7 b2_0q8 b2_1q9 b2_2q10 b2_3q11 b2_4q12 b2_5q13 b2_6q14 b2_7q15 => (bif v25q2 then (bif hd a1q7 a1q7.length then (bif hd ([(.agg [(.bool b2_0q8), (.int .u64 b2_1q9), (.int .u64 b2_2q10), (.int .i64 b2_3q11), (.int .i64 b2_4q12), (.str b2_5q13), (.str b2_6q14), (.int .i64 b2_7q15)])] : List AV) (([(.agg [(.bool b2_0q8), (.int .u64 b2_1q9), (.int .u64 b2_2q10), (.int .i64 b2_3q11), (.int .i64 b2_4q12), (.str b2_5q13), (.str b2_6q14), (.int .i64 b2_7q15)])] : List AV).length) then (bif decide ((a1q7.length + ([(.agg [(.bool b2_0q8), (.int .u64 b2_1q9), (.int .u64 b2_2q10), (.int .i64 b2_3q11), (.int .i64 b2_4q12), (.str b2_5q13), (.str b2_6q14), (.int .i64 b2_7q15)])] : List AV).length) * 80 ≤ 140737488355328) then (next (IntKind.i64.wrap (v11 + (1 : Int))) b0_0q3 b0_1q4 b0_2q5 b0_3q6 (a1q7 ++ ([(.agg [(.bool b2_0q8), (.int .u64 b2_1q9), (.int .u64 b2_2q10), (.int .i64 b2_3q11), (.int .i64 b2_4q12), (.str b2_5q13), (.str b2_6q14), (.int .i64 b2_7q15)])] : List AV))) else none) else none) else none) else (next (IntKind.i64.wrap (v11 + (1 : Int))) b0_0q3 b0_1q4 b0_2q5 b0_3q6 a1q7)))) else none) else none)) else (kx0 a1))
def qm3  (v0 v9 : List AV) (v10 : Int) (kx0 : (List AV) → Option (List AV)) : Nat → Int → Bool → Int → Int → Int → (List AV) → Option (List AV)
  | 0 => (fun _ _ _ _ _ _ => none)
  | n + 1 => (fun v11 Ai Aj Ak Al a1 => qgk v0 v9 v10 v11 Ai Aj Ak Al a1 (qm3 v0 v9 v10 kx0 n) kx0)
def qo4 := hull (qm3)
theorem qyx : qo4 = qm3 := qi _
def qgl : AC (List AV) :=
  .seq (.reg [ao 12 (.bin .lss 11 10)]) (.seq (.cond 12 (.skip) (.seq (.view [.sel [5] [1]]) (.exit 0))) (.seq (.block 1 (.seq (.reg [ao 13 (.ia 8 9 11),
 .st (.etac 13 qa),
 ao 14 (.load true 8 13),
 ao 7 (.alloc [(.bool false), (.int .u64 0), (.int .u64 0), (.int .i64 0), (.int .i64 0), (.str []), (.str []), (.int .i64 0)]),
 an (.store 8 7 14)]) (.seq (.reg [ao 15 (.mkf 67 [3, 7]),
 ao 8 (.mv 15)]) (.seq (.seq (.view [.sel [0, 3, 5, 7, 8, 9, 10, 11] [0, 1, 2]]) (.sub (scOf ql6) qyw)) (.cond 25 (.reg [ao 26 (.mv 5),
 ao 27 (.load true 8 7),
 ao 28 (.bsl 8 [27]),
 ao 29 (.app 8 80 26 28),
 ao 5 (.mv 29)]) (.skip)))))) (.seq (.reg [ao 30 (.bin .add 11 (.c (.int .i64 1))),
 ao 11 (.mv 30)]) (.view [.sel [0, 3, 5, 9, 10, 11] [0, 1]]))))
theorem qbci : AC.ok Try.prog (TIof Try.prog) 32 0 (kret [.t 4] (decF true 8)) qgl := qm (zA qbch trivial)
theorem qba6 (v0 v9 : List AV) (v10 v11 : Int) (Ai : Bool) (Aj Ak Al : Int) (a1 : List AV) (K : Ex → Env → Mem → Option (List AV)) : den 0 (kret [.t 4] (decF true 8)) qgl (qqt v0 v9 v10 v11 Ai Aj Ak Al a1) (qqu v0 v9 v10 v11 Ai Aj Ak Al a1) K = qgk v0 v9 v10 v11 Ai Aj Ak Al a1 (fun z_v11 z_b0_0 z_b0_1 z_b0_2 z_b0_3 z_a1 => K .norm (qqt v0 v9 v10 z_v11 z_b0_0 z_b0_1 z_b0_2 z_b0_3 z_a1) (qqu v0 v9 v10 z_v11 z_b0_0 z_b0_1 z_b0_2 z_b0_3 z_a1)) (qlh K) := by kernel_rfl
theorem qbel (v0 v9 : List AV) (v10 : Int) (K : Ex → Env → Mem → Option (List AV)) : ∀ (n : Nat) (v11 : Int) (Ai : Bool) (Aj Ak Al : Int) (a1 : List AV), qep (den 0 (kret [.t 4] (decF true 8)) qgl) n (qqt v0 v9 v10 v11 Ai Aj Ak Al a1) (qqu v0 v9 v10 v11 Ai Aj Ak Al a1) K = qo4 v0 v9 v10 (qlh K) n v11 Ai Aj Ak Al a1 := by
  rw [qyx]
  intro n
  induction n with
  | zero => intros; rfl
  | succ n ih =>
 intro v11 Ai Aj Ak Al a1
 exact (qba6 v0 v9 v10 v11 Ai Aj Ak Al a1 (itK (den 0 (kret [.t 4] (decF true 8)) qgl) n K)).trans (congrArg (fun q => qgk v0 v9 v10 v11 Ai Aj Ak Al a1 q (qlh K)) (funext fun v11 => funext fun Ai => funext fun Aj => funext fun Ak => funext fun Al => funext fun a1 => ih v11 Ai Aj Ak Al a1))
def q0l := subE (R := (List AV)) qba5 fun t m K => qe (bxC (m.s 0)) (qo4 (gL [t 0] 0) (gL [t 9] 0) (gI [t 10] 0) (qlh K) FU (gI [t 11] 0)) (arL (m.s 1))
theorem qbem : qcb Try.prog (TIof Try.prog) 32 0 (kret [.t 4] (decF true 8)) (.loop (scOf qgl)) (q0l) :=
  qdt tabOk follows (qbci) (qn (by kernel_rfl)) fun t m K => qbel _ _ _ K FU _ _ _ _ _ _
def qbhc : Shp := ⟨[(0, .one (.l (.sl 8))), (1, .st (lk qf))], []⟩
def qwb (v0 : List AV) (Aq : Bool) (Ar As At : Int) : Option (List AV) :=
  (bif (hd ([] : List AV) (([] : List AV).length) && true) then (qo4 v0 v0 (v0.length : Int) (fun a0q1 => (bif hd a0q1 a0q1.length then (some a0q1) else none)) FU (0 : Int) Aq Ar As At ([] : List AV)) else none)
def qi2 := hull qwb
theorem q4i : qi2 = qwb := qi _
def qwc : AC (List AV) :=
  .seq (.reg [ao 3 (.box 1),
 ao 4 (.mv (.c .nils))]) (.seq (.reg [ao 5 (.mv (.c .nils))]) (.seq (.seq (.reg [ao 9 (.mv 0),
 ao 10 (.len false 9),
 ao 11 (.mv (.c (.int .i64 0)))]) (.block 0 (.seq (.view [.own 5 8, .sel [0, 3, 5, 9, 10, 11] [0, 1]]) (.sub (.loop (scOf qgl)) q0l)))) (.seq (.reg [ao 31 (.mv 5),
 ao 4 (.mv 31)]) (.ret))))
theorem qbjm : AC.ok Try.prog (TIof Try.prog) 32 0 (kret [.t 4] (decF true 8)) qwc := qm (zA qbem trivial)
theorem qbnq (v0 : List AV) (Aq : Bool) (Ar As At : Int) : den 0 (kret [.t 4] (decF true 8)) qwc (qh [(0, (.sl 8 v0)), (1, .agg (qb Aq Ar As At))]) (qg []) (kend (kret [.t 4] (decF true 8))) = qi2 v0 Aq Ar As At := by
  rw [q4i]; kernel_rfl
theorem qbnr : cFn (TIof Try.prog) Try.f30 = some ⟨32, [.t 4], scOf qwc⟩ := by kernel_rfl
def qbns (xs : List AV) : Option (List AV) := qe ((qk xs) 1).cells (qi2 (gL [(qk xs) 0] 0))
def qs4 {R : Type} : List AV → (AV → Option R) → Option R := entF qbhc qbns (AV.fr true 8)
theorem q6f {R : Type} : qc Try.prog 30 (qs4 (R := R)) :=
  qba tabOk follows Try.func30 (by kernel_rfl) qbnr hdeF qbjm (qn (by kernel_rfl)) fun xs => qbnq _ _ _ _ _
def qbjn : Shp := ⟨[(0, .st (lk qf)), (1, .st (lk qf))], []⟩
def qyc (Aa : Bool) (Ab Ac Ad : Int) (Aq : Bool) (Ar As At : Int) : Option Bool :=
  (oB (qjw Aa Ab Ac Ad Aq Ar As At) fun r1 => (bif r1 then (some true) else (oB (qjw Aq Ar As At Aa Ab Ac Ad) fun r2 => (some r2))))
def qqv := hull qyc
theorem q6g : qqv = qyc := qi _
def qyd : AC Bool :=
  .seq (.reg [ao 2 (.box 0),
 ao 3 (.box 1),
 ao 4 (.mv (.c (.bool false)))]) (.seq (.reg [ao 5 (.load true 4 2),
 ao 6 (.load true 4 3),
 .call (po 7 (.call 37 [5, 6])) 37 qmm,
 ao 8 (.mv 7),
 ag 9 8 false (.load true 4 3),
 ag 10 8 false (.load true 4 2),
 .call (pg 11 8 false (.call 37 [9, 10])) 37 qmm,
 ao 12 (.pick 8 (.c (.bool true)) 11),
 ao 4 (.mv 12)]) (.ret))
theorem qbnt : AC.ok Try.prog (TIof Try.prog) 13 0 (kret [.t 4] decB) qyd := qm (zA (qc.ok qti) (zA (qc.ok qti) trivial))
theorem qbqo (Aa : Bool) (Ab Ac Ad : Int) (Aq : Bool) (Ar As At : Int) : den 0 (kret [.t 4] decB) qyd (qh [(0, .agg (qb Aa Ab Ac Ad)), (1, .agg (qb Aq Ar As At))]) (qg []) (kend (kret [.t 4] decB)) = qqv Aa Ab Ac Ad Aq Ar As At := by
  rw [q6g]; kernel_rfl
theorem qbqp : cFn (TIof Try.prog) Try.f36 = some ⟨13, [.t 4], scOf qyd⟩ := by kernel_rfl
def qbqq (xs : List AV) : Option Bool := qe ((qk xs) 1).cells (qe ((qk xs) 0).cells (qqv))
def q4j {R : Type} : List AV → (AV → Option R) → Option R := entF qbjn qbqq AV.bool
theorem qbqr {R : Type} : qc Try.prog 36 (q4j (R := R)) :=
  qba tabOk follows Try.func36 (by kernel_rfl) qbqp hdeB qbnt (qn (by kernel_rfl)) fun xs => qbqo _ _ _ _ _ _ _ _
def q0m : Shp := ⟨[(0, .one (.own 0)), (1, .one (.l (.sl 8))), (2, .st (lk qf))], [.arr true 4]⟩
def qga (rec : (List AV) → (List AV) → Bool → Int → Int → Int → Option (List AV)) (xs cl : List AV) : Option (List AV) := chk (qbag q0m (qk (.own 0 xs.length :: cl)) (M1 4 xs)) (cond (hdS q0m (qk (.own 0 xs.length :: cl)) (M1 4 xs)) (rec xs (gL [(qk (.own 0 xs.length :: cl)) 1] 0) (gB ((qk (.own 0 xs.length :: cl)) 2).cells 0) (gI ((qk (.own 0 xs.length :: cl)) 2).cells 1) (gI ((qk (.own 0 xs.length :: cl)) 2).cells 2) (gI ((qk (.own 0 xs.length :: cl)) 2).cells 3)) none)
def qo5  (a0 : List AV) (Au : Bool) (Av Aw Ax : Int) (K : Ex → Env → Mem → Option (List AV)) := (fun z_a2 => K (.exit 0) (qh [(0, (.own 0 a0.length)), (5, (.ptr 1 0)), (7, (.own 2 z_a2.length))]) (qg [(some (.arr true 4 a0)), (some (.box true (qb Au Av Aw Ax))), (some (.arr true 8 z_a2))]))
def qbjo : Shp := ⟨[(0, .one (.own 0)), (5, .one (.ptr 1 0)), (7, .one (.own 2)), (13, .one (.l (.sl 8))), (14, .one (.l (.i .i64))), (15, .one (.l (.i .i64)))], [.arr true 4, .box true (lk qf), .arr true 8]⟩
def qwd (v13 : List AV) (v14 v15 : Int) (a0 : List AV) (Au : Bool) (Av Aw Ax : Int) (a2 : List AV) : Env := qh [(0, (.own 0 a0.length)), (5, (.ptr 1 0)), (7, (.own 2 a2.length)), (13, (.sl 8 v13)), (14, (.int .i64 v14)), (15, (.int .i64 v15))]
def qwe (v13 : List AV) (v14 v15 : Int) (a0 : List AV) (Au : Bool) (Av Aw Ax : Int) (a2 : List AV) : Mem := qg [(some (.arr true 4 a0)), (some (.box true (qb Au Av Aw Ax))), (some (.arr true 8 a2))]
def qkz  (rec : (List AV) → (List AV) → Bool → Int → Int → Int → Option (List AV)) (v13 : List AV) (v14 v15 : Int) (a0 : List AV) (Au : Bool) (Av Aw Ax : Int) (a2 : List AV) (next : Int → (List AV) → Option (List AV)) (kx0 : (List AV) → Option (List AV)) : Option (List AV) :=
  (bif (decide (v15 < v14)) then (oB (ixB v13 v15) fun y1 => (bif fitC qa y1.cells then (oB (qjw Au Av Aw Ax (gB y1.cells 0) (gI y1.cells 1) (gI y1.cells 2) (gI y1.cells 3)) fun r2 => (bif r2 then (bif hd a0 a0.length then (some a0) else none) else (oB (qqv (gB y1.cells 0) (gI y1.cells 1) (gI y1.cells 2) (gI y1.cells 3) Au Av Aw Ax) fun r3 => (bif r3 then (bif hd a2 a2.length then (bif hd ([(.agg [(.bool (gB y1.cells 0)), (.int .u64 (gI y1.cells 1)), (.int .u64 (gI y1.cells 2)), (.int .i64 (gI y1.cells 3)), (.int .i64 (gI y1.cells 4)), (.str (gS y1.cells 5)), (.str (gS y1.cells 6)), (.int .i64 (gI y1.cells 7))])] : List AV) (([(.agg [(.bool (gB y1.cells 0)), (.int .u64 (gI y1.cells 1)), (.int .u64 (gI y1.cells 2)), (.int .i64 (gI y1.cells 3)), (.int .i64 (gI y1.cells 4)), (.str (gS y1.cells 5)), (.str (gS y1.cells 6)), (.int .i64 (gI y1.cells 7))])] : List AV).length) then (bif decide ((a2.length + ([(.agg [(.bool (gB y1.cells 0)), (.int .u64 (gI y1.cells 1)), (.int .u64 (gI y1.cells 2)), (.int .i64 (gI y1.cells 3)), (.int .i64 (gI y1.cells 4)), (.str (gS y1.cells 5)), (.str (gS y1.cells 6)), (.int .i64 (gI y1.cells 7))])] : List AV).length) * 80 ≤ 140737488355328) then (next (IntKind.i64.wrap (v15 + (1 : Int))) (a2 ++ ([(.agg [(.bool (gB y1.cells 0)), (.int .u64 (gI y1.cells 1)), (.int .u64 (gI y1.cells 2)), (.int .i64 (gI y1.cells 3)), (.int .i64 (gI y1.cells 4)), (.str (gS y1.cells 5)), (.str (gS y1.cells 6)), (.int .i64 (gI y1.cells 7))])] : List AV))) else none) else none) else none) else (next (IntKind.i64.wrap (v15 + (1 : Int))) a2))))) else none)) else (kx0 a2))
def qrr  (rec : (List AV) → (List AV) → Bool → Int → Int → Int → Option (List AV)) (v13 : List AV) (v14 : Int) (a0 : List AV) (Au : Bool) (Av Aw Ax : Int) (kx0 : (List AV) → Option (List AV)) : Nat → Int → (List AV) → Option (List AV)
  | 0 => (fun _ _ => none)
  | n + 1 => (fun v15 a2 => qkz rec v13 v14 v15 a0 Au Av Aw Ax a2 (qrr rec v13 v14 a0 Au Av Aw Ax kx0 n) kx0)
def qqw  (rec : (List AV) → (List AV) → Bool → Int → Int → Int → Option (List AV)):= hull (qrr rec)
theorem q6h  (rec : (List AV) → (List AV) → Bool → Int → Int → Int → Option (List AV)): qqw rec = qrr rec := qi _
def qk0 (rec : (List AV) → (List AV) → Bool → Int → Int → Int → Option (List AV)) : AC (List AV) :=
  .seq (.reg [ao 16 (.bin .lss 15 14)]) (.seq (.cond 16 (.skip) (.seq (.view [.sel [0, 5, 7] [0, 1, 2]]) (.exit 0))) (.seq (.block 1 (.seq (.reg [ao 17 (.ia 8 13 15),
 .st (.etac 17 qa),
 ao 18 (.load true 8 17),
 ao 9 (.alloc [(.bool false), (.int .u64 0), (.int .u64 0), (.int .i64 0), (.int .i64 0), (.str []), (.str []), (.int .i64 0)]),
 an (.store 8 9 18)]) (.seq (.seq (.reg [ao 19 (.load true 4 5),
 ao 20 (.fa 0 9),
 ao 21 (.load true 4 20),
 .call (po 22 (.call 37 [19, 21])) 37 qmm]) (.cond 22 (.seq (.reg [ao 23 (.mv 0),
 ao 6 (.mv 23)]) (.ret)) (.skip))) (.seq (.reg [ao 24 (.fa 0 9),
 ao 25 (.load true 4 24),
 ao 26 (.load true 4 5),
 .call (po 27 (.call 36 [25, 26])) 36 q4j]) (.cond 27 (.reg [ao 28 (.mv 7),
 ao 29 (.load true 8 9),
 ao 30 (.bsl 8 [29]),
 ao 31 (.app 8 80 28 30),
 ao 7 (.mv 31)]) (.skip)))))) (.seq (.reg [ao 32 (.bin .add 15 (.c (.int .i64 1))),
 ao 15 (.mv 32)]) (.view [.sel [0, 5, 7, 13, 14, 15] [0, 1, 2]]))))
theorem qbnu (rec : (List AV) → (List AV) → Bool → Int → Int → Int → Option (List AV)) (hrec : qxa Try.prog 69 4 (qga rec)) : AC.ok Try.prog (TIof Try.prog) 56 1 (qp [.t 6] (grK 4)) (qk0 rec) := qm (zA (qc.ok qti) (zA (qc.ok qbqr) trivial))
theorem qbjp (rec : (List AV) → (List AV) → Bool → Int → Int → Int → Option (List AV)) (v13 : List AV) (v14 v15 : Int) (a0 : List AV) (Au : Bool) (Av Aw Ax : Int) (a2 : List AV) (K : Ex → Env → Mem → Option (List AV)) : den 1 (qp [.t 6] (grK 4)) (qk0 rec) (qwd v13 v14 v15 a0 Au Av Aw Ax a2) (qwe v13 v14 v15 a0 Au Av Aw Ax a2) K = qkz rec v13 v14 v15 a0 Au Av Aw Ax a2 (fun z_v15 z_a2 => K .norm (qwd v13 v14 z_v15 a0 Au Av Aw Ax z_a2) (qwe v13 v14 z_v15 a0 Au Av Aw Ax z_a2)) (qo5 a0 Au Av Aw Ax K) := by kernel_rfl
theorem qbqs (rec : (List AV) → (List AV) → Bool → Int → Int → Int → Option (List AV)) (v13 : List AV) (v14 : Int) (a0 : List AV) (Au : Bool) (Av Aw Ax : Int) (K : Ex → Env → Mem → Option (List AV)) : ∀ (n : Nat) (v15 : Int) (a2 : List AV), qep (den 1 (qp [.t 6] (grK 4)) (qk0 rec)) n (qwd v13 v14 v15 a0 Au Av Aw Ax a2) (qwe v13 v14 v15 a0 Au Av Aw Ax a2) K = qqw rec v13 v14 a0 Au Av Aw Ax (qo5 a0 Au Av Aw Ax K) n v15 a2 := by
  rw [q6h]
  intro n
  induction n with
  | zero => intros; rfl
  | succ n ih =>
 intro v15 a2
 exact (qbjp rec v13 v14 v15 a0 Au Av Aw Ax a2 (itK (den 1 (qp [.t 6] (grK 4)) (qk0 rec)) n K)).trans (congrArg (fun q => qkz rec v13 v14 v15 a0 Au Av Aw Ax a2 q (qo5 a0 Au Av Aw Ax K)) (funext fun v15 => funext fun a2 => ih v15 a2))
def q8b (rec : (List AV) → (List AV) → Bool → Int → Int → Int → Option (List AV)) := subE (R := List AV) qbjo fun t m K => qe (bxC (m.s 1)) (qqw rec (gL [t 13] 0) (gI [t 14] 0) (arL (m.s 0))) (qo5 (arL (m.s 0)) (gB (bxC (m.s 1)) 0) (gI (bxC (m.s 1)) 1) (gI (bxC (m.s 1)) 2) (gI (bxC (m.s 1)) 3) K) FU (gI [t 15] 0) (arL (m.s 2))
theorem qbqt (rec : (List AV) → (List AV) → Bool → Int → Int → Int → Option (List AV)) (hrec : qxa Try.prog 69 4 (qga rec)) : qcb Try.prog (TIof Try.prog) 56 1 (qp [.t 6] (grK 4)) (.loop (scOf (qk0 rec))) (q8b rec) :=
  qdt tabOk follows (qbnu rec hrec) (qn (by kernel_rfl)) fun t m K => qbqs rec _ _ _ _ _ _ _ K FU _ _
def qxf (rec : (List AV) → (List AV) → Bool → Int → Int → Int → Option (List AV)) (a0 v1 : List AV) (Br : Bool) (Bs Bt Bu : Int) : Option (List AV) :=
  (bif (hd a0 (a0.length) && (hd ([] : List AV) (([] : List AV).length) && true)) then (qqw rec v1 (v1.length : Int) a0 Br Bs Bt Bu (fun a2q1 => (bif ((a2q1.length : Int) == (0 : Int)) then (bif hd a0 a0.length then (bif hd ([(.agg [(.bool Br), (.int .u64 Bs), (.int .u64 Bt), (.int .i64 Bu)])] : List AV) (([(.agg [(.bool Br), (.int .u64 Bs), (.int .u64 Bt), (.int .i64 Bu)])] : List AV).length) then (bif decide ((a0.length + ([(.agg [(.bool Br), (.int .u64 Bs), (.int .u64 Bt), (.int .i64 Bu)])] : List AV).length) * 32 ≤ 140737488355328) then (bif hd (a0 ++ ([(.agg [(.bool Br), (.int .u64 Bs), (.int .u64 Bt), (.int .i64 Bu)])] : List AV)) ((a0 ++ ([(.agg [(.bool Br), (.int .u64 Bs), (.int .u64 Bt), (.int .i64 Bu)])] : List AV)).length) then (some (a0 ++ ([(.agg [(.bool Br), (.int .u64 Bs), (.int .u64 Bt), (.int .i64 Bu)])] : List AV))) else none) else none) else none) else none) else (oB (qmh Br Bs Bt Bu) fun r2 => (bif (!r2.2.2) then (bif hd a0 a0.length then (some a0) else none) else (bif hd a2q1 a2q1.length then (bif hd a0 a0.length then (oB (bif (hd a0 (a0.length) && true) then (rec a0 a2q1 (gB r2.1.cells 0) (gI r2.1.cells 1) (gI r2.1.cells 2) (gI r2.1.cells 3)) else none) fun r3 => (bif hd r3 r3.length then (oB (bif (hd r3 (r3.length) && true) then (rec r3 a2q1 (gB r2.2.1.cells 0) (gI r2.2.1.cells 1) (gI r2.2.1.cells 2) (gI r2.2.1.cells 3)) else none) fun r4 => (bif hd r4 r4.length then (some r4) else none)) else none)) else none) else none))))) FU (0 : Int) ([] : List AV)) else none)
def qfi : Nat → (List AV) → (List AV) → Bool → Int → Int → Int → Option (List AV)
  | 0 => (fun _ _ _ _ _ _ => none)
  | n + 1 => (fun a0 v1 Br Bs Bt Bu => qxf (qfi n) a0 v1 Br Bs Bt Bu)
def q3d : (List AV) → (List AV) → Bool → Int → Int → Int → Option (List AV) := hull (qfi FU)
theorem qbcj : q3d = qfi FU := qi _
def qsi (rec : (List AV) → (List AV) → Bool → Int → Int → Int → Option (List AV)) : AC (List AV) :=
  .seq (.reg [ao 5 (.box 2),
 ao 6 (.mv (.c .nils))]) (.seq (.reg [ao 7 (.mv (.c .nils))]) (.seq (.seq (.reg [ao 13 (.mv 1),
 ao 14 (.len false 13),
 ao 15 (.mv (.c (.int .i64 0)))]) (.block 0 (.seq (.view [.own 7 8, .sel [0, 5, 7, 13, 14, 15] [0, 1, 2]]) (.sub (.loop (scOf (qk0 rec))) (q8b rec))))) (.seq (.seq (.reg [ao 33 (.mv 7),
 ao 34 (.len false 33),
 ao 35 (.bin .eql 34 (.c (.int .i64 0)))]) (.cond 35 (.seq (.reg [ao 36 (.mv 0),
 ao 37 (.load true 4 5),
 ao 38 (.bsl 4 [37]),
 ao 39 (.app 4 32 36 38),
 ao 6 (.mv 39)]) (.ret)) (.skip))) (.seq (.reg [ao 41 (.load true 4 5),
 .call (po 42 (.call 59 [41])) 59 qp8,
 ao 40 (.mv 42),
 ao 43 (.ext 40 0),
 ao 44 (.ext 40 1),
 ao 45 (.ext 40 2),
 ao 10 (.alloc [(.bool false), (.int .u64 0), (.int .u64 0), (.int .i64 0)]),
 ao 11 (.alloc [(.bool false), (.int .u64 0), (.int .u64 0), (.int .i64 0)]),
 an (.store 4 10 43),
 an (.store 4 11 44),
 ao 12 (.mv 45)]) (.seq (.seq (.reg [ao 46 (.mv 12),
 ao 47 (.un .not 46)]) (.cond 47 (.seq (.reg [ao 48 (.mv 0),
 ao 6 (.mv 48)]) (.ret)) (.skip))) (.seq (.seq (.view [.snap 7]) (.draw4 [(po 49 (.mv 0)), (po 50 (.mv 7)), (po 51 (.load true 4 10))] 52 69 4 49 [50, 51] (qga rec) [(po 53 (.mv 7)), (po 54 (.load true 4 11))] [.callr (po 55 (.call 69 [52, 53, 54])) 69 (qbuf 4 (qga rec)),
 ao 6 (.mv 55)])) (.ret)))))))
theorem qbv0 (rec : (List AV) → (List AV) → Bool → Int → Int → Int → Option (List AV)) (hrec : qxa Try.prog 69 4 (qga rec)) : AC.ok Try.prog (TIof Try.prog) 56 1 (qp [.t 6] (grK 4)) (qsi rec) := qm (zA (qbqt rec hrec) (zA (qc.ok q0f) (zA hrec (zA (qbxf hrec) trivial))))
theorem qbyo (rec : (List AV) → (List AV) → Bool → Int → Int → Int → Option (List AV)) (v1 : List AV) (Br : Bool) (Bs Bt Bu : Int) (a0 : List AV) : den 1 (qp [.t 6] (grK 4)) (qsi rec) (qh [(0, (.own 0 a0.length)), (1, (.sl 8 v1)), (2, .agg (qb Br Bs Bt Bu))]) (qg [(some (.arr true 4 a0))]) (kend (qp [.t 6] (grK 4))) = qxf rec a0 v1 Br Bs Bt Bu := by
  kernel_rfl
theorem qbyp : cFn (TIof Try.prog) Try.f69 = some ⟨56, [.t 6], scOf (qsi (fun _ _ _ _ _ _ => none))⟩ := by kernel_rfl
theorem qbyq (rec : (List AV) → (List AV) → Bool → Int → Int → Int → Option (List AV)) : (qsi rec).er = some (scOf (qsi (fun _ _ _ _ _ _ => none))) := by kernel_rfl
theorem qbck : ∀ (k : Nat), qxa Try.prog 69 4 (qga (qfi k))
  | 0 => fun xs cl zs h => by
   unfold qga at h
   obtain ⟨h1, h2⟩ := qpt h
   obtain ⟨h3, h4⟩ := qo h2
   cases h4
  | k + 1 => fun xs cl zs h => by
   unfold qga at h
   obtain ⟨h1, h2⟩ := qpt h
   obtain ⟨h3, h4⟩ := qo h2
   exact qb0t tabOk follows Try.func69 (by kernel_rfl) qbyp (qbv0 (qfi k) (qbck k)) (qbyq (qfi k)) q0m (qblt h1 h3) ((qbyo (qfi k) (gL [(qk (.own 0 xs.length :: cl)) 1] 0) (gB ((qk (.own 0 xs.length :: cl)) 2).cells 0) (gI ((qk (.own 0 xs.length :: cl)) 2).cells 1) (gI ((qk (.own 0 xs.length :: cl)) 2).cells 2) (gI ((qk (.own 0 xs.length :: cl)) 2).cells 3) (arL ((M1 4 xs).s 0))).trans h4)
theorem qbyr : qxa Try.prog 69 4 (qga q3d) := by
  have h := qbck FU
  rw [← qbcj] at h
  exact h
def qoc  (Ai : Bool) (Aj Ak Al : Int) (K : Ex → Env → Mem → Option (List AV)) := (fun z_a1 => K (.exit 0) (qh [(3, (.ptr 0 0)), (7, (.own 1 z_a1.length))]) (qg [(some (.box true (qb Ai Aj Ak Al))), (some (.arr true 8 z_a1))]))
def qbhd : Shp := ⟨[(3, .one (.ptr 0 0)), (7, .one (.own 1)), (23, .one (.l (.sl 8))), (24, .one (.l (.i .i64))), (25, .one (.l (.i .i64)))], [.box true (lk qf), .arr true 8]⟩
def qur (v23 : List AV) (v24 v25 : Int) (Ai : Bool) (Aj Ak Al : Int) (a1 : List AV) : Env := qh [(3, (.ptr 0 0)), (7, (.own 1 a1.length)), (23, (.sl 8 v23)), (24, (.int .i64 v24)), (25, (.int .i64 v25))]
def qus (v23 : List AV) (v24 v25 : Int) (Ai : Bool) (Aj Ak Al : Int) (a1 : List AV) : Mem := qg [(some (.box true (qb Ai Aj Ak Al))), (some (.arr true 8 a1))]
def qje  (v23 : List AV) (v24 v25 : Int) (Ai : Bool) (Aj Ak Al : Int) (a1 : List AV) (next : Int → (List AV) → Option (List AV)) (kx0 : (List AV) → Option (List AV)) : Option (List AV) :=
  (bif (decide (v25 < v24)) then (oB (ixB v23 v25) fun y1 => (bif fitC qa y1.cells then (oB (qg4 (gB y1.cells 0) (gI y1.cells 1) (gI y1.cells 2) (gI y1.cells 3) Ai Aj Ak Al) fun r2 => (bif r2 then (bif hd a1 a1.length then (bif hd ([(.agg [(.bool (gB y1.cells 0)), (.int .u64 (gI y1.cells 1)), (.int .u64 (gI y1.cells 2)), (.int .i64 (gI y1.cells 3)), (.int .i64 (gI y1.cells 4)), (.str (gS y1.cells 5)), (.str (gS y1.cells 6)), (.int .i64 (gI y1.cells 7))])] : List AV) (([(.agg [(.bool (gB y1.cells 0)), (.int .u64 (gI y1.cells 1)), (.int .u64 (gI y1.cells 2)), (.int .i64 (gI y1.cells 3)), (.int .i64 (gI y1.cells 4)), (.str (gS y1.cells 5)), (.str (gS y1.cells 6)), (.int .i64 (gI y1.cells 7))])] : List AV).length) then (bif decide ((a1.length + ([(.agg [(.bool (gB y1.cells 0)), (.int .u64 (gI y1.cells 1)), (.int .u64 (gI y1.cells 2)), (.int .i64 (gI y1.cells 3)), (.int .i64 (gI y1.cells 4)), (.str (gS y1.cells 5)), (.str (gS y1.cells 6)), (.int .i64 (gI y1.cells 7))])] : List AV).length) * 80 ≤ 140737488355328) then (next (IntKind.i64.wrap (v25 + (1 : Int))) (a1 ++ ([(.agg [(.bool (gB y1.cells 0)), (.int .u64 (gI y1.cells 1)), (.int .u64 (gI y1.cells 2)), (.int .i64 (gI y1.cells 3)), (.int .i64 (gI y1.cells 4)), (.str (gS y1.cells 5)), (.str (gS y1.cells 6)), (.int .i64 (gI y1.cells 7))])] : List AV))) else none) else none) else none) else (next (IntKind.i64.wrap (v25 + (1 : Int))) a1))) else none)) else (kx0 a1))
def qqa  (v23 : List AV) (v24 : Int) (Ai : Bool) (Aj Ak Al : Int) (kx0 : (List AV) → Option (List AV)) : Nat → Int → (List AV) → Option (List AV)
  | 0 => (fun _ _ => none)
  | n + 1 => (fun v25 a1 => qje v23 v24 v25 Ai Aj Ak Al a1 (qqa v23 v24 Ai Aj Ak Al kx0 n) kx0)
def qo6 := hull (qqa)
theorem q4k : qo6 = qqa := qi _
def qjf : AC (List AV) :=
  .seq (.reg [ao 26 (.bin .lss 25 24)]) (.seq (.cond 26 (.skip) (.seq (.view [.sel [3, 7] [0, 1]]) (.exit 0))) (.seq (.block 1 (.seq (.reg [ao 27 (.ia 8 23 25),
 .st (.etac 27 qa),
 ao 28 (.load true 8 27),
 ao 9 (.alloc [(.bool false), (.int .u64 0), (.int .u64 0), (.int .i64 0), (.int .i64 0), (.str []), (.str []), (.int .i64 0)]),
 an (.store 8 9 28)]) (.seq (.reg [ao 29 (.fa 0 9),
 ao 30 (.load true 4 29),
 ao 31 (.load true 4 3),
 .call (po 32 (.call 64 [30, 31])) 64 qgt]) (.cond 32 (.reg [ao 33 (.mv 7),
 ao 34 (.load true 8 9),
 ao 35 (.bsl 8 [34]),
 ao 36 (.app 8 80 33 35),
 ao 7 (.mv 36)]) (.skip))))) (.seq (.reg [ao 37 (.bin .add 25 (.c (.int .i64 1))),
 ao 25 (.mv 37)]) (.view [.sel [3, 7, 23, 24, 25] [0, 1]]))))
theorem qbjq : AC.ok Try.prog (TIof Try.prog) 41 0 (kret [.t 4] (decF true 4)) qjf := qm (zA (qc.ok qme) trivial)
theorem qbhe (v23 : List AV) (v24 v25 : Int) (Ai : Bool) (Aj Ak Al : Int) (a1 : List AV) (K : Ex → Env → Mem → Option (List AV)) : den 0 (kret [.t 4] (decF true 4)) qjf (qur v23 v24 v25 Ai Aj Ak Al a1) (qus v23 v24 v25 Ai Aj Ak Al a1) K = qje v23 v24 v25 Ai Aj Ak Al a1 (fun z_v25 z_a1 => K .norm (qur v23 v24 z_v25 Ai Aj Ak Al z_a1) (qus v23 v24 z_v25 Ai Aj Ak Al z_a1)) (qoc Ai Aj Ak Al K) := by kernel_rfl
theorem qbnv (v23 : List AV) (v24 : Int) (Ai : Bool) (Aj Ak Al : Int) (K : Ex → Env → Mem → Option (List AV)) : ∀ (n : Nat) (v25 : Int) (a1 : List AV), qep (den 0 (kret [.t 4] (decF true 4)) qjf) n (qur v23 v24 v25 Ai Aj Ak Al a1) (qus v23 v24 v25 Ai Aj Ak Al a1) K = qo6 v23 v24 Ai Aj Ak Al (qoc Ai Aj Ak Al K) n v25 a1 := by
  rw [q4k]
  intro n
  induction n with
  | zero => intros; rfl
  | succ n ih =>
 intro v25 a1
 exact (qbhe v23 v24 v25 Ai Aj Ak Al a1 (itK (den 0 (kret [.t 4] (decF true 4)) qjf) n K)).trans (congrArg (fun q => qje v23 v24 v25 Ai Aj Ak Al a1 q (qoc Ai Aj Ak Al K)) (funext fun v25 => funext fun a1 => ih v25 a1))
def q6i := subE (R := (List AV)) qbhd fun t m K => qe (bxC (m.s 0)) (qo6 (gL [t 23] 0) (gI [t 24] 0)) (qoc (gB (bxC (m.s 0)) 0) (gI (bxC (m.s 0)) 1) (gI (bxC (m.s 0)) 2) (gI (bxC (m.s 0)) 3) K) FU (gI [t 25] 0) (arL (m.s 1))
theorem qbnw : qcb Try.prog (TIof Try.prog) 41 0 (kret [.t 4] (decF true 4)) (.loop (scOf qjf)) (q6i) :=
  qdt tabOk follows (qbjq) (qn (by kernel_rfl)) fun t m K => qbnv _ _ _ _ _ _ K FU _ _
def qbs2 : Shp := ⟨[(0, .one (.l (.sl 8))), (1, .st (lk qf))], []⟩
def q5i (v0 : List AV) (Aq : Bool) (Ar As At : Int) : Option (List AV) :=
  (oB (qnf v0 Aq Ar As At) fun r1 => (bif ((!r1.2) || ((gI r1.1.cells 4) != (1 : Int))) then (bif hd ([] : List AV) (([] : List AV).length) then (some ([] : List AV)) else none) else (bif (hd ([] : List AV) (([] : List AV).length) && true) then (qo6 v0 (v0.length : Int) Aq Ar As At (fun a1q2 => (bif hd a1q2 a1q2.length then (oB (bif (hd ([] : List AV) (([] : List AV).length) && true) then (q3d ([] : List AV) a1q2 Aq Ar As At) else none) fun r3 => (bif hd r3 r3.length then (some r3) else none)) else none)) FU (0 : Int) ([] : List AV)) else none)))
def qpq := hull q5i
theorem qbcl : qpq = q5i := qi _
def q5j : AC (List AV) :=
  .seq (.reg [ao 3 (.box 1),
 ao 4 (.mv (.c .nils))]) (.seq (.seq (.reg [ao 11 (.mv 0),
 ao 12 (.load true 4 3),
 .call (po 13 (.call 24 [11, 12])) 24 qo2,
 ao 10 (.mv 13),
 ao 14 (.ext 10 0),
 ao 15 (.ext 10 1),
 ao 5 (.alloc [(.bool false), (.int .u64 0), (.int .u64 0), (.int .i64 0), (.int .i64 0), (.str []), (.str []), (.int .i64 0)]),
 an (.store 8 5 14),
 ao 6 (.mv 15)]) (.seq (.reg [ao 16 (.mv 6),
 ao 17 (.un .not 16),
 ao 18 (.mv 17),
 .grp 18 false [(pg 19 18 false (.fa 4 5)), (pg 20 18 false (.load false 1 19)), (pg 21 18 false (.bin .neq 20 (.c (.int .i64 1))))] 22 21]) (.cond 22 (.seq (.reg [ao 4 (.mv (.c .nils))]) (.seq (.view [.own 4 4]) (.ret))) (.skip)))) (.seq (.reg [ao 7 (.mv (.c .nils))]) (.seq (.seq (.reg [ao 23 (.mv 0),
 ao 24 (.len false 23),
 ao 25 (.mv (.c (.int .i64 0)))]) (.block 0 (.seq (.view [.own 7 8, .sel [3, 7, 23, 24, 25] [0, 2]]) (.sub (.loop (scOf qjf)) q6i)))) (.seq (.reg [ao 38 (.mv 7),
 ao 39 (.load true 4 3),
 .st (.snap 38),
 .callr (po 40 (.call 69 [(.c .nils), 38, 39])) 69 (qbuf 4 (qga q3d)),
 ao 4 (.mv 40)]) (.ret)))))
theorem qbv1 : AC.ok Try.prog (TIof Try.prog) 41 0 (kret [.t 4] (decF true 4)) q5j := qm (zA (qc.ok qxe) (zA qbnw (zA (qbxf qbyr) trivial)))
theorem qbys (v0 : List AV) (Aq : Bool) (Ar As At : Int) : den 0 (kret [.t 4] (decF true 4)) q5j (qh [(0, (.sl 8 v0)), (1, .agg (qb Aq Ar As At))]) (qg []) (kend (kret [.t 4] (decF true 4))) = qpq v0 Aq Ar As At := by
  rw [qbcl]; kernel_rfl
theorem qbyt : cFn (TIof Try.prog) Try.f33 = some ⟨41, [.t 4], scOf q5j⟩ := by kernel_rfl
def qbyu (xs : List AV) : Option (List AV) := qe ((qk xs) 1).cells (qpq (gL [(qk xs) 0] 0))
def q0n {R : Type} : List AV → (AV → Option R) → Option R := entF qbs2 qbyu (AV.fr true 4)
theorem qbf8 {R : Type} : qc Try.prog 33 (q0n (R := R)) :=
  qba tabOk follows Try.func33 (by kernel_rfl) qbyt hdeF qbv1 (qn (by kernel_rfl)) fun xs => qbys _ _ _ _ _
def ql7  (K : Ex → Env → Mem → Option Bool) := (fun (_ : Unit) => K (.exit 0) (qh []) (qg []))
def qbcm : Shp := ⟨[(0, .one (.l (.sl 8))), (1, .one (.l (.sl 8))), (12, .one (.l (.i .i64))), (13, .one (.l (.i .i64)))], []⟩
def qrs (v0 v1 : List AV) (v12 v13 : Int) : Env := qh [(0, (.sl 8 v0)), (1, (.sl 8 v1)), (12, (.int .i64 v12)), (13, (.int .i64 v13))]
def qrt (v0 v1 : List AV) (v12 v13 : Int) : Mem := qg []
def qgz  (v0 v1 : List AV) (v12 v13 : Int) (next : Int → Option Bool) (kx0 : Unit → Option Bool) : Option Bool :=
  (bif (decide (v13 < v12)) then (oB (ixB v0 v13) fun y1 => (bif fitC qa y1.cells then (oB (ixB v1 v13) fun y2 => (bif fitC qa y2.cells then (bif (!(((gB y1.cells 0) == (gB y2.cells 0)) && (((gI y1.cells 1) == (gI y2.cells 1)) && (((gI y1.cells 2) == (gI y2.cells 2)) && (((gI y1.cells 3) == (gI y2.cells 3)) && (((gI y1.cells 4) == (gI y2.cells 4)) && (((gS y1.cells 5) == (gS y2.cells 5)) && (((gS y1.cells 6) == (gS y2.cells 6)) && (((gI y1.cells 7) == (gI y2.cells 7)) && true))))))))) then (some false) else (next (IntKind.i64.wrap (v13 + (1 : Int))))) else none)) else none)) else (kx0 ()))
def qod  (v0 v1 : List AV) (v12 : Int) (kx0 : Unit → Option Bool) : Nat → Int → Option Bool
  | 0 => (fun _ => none)
  | n + 1 => (fun v13 => qgz v0 v1 v12 v13 (qod v0 v1 v12 kx0 n) kx0)
def qqb := hull (qod)
theorem q0o : qqb = qod := qi _
def qg0 : AC Bool :=
  .seq (.reg [ao 14 (.bin .lss 13 12)]) (.seq (.cond 14 (.skip) (.seq (.view [.sel [] []]) (.exit 0))) (.seq (.block 1 (.seq (.reg [ao 15 (.mv 13),
 ao 5 (.mv 15)]) (.seq (.draw [] [ao 16 (.mv 0),
 ao 17 (.mv 5),
 ao 18 (.ia 8 16 17),
 .et 18 qa,
 ao 19 (.load true 8 18),
 ao 20 (.mv 1),
 ao 21 (.mv 5),
 ao 22 (.ia 8 20 21),
 .et 22 qa,
 ao 23 (.load true 8 22)] [ao 24 (.eq true true [.b, (.i .u64), (.i .u64), (.i .i64), (.i .i64), .s, .s, (.i .i64)] 19 23)]) (.cond 24 (.seq (.reg [ao 4 (.mv (.c (.bool false)))]) (.ret)) (.skip))))) (.seq (.reg [ao 25 (.bin .add 13 (.c (.int .i64 1))),
 ao 13 (.mv 25)]) (.view [.sel [0, 1, 12, 13] []]))))
theorem qben : AC.ok Try.prog (TIof Try.prog) 26 0 (kret [.t 4] decB) qg0 := qm (zA rfl trivial)
theorem qbcn (v0 v1 : List AV) (v12 v13 : Int) (K : Ex → Env → Mem → Option Bool) : den 0 (kret [.t 4] decB) qg0 (qrs v0 v1 v12 v13) (qrt v0 v1 v12 v13) K = qgz v0 v1 v12 v13 (fun z_v13 => K .norm (qrs v0 v1 v12 z_v13) (qrt v0 v1 v12 z_v13)) (ql7 K) := by kernel_rfl
theorem qbhf (v0 v1 : List AV) (v12 : Int) (K : Ex → Env → Mem → Option Bool) : ∀ (n : Nat) (v13 : Int), qep (den 0 (kret [.t 4] decB) qg0) n (qrs v0 v1 v12 v13) (qrt v0 v1 v12 v13) K = qqb v0 v1 v12 (ql7 K) n v13 := by
  rw [q0o]
  intro n
  induction n with
  | zero => intros; rfl
  | succ n ih =>
 intro v13
 exact (qbcn v0 v1 v12 v13 (itK (den 0 (kret [.t 4] decB) qg0) n K)).trans (congrArg (fun q => qgz v0 v1 v12 v13 q (ql7 K)) (funext fun v13 => ih v13))
def q12 := subE (R := Bool) qbcm fun t m K => qqb (gL [t 0] 0) (gL [t 1] 0) (gI [t 12] 0) (ql7 K) FU (gI [t 13] 0)
theorem qbhg : qcb Try.prog (TIof Try.prog) 26 0 (kret [.t 4] decB) (.loop (scOf qg0)) (q12) :=
  qdt tabOk follows (qben) (qn (by kernel_rfl)) fun t m K => qbhf _ _ _ K FU _
def qbnx : Shp := ⟨[(0, .one (.l (.sl 8))), (1, .one (.l (.sl 8)))], []⟩
def q0p (v0 v1 : List AV) : Option Bool :=
  (bif ((v0.length : Int) != (v1.length : Int)) then (some false) else (qqb v0 v1 (v0.length : Int) (fun (_ : Unit) => (some true)) FU (0 : Int)))
def qha := hull q0p
theorem q8c : qha = q0p := qi _
def q0q : AC Bool :=
  .seq (.reg [ao 4 (.mv (.c (.bool false)))]) (.seq (.seq (.reg [ao 6 (.mv 0),
 ao 7 (.len false 6),
 ao 8 (.mv 1),
 ao 9 (.len false 8),
 ao 10 (.bin .neq 7 9)]) (.cond 10 (.seq (.reg [ao 4 (.mv (.c (.bool false)))]) (.ret)) (.skip))) (.seq (.seq (.reg [ao 11 (.mv 0),
 ao 12 (.len false 11),
 ao 13 (.mv (.c (.int .i64 0)))]) (.block 0 (.seq (.view [.sel [0, 1, 12, 13] []]) (.sub (.loop (scOf qg0)) q12)))) (.seq (.reg [ao 4 (.mv (.c (.bool true)))]) (.ret))))
theorem qbqu : AC.ok Try.prog (TIof Try.prog) 26 0 (kret [.t 4] decB) q0q := qm (zA qbhg trivial)
theorem qbs3 (v0 v1 : List AV) : den 0 (kret [.t 4] decB) q0q (qh [(0, (.sl 8 v0)), (1, (.sl 8 v1))]) (qg []) (kend (kret [.t 4] decB)) = qha v0 v1 := by
  rw [q8c]; kernel_rfl
theorem qbs4 : cFn (TIof Try.prog) Try.f19 = some ⟨26, [.t 4], scOf q0q⟩ := by kernel_rfl
def qbs5 (xs : List AV) : Option Bool := qha (gL [(qk xs) 0] 0) (gL [(qk xs) 1] 0)
def qwf {R : Type} : List AV → (AV → Option R) → Option R := entF qbnx qbs5 AV.bool
theorem q95 {R : Type} : qc Try.prog 19 (qwf (R := R)) :=
  qba tabOk follows Try.func19 (by kernel_rfl) qbs4 hdeB qbqu (qn (by kernel_rfl)) fun xs => qbs3 _ _
def qyy  (v1 : List AV) (v11 v13 : Bool) (v14 v15 : List AV) (Ai : Bool) (Aj Ak Al Am : Int) (An Ao : List UInt8) (Ap : Int) (Au : Bool) (Av Aw Ax Bv : Int) (Bw Bx : List UInt8) (By : Int) (K : Ex → Env → Mem → Option Bool) := (fun z_v125 => K .norm (qh [(1, (.sl 8 v1)), (10, (.ptr 0 0)), (11, (.bool v11)), (12, (.ptr 1 0)), (13, (.bool v13)), (14, (.sl 8 v14)), (15, (.sl 4 v15)), (125, (.bool z_v125))]) (qg [(some (.box true (qd Ai Aj Ak Al Am An Ao Ap))), (some (.box true (qd Au Av Aw Ax Bv Bw Bx By)))]))
def qba7 : Shp := ⟨[(1, .one (.l (.sl 8))), (3, .one (.l (.i .i64))), (4, .one (.l (.sl 8))), (5, .one (.l (.i .i64))), (6, .one (.l (.sl 8))), (7, .one (.l (.i .i64))), (8, .one (.l (.sl 8))), (9, .one (.l (.i .i64))), (10, .one (.ptr 0 0)), (11, .one (.l .b)), (12, .one (.ptr 1 0)), (13, .one (.l .b)), (14, .one (.l (.sl 8))), (15, .one (.l (.sl 4)))], [.box true (lk qa), .box true (lk qa)]⟩
def qru  (v1 : List AV) (v3 : Int) (v4 : List AV) (v5 : Int) (v6 : List AV) (v7 : Int) (v8 : List AV) (v9 : Int) (v11 v13 : Bool) (v14 v15 : List AV) (Ai : Bool) (Aj Ak Al Am : Int) (An Ao : List UInt8) (Ap : Int) (Au : Bool) (Av Aw Ax Bv : Int) (Bw Bx : List UInt8) (By : Int) (kn : Bool → Option Bool) : Option Bool :=
  (oB (qnr v1) fun r1 => (bif (r1 != (0 : Int)) then (kn true) else (bif (v3 != (25 : Int)) then (kn true) else (bif (v5 != (0 : Int)) then (kn true) else (bif ((v4.length : Int) != (4 : Int)) then (kn true) else (oB (ixB v4 (3 : Int)) fun y2 => (bif fitC qa y2.cells then (bif (!((gS y2.cells 5) == ([120] : List UInt8))) then (kn true) else (bif (v7 != (0 : Int)) then (kn true) else (bif ((v6.length : Int) != (5 : Int)) then (kn true) else (oB (ixB v6 (3 : Int)) fun y3 => (bif fitC qa y3.cells then (bif (!((gS y3.cells 5) == ([120, 45, 48] : List UInt8))) then (kn true) else (oB (ixB v6 (4 : Int)) fun y4 => (bif fitC qa y4.cells then (oB (qg5 (167870464 : Int) (17 : Int)) fun r5 => (bif (!(((gB y4.cells 0) == (gB r5.cells 0)) && (((gI y4.cells 1) == (gI r5.cells 1)) && (((gI y4.cells 2) == (gI r5.cells 2)) && (((gI y4.cells 3) == (gI r5.cells 3)) && true))))) then (kn true) else (bif (v9 != (0 : Int)) then (kn true) else (oB (qha v8 v4) fun r6 => (kn (!r6)))))) else none))) else none))))) else none)))))))
def qo7 := hull (qru)
theorem qyz : qo7 = qru := qi _
def qm4 : AC Bool :=
  .seq (.draw [] [ao 69 (.mv 1),
 .call (po 70 (.call 11 [69])) 11 qxv,
 ao 71 (.bin .neq 70 (.c (.int .i64 0))),
 ao 72 (.mv 71),
 ag 73 72 false (.mv 3),
 ag 74 72 false (.bin .neq 73 (.c (.int .i64 25))),
 ao 75 (.pick 72 (.c (.bool true)) 74),
 ao 76 (.mv 75),
 ag 77 76 false (.mv 5),
 ag 78 76 false (.bin .neq 77 (.c (.int .i64 0))),
 ao 79 (.pick 76 (.c (.bool true)) 78),
 ao 80 (.mv 79),
 ag 81 80 false (.mv 4),
 ag 82 80 false (.len false 81),
 ag 83 80 false (.bin .neq 82 (.c (.int .i64 4))),
 ao 84 (.pick 80 (.c (.bool true)) 83),
 ao 85 (.mv 84),
 ag 86 85 false (.mv 4),
 ag 87 85 false (.ia 8 86 (.c (.int .i64 3))),
 .et 87 qa,
 ag 88 85 false (.fa 5 87),
 ag 89 85 false (.load false 1 88),
 ag 90 85 false (.bin .neq 89 (.c (.str [120]))),
 ao 91 (.pick 85 (.c (.bool true)) 90),
 ao 92 (.mv 91),
 ag 93 92 false (.mv 7),
 ag 94 92 false (.bin .neq 93 (.c (.int .i64 0))),
 ao 95 (.pick 92 (.c (.bool true)) 94),
 ao 96 (.mv 95),
 ag 97 96 false (.mv 6),
 ag 98 96 false (.len false 97),
 ag 99 96 false (.bin .neq 98 (.c (.int .i64 5))),
 ao 100 (.pick 96 (.c (.bool true)) 99),
 ao 101 (.mv 100),
 ag 102 101 false (.mv 6),
 ag 103 101 false (.ia 8 102 (.c (.int .i64 3))),
 .et 103 qa,
 ag 104 101 false (.fa 5 103),
 ag 105 101 false (.load false 1 104),
 ag 106 101 false (.bin .neq 105 (.c (.str [120, 45, 48]))),
 ao 107 (.pick 101 (.c (.bool true)) 106),
 ao 108 (.mv 107),
 ag 109 108 false (.mv 6),
 ag 110 108 false (.ia 8 109 (.c (.int .i64 4))),
 .et 110 qa,
 ag 111 108 false (.fa 0 110),
 ag 112 108 false (.load true 4 111),
 .call (pg 113 108 false (.call 50 [(.c (.int .u64 167870464)), (.c (.int .i64 17))])) 50 qgv,
 ag 114 108 false (.eq true true [.b, (.i .u64), (.i .u64), (.i .i64)] 112 113),
 ao 115 (.pick 108 (.c (.bool true)) 114),
 ao 116 (.mv 115),
 ag 117 116 false (.mv 9),
 ag 118 116 false (.bin .neq 117 (.c (.int .i64 0))),
 ao 119 (.pick 116 (.c (.bool true)) 118),
 ao 120 (.mv 119),
 ag 121 120 false (.mv 8),
 ag 122 120 false (.mv 4)] [.call (pg 123 120 false (.call 19 [121, 122])) 19 qwf,
 ag 124 120 false (.un .not 123),
 ao 125 (.pick 120 (.c (.bool true)) 124)]) (.view [.sel [1, 10, 11, 12, 13, 14, 15, 125] [0, 1]])
theorem qbco : AC.ok Try.prog (TIof Try.prog) 177 0 (kret [.t 0] decB) qm4 := qm (zA (qc.ok qbbw) (zA (qc.ok qmg) (zA (qc.ok q95) (zA rfl trivial))))
theorem qbeo (v1 : List AV) (v3 : Int) (v4 : List AV) (v5 : Int) (v6 : List AV) (v7 : Int) (v8 : List AV) (v9 : Int) (v11 v13 : Bool) (v14 v15 : List AV) (Ai : Bool) (Aj Ak Al Am : Int) (An Ao : List UInt8) (Ap : Int) (Au : Bool) (Av Aw Ax Bv : Int) (Bw Bx : List UInt8) (By : Int) (K : Ex → Env → Mem → Option Bool) : den 0 (kret [.t 0] decB) qm4 (qh [(1, (.sl 8 v1)), (3, (.int .i64 v3)), (4, (.sl 8 v4)), (5, (.int .i64 v5)), (6, (.sl 8 v6)), (7, (.int .i64 v7)), (8, (.sl 8 v8)), (9, (.int .i64 v9)), (10, (.ptr 0 0)), (11, (.bool v11)), (12, (.ptr 1 0)), (13, (.bool v13)), (14, (.sl 8 v14)), (15, (.sl 4 v15))]) (qg [(some (.box true (qd Ai Aj Ak Al Am An Ao Ap))), (some (.box true (qd Au Av Aw Ax Bv Bw Bx By)))]) K = qo7 v1 v3 v4 v5 v6 v7 v8 v9 v11 v13 v14 v15 Ai Aj Ak Al Am An Ao Ap Au Av Aw Ax Bv Bw Bx By (qyy v1 v11 v13 v14 v15 Ai Aj Ak Al Am An Ao Ap Au Av Aw Ax Bv Bw Bx By K) := by
  rw [qyz]; kernel_rfl
def q0r := subE (R := Bool) qba7 fun t m K => qj (bxC (m.s 1)) (qj (bxC (m.s 0)) (qo7 (gL [t 1] 0) (gI [t 3] 0) (gL [t 4] 0) (gI [t 5] 0) (gL [t 6] 0) (gI [t 7] 0) (gL [t 8] 0) (gI [t 9] 0) (gB [t 11] 0) (gB [t 13] 0) (gL [t 14] 0) (gL [t 15] 0))) (qyy (gL [t 1] 0) (gB [t 11] 0) (gB [t 13] 0) (gL [t 14] 0) (gL [t 15] 0) (gB (bxC (m.s 0)) 0) (gI (bxC (m.s 0)) 1) (gI (bxC (m.s 0)) 2) (gI (bxC (m.s 0)) 3) (gI (bxC (m.s 0)) 4) (gS (bxC (m.s 0)) 5) (gS (bxC (m.s 0)) 6) (gI (bxC (m.s 0)) 7) (gB (bxC (m.s 1)) 0) (gI (bxC (m.s 1)) 1) (gI (bxC (m.s 1)) 2) (gI (bxC (m.s 1)) 3) (gI (bxC (m.s 1)) 4) (gS (bxC (m.s 1)) 5) (gS (bxC (m.s 1)) 6) (gI (bxC (m.s 1)) 7) K)
theorem qbep : qcb Try.prog (TIof Try.prog) 177 0 (kret [.t 0] decB) (scOf qm4) (q0r) :=
  qfa tabOk follows (qbco) (qn (by kernel_rfl)) fun t m K => qbeo _ _ _ _ _ _ _ _ _ _ _ _ _ _ _ _ _ _ _ _ _ _ _ _ _ _ _ _ K
def qbjr : Shp := ⟨[], []⟩
def qye : Option Bool :=
  (oB (qnx) fun r1 => (oB (ixB r1 (1 : Int)) fun y2 => (bif fitC qa y2.cells then (oB (qon r1 (gB y2.cells 0) (gI y2.cells 1) (gI y2.cells 2) (gI y2.cells 3)) fun r3 => (oB (qg5 (167837696 : Int) (16 : Int)) fun r4 => (oB (qva r1 (gB r4.cells 0) (gI r4.cells 1) (gI r4.cells 2) (gI r4.cells 3) (2 : Int) ([120] : List UInt8) ([] : List UInt8) (0 : Int)) fun r5 => (oB (qg5 (167837696 : Int) (16 : Int)) fun r6 => (oB (qqq r5.1 (gB r6.cells 0) (gI r6.cells 1) (gI r6.cells 2) (gI r6.cells 3)) fun r7 => (oB (qg5 (167837696 : Int) (16 : Int)) fun r8 => (oB (qsn r7.1 (gB r8.cells 0) (gI r8.cells 1) (gI r8.cells 2) (gI r8.cells 3)) fun r9 => (oB (qg5 (167772166 : Int) (32 : Int)) fun r10 => (oB (qmi r1 (gB r10.cells 0) (gI r10.cells 1) (gI r10.cells 2) (gI r10.cells 3)) fun r11 => (oB (qmj r1 false (0 : Int) (168361984 : Int)) fun r12 => (oB (ixB r1 (0 : Int)) fun y13 => (bif fitC qa y13.cells then (oB (qi2 r1 (gB y13.cells 0) (gI y13.cells 1) (gI y13.cells 2) (gI y13.cells 3)) fun r14 => (oB (ixB r1 (0 : Int)) fun y15 => (bif fitC qa y15.cells then (oB (qpq r1 (gB y15.cells 0) (gI y15.cells 1) (gI y15.cells 2) (gI y15.cells 3)) fun r16 => (qo7 r1 r3.2 r5.1 r5.2 r7.1 r7.2 r9.1 r9.2 r11.2 r12.2 r14 r16 (gB r11.1.cells 0) (gI r11.1.cells 1) (gI r11.1.cells 2) (gI r11.1.cells 3) (gI r11.1.cells 4) (gS r11.1.cells 5) (gS r11.1.cells 6) (gI r11.1.cells 7) (gB r12.1.cells 0) (gI r12.1.cells 1) (gI r12.1.cells 2) (gI r12.1.cells 3) (gI r12.1.cells 4) (gS r12.1.cells 5) (gS r12.1.cells 6) (gI r12.1.cells 7) (fun v125q17 => (bif v125q17 then (some false) else (bif r11.2 then (oB (ixB r1 (1 : Int)) fun y18 => (bif fitC qa y18.cells then (bif (((gB r11.1.cells 0) == (gB y18.cells 0)) && (((gI r11.1.cells 1) == (gI y18.cells 1)) && (((gI r11.1.cells 2) == (gI y18.cells 2)) && (((gI r11.1.cells 3) == (gI y18.cells 3)) && (((gI r11.1.cells 4) == (gI y18.cells 4)) && (((gS r11.1.cells 5) == (gS y18.cells 5)) && (((gS r11.1.cells 6) == (gS y18.cells 6)) && (((gI r11.1.cells 7) == (gI y18.cells 7)) && true)))))))) then (bif r12.2 then (oB (ixB r1 (0 : Int)) fun y19 => (bif fitC qa y19.cells then (bif (((gB r12.1.cells 0) == (gB y19.cells 0)) && (((gI r12.1.cells 1) == (gI y19.cells 1)) && (((gI r12.1.cells 2) == (gI y19.cells 2)) && (((gI r12.1.cells 3) == (gI y19.cells 3)) && (((gI r12.1.cells 4) == (gI y19.cells 4)) && (((gS r12.1.cells 5) == (gS y19.cells 5)) && (((gS r12.1.cells 6) == (gS y19.cells 6)) && (((gI r12.1.cells 7) == (gI y19.cells 7)) && true)))))))) then (bif ((r14.length : Int) == (1 : Int)) then (oB (ixB r14 (0 : Int)) fun y20 => (bif fitC qa y20.cells then (oB (ixB r1 (1 : Int)) fun y21 => (bif fitC qa y21.cells then (bif (((gB y20.cells 0) == (gB y21.cells 0)) && (((gI y20.cells 1) == (gI y21.cells 1)) && (((gI y20.cells 2) == (gI y21.cells 2)) && (((gI y20.cells 3) == (gI y21.cells 3)) && (((gI y20.cells 4) == (gI y21.cells 4)) && (((gS y20.cells 5) == (gS y21.cells 5)) && (((gS y20.cells 6) == (gS y21.cells 6)) && (((gI y20.cells 7) == (gI y21.cells 7)) && true)))))))) then (bif ((r16.length : Int) == (16 : Int)) then (oB (ixB r16 (0 : Int)) fun y22 => (bif fitC qf y22.cells then (oB (qg5 (167772416 : Int) (24 : Int)) fun r23 => (bif (((gB y22.cells 0) == (gB r23.cells 0)) && (((gI y22.cells 1) == (gI r23.cells 1)) && (((gI y22.cells 2) == (gI r23.cells 2)) && (((gI y22.cells 3) == (gI r23.cells 3)) && true)))) then (oB (ixB r16 (15 : Int)) fun y24 => (bif fitC qf y24.cells then (oB (qg5 (176160768 : Int) (9 : Int)) fun r25 => (some (((gB y24.cells 0) == (gB r25.cells 0)) && (((gI y24.cells 1) == (gI r25.cells 1)) && (((gI y24.cells 2) == (gI r25.cells 2)) && (((gI y24.cells 3) == (gI r25.cells 3)) && true)))))) else none)) else (some false))) else none)) else (some false)) else (some false)) else none)) else none)) else (some false)) else (some false)) else none)) else (some false)) else (some false)) else none)) else (some false)))))) else none))) else none)))))))))))) else none)))
def qnm := hull qye
theorem q6j : qnm = qye := qi _
def qyf : AC Bool :=
  .seq (.reg [ao 0 (.mv (.c (.bool false)))]) (.seq (.reg [.callc (po 16 (.call 49 [])) 49 qz5,
 ao 1 (.mv 16)]) (.seq (.reg [ao 18 (.mv 1),
 ao 19 (.mv 1),
 ao 20 (.ia 8 19 (.c (.int .i64 1))),
 .st (.etac 20 qa),
 ao 21 (.fa 0 20),
 ao 22 (.load true 4 21),
 .callc (po 23 (.call 17 [18, 22])) 17 q54,
 ao 17 (.mv 23),
 ao 24 (.ext 17 0),
 ao 25 (.ext 17 1),
 ao 2 (.mv 24),
 ao 3 (.mv 25)]) (.seq (.reg [ao 27 (.mv 1),
 .call (po 28 (.call 50 [(.c (.int .u64 167837696)), (.c (.int .i64 16))])) 50 qgv,
 ao 29 (.build [(.bool false), (.int .u64 0), (.int .u64 0), (.int .i64 0), (.int .i64 0), (.str []), (.str []), (.int .i64 0)] [(0, (4, 28)), (4, (1, (.c (.int .i64 2)))), (5, (1, (.c (.str [120]))))]),
 .callc (po 30 (.call 15 [27, 29])) 15 qbb8,
 ao 26 (.mv 30),
 ao 31 (.ext 26 0),
 ao 32 (.ext 26 1),
 ao 4 (.mv 31),
 ao 5 (.mv 32)]) (.seq (.reg [ao 34 (.mv 4),
 .call (po 35 (.call 50 [(.c (.int .u64 167837696)), (.c (.int .i64 16))])) 50 qgv,
 .callc (po 36 (.call 20 [34, 35])) 20 q73,
 ao 33 (.mv 36),
 ao 37 (.ext 33 0),
 ao 38 (.ext 33 1),
 ao 6 (.mv 37),
 ao 7 (.mv 38)]) (.seq (.reg [ao 40 (.mv 6),
 .call (po 41 (.call 50 [(.c (.int .u64 167837696)), (.c (.int .i64 16))])) 50 qgv,
 .callc (po 42 (.call 22 [40, 41])) 22 q92,
 ao 39 (.mv 42),
 ao 43 (.ext 39 0),
 ao 44 (.ext 39 1),
 ao 8 (.mv 43),
 ao 9 (.mv 44)]) (.seq (.reg [ao 46 (.mv 1),
 .call (po 47 (.call 50 [(.c (.int .u64 167772166)), (.c (.int .i64 32))])) 50 qgv,
 .call (po 48 (.call 26 [46, 47])) 26 qv6,
 ao 45 (.mv 48),
 ao 49 (.ext 45 0),
 ao 50 (.ext 45 1),
 ao 10 (.alloc [(.bool false), (.int .u64 0), (.int .u64 0), (.int .i64 0), (.int .i64 0), (.str []), (.str []), (.int .i64 0)]),
 an (.store 8 10 49),
 ao 11 (.mv 50)]) (.seq (.reg [ao 52 (.mv 1),
 ao 53 (.build [(.bool false), (.int .u64 0), (.int .u64 0)] [(2, (1, (.c (.int .u64 168361984))))]),
 .call (po 54 (.call 28 [52, 53])) 28 qwa,
 ao 51 (.mv 54),
 ao 55 (.ext 51 0),
 ao 56 (.ext 51 1),
 ao 12 (.alloc [(.bool false), (.int .u64 0), (.int .u64 0), (.int .i64 0), (.int .i64 0), (.str []), (.str []), (.int .i64 0)]),
 an (.store 8 12 55),
 ao 13 (.mv 56)]) (.seq (.reg [ao 57 (.mv 1),
 ao 58 (.mv 1),
 ao 59 (.ia 8 58 (.c (.int .i64 0))),
 .st (.etac 59 qa),
 ao 60 (.fa 0 59),
 ao 61 (.load true 4 60),
 .callc (po 62 (.call 30 [57, 61])) 30 qs4,
 ao 14 (.mv 62)]) (.seq (.reg [ao 63 (.mv 1),
 ao 64 (.mv 1),
 ao 65 (.ia 8 64 (.c (.int .i64 0))),
 .st (.etac 65 qa),
 ao 66 (.fa 0 65),
 ao 67 (.load true 4 66),
 .callc (po 68 (.call 33 [63, 67])) 33 q0n,
 ao 15 (.mv 68)]) (.seq (.seq (.seq (.view [.sel [1, 3, 4, 5, 6, 7, 8, 9, 10, 11, 12, 13, 14, 15] [0, 1]]) (.sub (scOf qm4) q0r)) (.cond 125 (.seq (.reg [ao 0 (.mv (.c (.bool false)))]) (.ret)) (.skip))) (.seq (.draw [] [ao 126 (.mv 11),
 ao 127 (.mv 126),
 ag 128 127 true (.load true 8 10),
 ag 129 127 true (.mv 1),
 ag 130 127 true (.ia 8 129 (.c (.int .i64 1))),
 .et 130 qa,
 ag 131 127 true (.load true 8 130),
 ag 132 127 true (.eq false true [.b, (.i .u64), (.i .u64), (.i .i64), (.i .i64), .s, .s, (.i .i64)] 128 131),
 ao 133 (.pick 127 132 (.c (.bool false))),
 ao 134 (.mv 133),
 ag 135 134 true (.mv 13),
 ao 136 (.pick 134 135 (.c (.bool false))),
 ao 137 (.mv 136),
 ag 138 137 true (.load true 8 12),
 ag 139 137 true (.mv 1),
 ag 140 137 true (.ia 8 139 (.c (.int .i64 0))),
 .et 140 qa,
 ag 141 137 true (.load true 8 140),
 ag 142 137 true (.eq false true [.b, (.i .u64), (.i .u64), (.i .i64), (.i .i64), .s, .s, (.i .i64)] 138 141),
 ao 143 (.pick 137 142 (.c (.bool false))),
 ao 144 (.mv 143),
 ag 145 144 true (.mv 14),
 ag 146 144 true (.len false 145),
 ag 147 144 true (.bin .eql 146 (.c (.int .i64 1))),
 ao 148 (.pick 144 147 (.c (.bool false))),
 ao 149 (.mv 148),
 ag 150 149 true (.mv 14),
 ag 151 149 true (.ia 8 150 (.c (.int .i64 0))),
 .et 151 qa,
 ag 152 149 true (.load true 8 151),
 ag 153 149 true (.mv 1),
 ag 154 149 true (.ia 8 153 (.c (.int .i64 1))),
 .et 154 qa,
 ag 155 149 true (.load true 8 154),
 ag 156 149 true (.eq false true [.b, (.i .u64), (.i .u64), (.i .i64), (.i .i64), .s, .s, (.i .i64)] 152 155),
 ao 157 (.pick 149 156 (.c (.bool false))),
 ao 158 (.mv 157),
 ag 159 158 true (.mv 15),
 ag 160 158 true (.len false 159),
 ag 161 158 true (.bin .eql 160 (.c (.int .i64 16))),
 ao 162 (.pick 158 161 (.c (.bool false))),
 ao 163 (.mv 162),
 ag 164 163 true (.mv 15),
 ag 165 163 true (.ia 4 164 (.c (.int .i64 0))),
 .et 165 qf,
 ag 166 163 true (.load true 4 165),
 .call (pg 167 163 true (.call 50 [(.c (.int .u64 167772416)), (.c (.int .i64 24))])) 50 qgv,
 ag 168 163 true (.eq false true [.b, (.i .u64), (.i .u64), (.i .i64)] 166 167),
 ao 169 (.pick 163 168 (.c (.bool false))),
 ao 170 (.mv 169),
 ag 171 170 true (.mv 15),
 ag 172 170 true (.ia 4 171 (.c (.int .i64 15))),
 .et 172 qf,
 ag 173 170 true (.load true 4 172),
 .call (pg 174 170 true (.call 50 [(.c (.int .u64 176160768)), (.c (.int .i64 9))])) 50 qgv] [ag 175 170 true (.eq false true [.b, (.i .u64), (.i .u64), (.i .i64)] 173 174),
 ao 176 (.pick 170 175 (.c (.bool false))),
 ao 0 (.mv 176)]) (.ret))))))))))))
theorem qbny : AC.ok Try.prog (TIof Try.prog) 177 0 (kret [.t 0] decB) qyf := qm (zA (qc.ok qbi4) (zA (qc.ok qbsh) (zA (qc.ok qmg) (zA (qc.ok qbzl) (zA (qc.ok qmg) (zA (qc.ok qbvx) (zA (qc.ok qmg) (zA (qc.ok qbyn) (zA (qc.ok qmg) (zA (qc.ok q93) (zA (qc.ok q94) (zA (qc.ok q6f) (zA (qc.ok qbf8) (zA qbep (zA (qc.ok qmg) (zA (qc.ok qmg) (zA rfl trivial)))))))))))))))))
theorem qbqv : den 0 (kret [.t 0] decB) qyf (qh []) (qg []) (kend (kret [.t 0] decB)) = qnm := by
  rw [q6j]; kernel_rfl
theorem qbqw : cFn (TIof Try.prog) Try.f13 = some ⟨177, [.t 0], scOf qyf⟩ := by kernel_rfl
def qbqx (xs : List AV) : Option Bool := qnm
def qut {R : Type} : List AV → (AV → Option R) → Option R := entF qbjr qbqx AV.bool
theorem q8d {R : Type} : qc Try.prog 13 (qut (R := R)) :=
  qba tabOk follows Try.func13 (by kernel_rfl) qbqw hdeB qbny (qn (by kernel_rfl)) fun xs => qbqv
def qfp (z : AV) : Option (AV × Bool) := cond (qhy [(.st [.b, (.i .u64), (.i .u64), (.i .i64), (.i .i64), .s, .s, (.i .i64)]), (.one .b)] z) (some ((gC (tpL z) 0), aB (gC (tpL z) 1))) none
def qbnz (r : AV × Bool) : AV := .tup [qll (.st [.b, (.i .u64), (.i .u64), (.i .i64), (.i .i64), .s, .s, (.i .i64)]) r.1, .bool r.2]
def qm5  (Au : Bool) (Av Aw Ax Bv : Int) (Bw Bx : List UInt8) (By : Int) (K : Ex → Env → Mem → Option (AV × Bool)) := (fun (_ : Unit) => K (.exit 0) (qh [(4, (.ptr 0 0))]) (qg [(some (.box true (qd Au Av Aw Ax Bv Bw Bx By)))]))
def qbeq : Shp := ⟨[(0, .one (.l (.sl 8))), (3, .one (.ptr 0 0)), (4, .one (.ptr 1 0)), (6, .one (.l (.i .i64)))], [.box true (lk qf), .box true (lk qa)]⟩
def qs5 (v0 : List AV) (v6 : Int) (Ai : Bool) (Aj Ak Al : Int) (Au : Bool) (Av Aw Ax Bv : Int) (Bw Bx : List UInt8) (By : Int) : Env := qh [(0, (.sl 8 v0)), (3, (.ptr 0 0)), (4, (.ptr 1 0)), (6, (.int .i64 v6))]
def qs6 (v0 : List AV) (v6 : Int) (Ai : Bool) (Aj Ak Al : Int) (Au : Bool) (Av Aw Ax Bv : Int) (Bw Bx : List UInt8) (By : Int) : Mem := qg [(some (.box true (qb Ai Aj Ak Al))), (some (.box true (qd Au Av Aw Ax Bv Bw Bx By)))]
def qhs  (v0 : List AV) (v6 : Int) (Ai : Bool) (Aj Ak Al : Int) (Au : Bool) (Av Aw Ax Bv : Int) (Bw Bx : List UInt8) (By : Int) (next : Int → Option (AV × Bool)) (kx0 : Unit → Option (AV × Bool)) : Option (AV × Bool) :=
  (bif (decide (v6 < (v0.length : Int))) then (oB (ixB v0 v6) fun y1 => (bif fitC qa y1.cells then (bif (((gB y1.cells 0) == Ai) && (((gI y1.cells 1) == Aj) && (((gI y1.cells 2) == Ak) && (((gI y1.cells 3) == Al) && true)))) then (oB (ixB v0 v6) fun y2 => (bif fitC qa y2.cells then (some ((.agg [(.bool (gB y2.cells 0)), (.int .u64 (gI y2.cells 1)), (.int .u64 (gI y2.cells 2)), (.int .i64 (gI y2.cells 3)), (.int .i64 (gI y2.cells 4)), (.str (gS y2.cells 5)), (.str (gS y2.cells 6)), (.int .i64 (gI y2.cells 7))]), true)) else none)) else (next (IntKind.i64.wrap (v6 + (1 : Int))))) else none)) else (kx0 ()))
def qo8  (v0 : List AV) (Ai : Bool) (Aj Ak Al : Int) (Au : Bool) (Av Aw Ax Bv : Int) (Bw Bx : List UInt8) (By : Int) (kx0 : Unit → Option (AV × Bool)) : Nat → Int → Option (AV × Bool)
  | 0 => (fun _ => none)
  | n + 1 => (fun v6 => qhs v0 v6 Ai Aj Ak Al Au Av Aw Ax Bv Bw Bx By (qo8 v0 Ai Aj Ak Al Au Av Aw Ax Bv Bw Bx By kx0 n) kx0)
def qn0 := hull (qo8)
theorem q13 : qn0 = qo8 := qi _
def qht : AC (AV × Bool) :=
  .seq (.seq (.reg [ao 7 (.mv 6),
 ao 8 (.mv 0),
 ao 9 (.len false 8),
 ao 10 (.bin .lss 7 9)]) (.cond 10 (.skip) (.seq (.view [.sel [4] [1]]) (.exit 0)))) (.seq (.block 1 (.seq (.draw [] [ao 13 (.mv 0),
 ao 14 (.mv 6),
 ao 15 (.ia 8 13 14),
 .et 15 qa,
 ao 16 (.fa 0 15),
 ao 17 (.load true 4 16),
 ao 18 (.load true 4 3)] [ao 19 (.eq false true [.b, (.i .u64), (.i .u64), (.i .i64)] 17 18)]) (.cond 19 (.seq (.reg [ao 20 (.mv 0),
 ao 21 (.mv 6),
 ao 22 (.ia 8 20 21),
 .st (.etac 22 qa),
 ao 23 (.load true 8 22),
 an (.store 8 4 23),
 ao 5 (.mv (.c (.bool true)))]) (.ret)) (.skip)))) (.seq (.reg [ao 11 (.mv 6),
 ao 12 (.bin .add 11 (.c (.int .i64 1))),
 ao 6 (.mv 12)]) (.view [.sel [0, 3, 4, 6] [0, 1]])))
theorem qbhh : AC.ok Try.prog (TIof Try.prog) 25 0 (kret [(.cell 4 true 8), .t 5] qfp) qht := qm (zA rfl trivial)
theorem qber (v0 : List AV) (v6 : Int) (Ai : Bool) (Aj Ak Al : Int) (Au : Bool) (Av Aw Ax Bv : Int) (Bw Bx : List UInt8) (By : Int) (K : Ex → Env → Mem → Option (AV × Bool)) : den 0 (kret [(.cell 4 true 8), .t 5] qfp) qht (qs5 v0 v6 Ai Aj Ak Al Au Av Aw Ax Bv Bw Bx By) (qs6 v0 v6 Ai Aj Ak Al Au Av Aw Ax Bv Bw Bx By) K = qhs v0 v6 Ai Aj Ak Al Au Av Aw Ax Bv Bw Bx By (fun z_v6 => K .norm (qs5 v0 z_v6 Ai Aj Ak Al Au Av Aw Ax Bv Bw Bx By) (qs6 v0 z_v6 Ai Aj Ak Al Au Av Aw Ax Bv Bw Bx By)) (qm5 Au Av Aw Ax Bv Bw Bx By K) := by kernel_rfl
theorem qbjs (v0 : List AV) (Ai : Bool) (Aj Ak Al : Int) (Au : Bool) (Av Aw Ax Bv : Int) (Bw Bx : List UInt8) (By : Int) (K : Ex → Env → Mem → Option (AV × Bool)) : ∀ (n : Nat) (v6 : Int), qep (den 0 (kret [(.cell 4 true 8), .t 5] qfp) qht) n (qs5 v0 v6 Ai Aj Ak Al Au Av Aw Ax Bv Bw Bx By) (qs6 v0 v6 Ai Aj Ak Al Au Av Aw Ax Bv Bw Bx By) K = qn0 v0 Ai Aj Ak Al Au Av Aw Ax Bv Bw Bx By (qm5 Au Av Aw Ax Bv Bw Bx By K) n v6 := by
  rw [q13]
  intro n
  induction n with
  | zero => intros; rfl
  | succ n ih =>
 intro v6
 exact (qber v0 v6 Ai Aj Ak Al Au Av Aw Ax Bv Bw Bx By (itK (den 0 (kret [(.cell 4 true 8), .t 5] qfp) qht) n K)).trans (congrArg (fun q => qhs v0 v6 Ai Aj Ak Al Au Av Aw Ax Bv Bw Bx By q (qm5 Au Av Aw Ax Bv Bw Bx By K)) (funext fun v6 => ih v6))
def q4l := subE (R := AV × Bool) qbeq fun t m K => qj (bxC (m.s 1)) (qe (bxC (m.s 0)) (qn0 (gL [t 0] 0))) (qm5 (gB (bxC (m.s 1)) 0) (gI (bxC (m.s 1)) 1) (gI (bxC (m.s 1)) 2) (gI (bxC (m.s 1)) 3) (gI (bxC (m.s 1)) 4) (gS (bxC (m.s 1)) 5) (gS (bxC (m.s 1)) 6) (gI (bxC (m.s 1)) 7) K) FU (gI [t 6] 0)
theorem qbjt : qcb Try.prog (TIof Try.prog) 25 0 (kret [(.cell 4 true 8), .t 5] qfp) (.loop (scOf qht)) (q4l) :=
  qdt tabOk follows (qbhh) (qn (by kernel_rfl)) fun t m K => qbjs _ _ _ _ _ _ _ _ _ _ _ _ _ K FU _
def qbn0 : Shp := ⟨[(0, .one (.l (.sl 8))), (1, .st (lk qf))], []⟩
def q0s (v0 : List AV) (Aq : Bool) (Ar As At : Int) : Option (AV × Bool) :=
  (qn0 v0 Aq Ar As At false (0 : Int) (0 : Int) (0 : Int) (0 : Int) ([] : List UInt8) ([] : List UInt8) (0 : Int) (fun (_ : Unit) => (some ((.agg [(.bool false), (.int .u64 (0 : Int)), (.int .u64 (0 : Int)), (.int .i64 (0 : Int)), (.int .i64 (0 : Int)), (.str ([] : List UInt8)), (.str ([] : List UInt8)), (.int .i64 (0 : Int))]), false))) FU (0 : Int))
def qoo := hull q0s
theorem q8e : qoo = q0s := qi _
def q0t : AC (AV × Bool) :=
  .seq (.reg [ao 3 (.box 1),
 ao 4 (.alloc [(.bool false), (.int .u64 0), (.int .u64 0), (.int .i64 0), (.int .i64 0), (.str []), (.str []), (.int .i64 0)]),
 ao 5 (.mv (.c (.bool false)))]) (.seq (.seq (.reg [ao 6 (.mv (.c (.int .i64 0)))]) (.block 0 (.seq (.view [.sel [0, 3, 4, 6] [0, 1]]) (.sub (.loop (scOf qht)) q4l)))) (.seq (.reg [ao 24 (.build [(.bool false), (.int .u64 0), (.int .u64 0), (.int .i64 0), (.int .i64 0), (.str []), (.str []), (.int .i64 0)] []),
 an (.store 8 4 24),
 ao 5 (.mv (.c (.bool false)))]) (.ret)))
theorem qbqy : AC.ok Try.prog (TIof Try.prog) 25 0 (kret [(.cell 4 true 8), .t 5] qfp) q0t := qm (zA qbjt trivial)
theorem qbs6 (v0 : List AV) (Aq : Bool) (Ar As At : Int) : den 0 (kret [(.cell 4 true 8), .t 5] qfp) q0t (qh [(0, (.sl 8 v0)), (1, .agg (qb Aq Ar As At))]) (qg []) (kend (kret [(.cell 4 true 8), .t 5] qfp)) = qoo v0 Aq Ar As At := by
  rw [q8e]; kernel_rfl
theorem qbs7 : cFn (TIof Try.prog) Try.f25 = some ⟨25, [(.cell 4 true 8), .t 5], scOf q0t⟩ := by kernel_rfl
def qbs8 (xs : List AV) : Option (AV × Bool) := qe ((qk xs) 1).cells (qoo (gL [(qk xs) 0] 0))
def qwg {R : Type} : List AV → (AV → Option R) → Option R := entF qbn0 qbs8 qbnz
theorem q96 {R : Type} : qc Try.prog 25 (qwg (R := R)) :=
  qba tabOk follows Try.func25 (by kernel_rfl) qbs7 (fun z r h => by
 obtain ⟨h1, h2⟩ := qo h
 cases h2
 exact (qez h1).symm) qbqy (qn (by kernel_rfl)) fun xs => qbs6 _ _ _ _ _
end
end Go.Proofs.Ytmjdngnagiloeaa.Dn
