import Derived.Test.YtmjdngnagiloeaaProg
import Derived.Test.YtmjdngnagiloeaaBgLibD
import Derived.Test.YtmjdngnagiloeaaBgDn46x1
set_option linter.all false
namespace Go.Proofs.Ytmjdngnagiloeaa.Dn
open Go Go.Pev
set_option linter.unusedVariables false
set_option linter.unusedSimpArgs false
set_option maxRecDepth 100000
set_option maxHeartbeats 4000000
def qdm (z : AV) : Option (AV × Bool) := cond (qgm [(.st [.b, (.i .u64), (.i .u64), (.i .i64)]), (.one .b)] z) (some ((gC (tpL z) 0), aB (gC (tpL z) 1))) none
def qbsi (r : AV × Bool) : AV := .tup [ql5 (.st [.b, (.i .u64), (.i .u64), (.i .i64)]) r.1, .bool r.2]
def q6h  (v1 v2 : Int) (Ai : Bool) (Aj Ak Al : Int) (Au : Bool) (Av Aw Ax : Int) (K : Ex → Env → Mem → Option (AV × Bool)) := (fun z_v28 => K .norm (qh [(1, (.int .i64 v1)), (2, (.int .u64 v2)), (3, (.ptr 0 0)), (6, (.ptr 1 0)), (28, (.bool z_v28))]) (qg [(some (.box true (qa Ai Aj Ak Al))), (some (.box true (qa Au Av Aw Ax)))]))
def qbi4 : Shp := ⟨[(1, .one (.l (.i .i64))), (2, .one (.l (.i .u64))), (3, .one (.ptr 0 0)), (6, .one (.ptr 1 0))], [.box true (lk qf), .box true (lk qf)]⟩
noncomputable section
def qxr  (v1 v2 : Int) (Ai : Bool) (Aj Ak Al : Int) (Au : Bool) (Av Aw Ax : Int) (kn : Bool → Option (AV × Bool)) : Option (AV × Bool) :=
  (oB (qg2 Ai Aj Ak Al) fun r1 => (bif ((!r1) || (decide (v1 < Al))) then (kn true) else (oB (qjn Ai Aj Ak) fun r2 => (kn (decide (v1 > r2))))))
def qqe := hull (qxr)
theorem q6i : qqe = qxr := qj _
def qrc : AC (AV × Bool) :=
  .seq (.reg [ao 13 (.load true 4 3),
 .call (po 14 (.call 71 [13])) 71 qha,
 ao 15 (.un .not 14),
 ao 16 (.mv 15),
 .grp 16 false [(pg 17 16 false (.mv 1)), (pg 18 16 false (.fa 3 3)), (pg 19 16 false (.load false 1 18)), (pg 20 16 false (.bin .lss 17 19))] 21 20,
 ao 22 (.mv 21),
 ag 23 22 false (.mv 1),
 ag 24 22 false (.fa 0 3),
 ag 25 22 false (.load true 3 24),
 .call (pg 26 22 false (.call 76 [25])) 76 qmd,
 ag 27 22 false (.bin .gtr 23 26),
 ao 28 (.pick 22 (.c (.bool true)) 27)]) (.view [.sel [1, 2, 3, 6, 28] [0, 1]])
theorem qbm1 : AC.ok Try.prog (TIof Try.prog) 81 0 (kret [(.cell 6 true 4), .t 7] qdm) qrc := qm (zA (qd.ok qm8) (zA (qd.ok qs6) trivial))
theorem qbp9 (v1 v2 : Int) (Ai : Bool) (Aj Ak Al : Int) (Au : Bool) (Av Aw Ax : Int) (K : Ex → Env → Mem → Option (AV × Bool)) : den 0 (kret [(.cell 6 true 4), .t 7] qdm) qrc (qh [(1, (.int .i64 v1)), (2, (.int .u64 v2)), (3, (.ptr 0 0)), (6, (.ptr 1 0))]) (qg [(some (.box true (qa Ai Aj Ak Al))), (some (.box true (qa Au Av Aw Ax)))]) K = qqe v1 v2 Ai Aj Ak Al Au Av Aw Ax (q6h v1 v2 Ai Aj Ak Al Au Av Aw Ax K) := by
  rw [q6i]; kernel_rfl
def q76 := subE (R := AV × Bool) qbi4 fun t m K => qe (bxC (m.s 1)) (qe (bxC (m.s 0)) (qqe (gI [t 1] 0) (gI [t 2] 0))) (q6h (gI [t 1] 0) (gI [t 2] 0) (gB (bxC (m.s 0)) 0) (gI (bxC (m.s 0)) 1) (gI (bxC (m.s 0)) 2) (gI (bxC (m.s 0)) 3) (gB (bxC (m.s 1)) 0) (gI (bxC (m.s 1)) 1) (gI (bxC (m.s 1)) 2) (gI (bxC (m.s 1)) 3) K)
theorem qbqa : qca Try.prog (TIof Try.prog) 81 0 (kret [(.cell 6 true 4), .t 7] qdm) (scOf qrc) (q76) :=
  qet tabOk follows (qbm1) (qn (by kernel_rfl)) fun t m K => qbp9 _ _ _ _ _ _ _ _ _ _ K
def q4d  (v1 v2 : Int) (Ai : Bool) (Aj Ak Al : Int) (Au : Bool) (Av Aw Ax : Int) (K : Ex → Env → Mem → Option (AV × Bool)) := (fun z_v42 => K .norm (qh [(1, (.int .i64 v1)), (2, (.int .u64 v2)), (3, (.ptr 0 0)), (6, (.ptr 1 0)), (42, (.bool z_v42))]) (qg [(some (.box true (qa Ai Aj Ak Al))), (some (.box true (qa Au Av Aw Ax)))]))
def qbgx : Shp := ⟨[(1, .one (.l (.i .i64))), (2, .one (.l (.i .u64))), (3, .one (.ptr 0 0)), (6, .one (.ptr 1 0)), (8, .one (.l (.i .i64)))], [.box true (lk qf), .box true (lk qf)]⟩
def qpr  (v1 v2 v8 : Int) (Ai : Bool) (Aj Ak Al : Int) (Au : Bool) (Av Aw Ax : Int) (kn : Bool → Option (AV × Bool)) : Option (AV × Bool) :=
  (bif (decide (v8 < (64 : Int))) then (bif decide ((IntKind.u64.wrap v8) < 0) then none else (kn ((v2.fdiv (2 ^ min (IntKind.u64.wrap v8).toNat IntKind.u64.bits)) != (0 : Int)))) else (kn false))
def qtd := hull (qpr)
theorem quc : qtd = qpr := qj _
def qps : AC (AV × Bool) :=
  .seq (.reg [ao 34 (.mv 8),
 ao 35 (.bin .lss 34 (.c (.int .i64 64))),
 ao 36 (.mv 35),
 ag 37 36 true (.mv 2),
 ag 38 36 true (.mv 8),
 ag 39 36 true (.conv (.int .u64) 38),
 ag 40 36 true (.bin .shr 37 39),
 ag 41 36 true (.bin .neq 40 (.c (.int .u64 0))),
 ao 42 (.pick 36 41 (.c (.bool false)))]) (.view [.sel [1, 2, 3, 6, 42] [0, 1]])
theorem qbi5 : AC.ok Try.prog (TIof Try.prog) 81 0 (kret [(.cell 6 true 4), .t 7] qdm) qps := qm trivial
theorem qbm2 (v1 v2 v8 : Int) (Ai : Bool) (Aj Ak Al : Int) (Au : Bool) (Av Aw Ax : Int) (K : Ex → Env → Mem → Option (AV × Bool)) : den 0 (kret [(.cell 6 true 4), .t 7] qdm) qps (qh [(1, (.int .i64 v1)), (2, (.int .u64 v2)), (3, (.ptr 0 0)), (6, (.ptr 1 0)), (8, (.int .i64 v8))]) (qg [(some (.box true (qa Ai Aj Ak Al))), (some (.box true (qa Au Av Aw Ax)))]) K = qtd v1 v2 v8 Ai Aj Ak Al Au Av Aw Ax (q4d v1 v2 Ai Aj Ak Al Au Av Aw Ax K) := by
  rw [quc]; kernel_rfl
def q6j := subE (R := AV × Bool) qbgx fun t m K => qe (bxC (m.s 1)) (qe (bxC (m.s 0)) (qtd (gI [t 1] 0) (gI [t 2] 0) (gI [t 8] 0))) (q4d (gI [t 1] 0) (gI [t 2] 0) (gB (bxC (m.s 0)) 0) (gI (bxC (m.s 0)) 1) (gI (bxC (m.s 0)) 2) (gI (bxC (m.s 0)) 3) (gB (bxC (m.s 1)) 0) (gI (bxC (m.s 1)) 1) (gI (bxC (m.s 1)) 2) (gI (bxC (m.s 1)) 3) K)
theorem qbm3 : qca Try.prog (TIof Try.prog) 81 0 (kret [(.cell 6 true 4), .t 7] qdm) (scOf qps) (q6j) :=
  qet tabOk follows (qbi5) (qn (by kernel_rfl)) fun t m K => qbm2 _ _ _ _ _ _ _ _ _ _ _ K
def q4e  (v1 : Int) (Ai : Bool) (Aj Ak Al : Int) (Au : Bool) (Av Aw Ax : Int) (K : Ex → Env → Mem → Option (AV × Bool)) := (fun z_v10 z_v11 => K .norm (qh [(1, (.int .i64 v1)), (3, (.ptr 0 0)), (6, (.ptr 1 0)), (10, (.int .u64 z_v10)), (11, (.int .u64 z_v11))]) (qg [(some (.box true (qa Ai Aj Ak Al))), (some (.box true (qa Au Av Aw Ax)))]))
def qbgy : Shp := ⟨[(1, .one (.l (.i .i64))), (2, .one (.l (.i .u64))), (3, .one (.ptr 0 0)), (6, .one (.ptr 1 0)), (9, .one (.l (.i .u64))), (10, .one (.l (.i .u64))), (11, .one (.l (.i .u64)))], [.box true (lk qf), .box true (lk qf)]⟩
def qpt  (v1 v2 v9 v10 v11 : Int) (Ai : Bool) (Aj Ak Al : Int) (Au : Bool) (Av Aw Ax : Int) (kn : Int → Int → Option (AV × Bool)) : Option (AV × Bool) :=
  (bif (decide (v9 ≥ (64 : Int))) then (bif decide ((IntKind.u64.wrap (v9 - (64 : Int))) < 0) then none else (kn (IntKind.u64.wrap (v2 * 2 ^ min (IntKind.u64.wrap (v9 - (64 : Int))).toNat IntKind.u64.bits)) (0 : Int))) else (bif (decide (v9 > (0 : Int))) then (bif decide ((IntKind.u64.wrap ((64 : Int) - v9)) < 0) then none else (bif decide (v9 < 0) then none else (kn (v2.fdiv (2 ^ min (IntKind.u64.wrap ((64 : Int) - v9)).toNat IntKind.u64.bits)) (IntKind.u64.wrap (v2 * 2 ^ min v9.toNat IntKind.u64.bits))))) else (kn v10 v11)))
def qiw := hull (qpt)
theorem qud : qiw = qpt := qj _
def qpu : AC (AV × Bool) :=
  .seq (.reg [ao 51 (.mv 9),
 ao 52 (.bin .geq 51 (.c (.int .u64 64)))]) (.cond 52 (.seq (.reg [ao 53 (.mv 2),
 ao 54 (.mv 9),
 ao 55 (.bin .sub 54 (.c (.int .u64 64))),
 ao 56 (.bin .shl 53 55),
 ao 10 (.mv 56),
 ao 11 (.mv (.c (.int .u64 0)))]) (.view [.sel [1, 3, 6, 10, 11] [0, 1]])) (.seq (.reg [ao 57 (.mv 9),
 ao 58 (.bin .gtr 57 (.c (.int .u64 0)))]) (.cond 58 (.seq (.reg [ao 59 (.mv 2),
 ao 60 (.mv 9),
 ao 61 (.bin .sub (.c (.int .u64 64)) 60),
 ao 62 (.bin .shr 59 61),
 ao 63 (.mv 2),
 ao 64 (.mv 9),
 ao 65 (.bin .shl 63 64),
 ao 10 (.mv 62),
 ao 11 (.mv 65)]) (.view [.sel [1, 3, 6, 10, 11] [0, 1]])) (.seq (.skip) (.view [.sel [1, 3, 6, 10, 11] [0, 1]])))))
theorem qbi6 : AC.ok Try.prog (TIof Try.prog) 81 0 (kret [(.cell 6 true 4), .t 7] qdm) qpu := qm trivial
theorem qbm4 (v1 v2 v9 v10 v11 : Int) (Ai : Bool) (Aj Ak Al : Int) (Au : Bool) (Av Aw Ax : Int) (K : Ex → Env → Mem → Option (AV × Bool)) : den 0 (kret [(.cell 6 true 4), .t 7] qdm) qpu (qh [(1, (.int .i64 v1)), (2, (.int .u64 v2)), (3, (.ptr 0 0)), (6, (.ptr 1 0)), (9, (.int .u64 v9)), (10, (.int .u64 v10)), (11, (.int .u64 v11))]) (qg [(some (.box true (qa Ai Aj Ak Al))), (some (.box true (qa Au Av Aw Ax)))]) K = qiw v1 v2 v9 v10 v11 Ai Aj Ak Al Au Av Aw Ax (q4e v1 Ai Aj Ak Al Au Av Aw Ax K) := by
  rw [qud]; kernel_rfl
def q6k := subE (R := AV × Bool) qbgy fun t m K => qe (bxC (m.s 1)) (qe (bxC (m.s 0)) (qiw (gI [t 1] 0) (gI [t 2] 0) (gI [t 9] 0) (gI [t 10] 0) (gI [t 11] 0))) (q4e (gI [t 1] 0) (gB (bxC (m.s 0)) 0) (gI (bxC (m.s 0)) 1) (gI (bxC (m.s 0)) 2) (gI (bxC (m.s 0)) 3) (gB (bxC (m.s 1)) 0) (gI (bxC (m.s 1)) 1) (gI (bxC (m.s 1)) 2) (gI (bxC (m.s 1)) 3) K)
theorem qbm5 : qca Try.prog (TIof Try.prog) 81 0 (kret [(.cell 6 true 4), .t 7] qdm) (scOf qpu) (q6k) :=
  qet tabOk follows (qbi6) (qn (by kernel_rfl)) fun t m K => qbm4 _ _ _ _ _ _ _ _ _ _ _ _ _ K
def qbsj : Shp := ⟨[(0, .st (lk qf)), (1, .one (.l (.i .i64))), (2, .one (.l (.i .u64)))], []⟩
def qww (Aa : Bool) (Ab Ac Ad v1 v2 : Int) : Option (AV × Bool) :=
  (qqe v1 v2 Aa Ab Ac Ad false (0 : Int) (0 : Int) (0 : Int) (fun v28q1 => (bif v28q1 then (some ((.agg [(.bool false), (.int .u64 (0 : Int)), (.int .u64 (0 : Int)), (.int .i64 (0 : Int))]), false)) else (qtd v1 v2 (IntKind.i64.wrap (v1 - Ad)) Aa Ab Ac Ad false (0 : Int) (0 : Int) (0 : Int) (fun v42q2 => (bif v42q2 then (some ((.agg [(.bool false), (.int .u64 (0 : Int)), (.int .u64 (0 : Int)), (.int .i64 (0 : Int))]), false)) else (oB (qjn Aa Ab Ac) fun r3 => (qiw v1 v2 (IntKind.u64.wrap (IntKind.i64.wrap (r3 - v1))) (0 : Int) v2 Aa Ab Ac Ad false (0 : Int) (0 : Int) (0 : Int) (fun v10q4 v11q5 => (some ((.agg [(.bool Aa), (.int .u64 (qb4 .or .u64 Ab v10q4)), (.int .u64 (qb4 .or .u64 Ac v11q5)), (.int .i64 v1)]), true)))))))))))
def qpa := hull qww
theorem q2r : qpa = qww := qj _
def q5l : AC (AV × Bool) :=
  .seq (.reg [ao 3 (.box 0),
 ao 6 (.alloc [(.bool false), (.int .u64 0), (.int .u64 0), (.int .i64 0)]),
 ao 7 (.mv (.c (.bool false)))]) (.seq (.seq (.seq (.view [.sel [1, 2, 3, 6] [0, 1]]) (.sub (scOf qrc) q76)) (.cond 28 (.seq (.reg [ao 29 (.build [(.bool false), (.int .u64 0), (.int .u64 0), (.int .i64 0)] []),
 an (.store 4 6 29),
 ao 7 (.mv (.c (.bool false)))]) (.ret)) (.skip))) (.seq (.seq (.reg [ao 30 (.mv 1),
 ao 31 (.fa 3 3),
 ao 32 (.load false 1 31),
 ao 33 (.bin .sub 30 32),
 ao 8 (.mv 33)]) (.seq (.seq (.view [.sel [1, 2, 3, 6, 8] [0, 1]]) (.sub (scOf qps) q6j)) (.cond 42 (.seq (.reg [ao 43 (.build [(.bool false), (.int .u64 0), (.int .u64 0), (.int .i64 0)] []),
 an (.store 4 6 43),
 ao 7 (.mv (.c (.bool false)))]) (.ret)) (.skip)))) (.seq (.reg [ao 44 (.fa 0 3),
 ao 45 (.load true 3 44),
 .call (po 46 (.call 76 [45])) 76 qmd,
 ao 47 (.mv 1),
 ao 48 (.bin .sub 46 47),
 ao 49 (.conv (.int .u64) 48),
 ao 9 (.mv 49)]) (.seq (.reg [ao 50 (.mv 2),
 ao 10 (.mv (.c (.int .u64 0))),
 ao 11 (.mv 50)]) (.seq (.seq (.view [.sel [1, 2, 3, 6, 9, 10, 11] [0, 1]]) (.sub (scOf qpu) q6k)) (.seq (.reg [ao 66 (.fa 0 3),
 ao 67 (.load true 3 66),
 ao 12 (.alloc [(.bool false), (.int .u64 0), (.int .u64 0)]),
 an (.store 3 12 67)]) (.seq (.reg [ao 68 (.fa 1 12),
 ao 69 (.load false 1 68),
 ao 70 (.mv 10),
 ao 71 (.bin .or 69 70),
 ao 72 (.fa 1 12),
 an (.store 1 72 71)]) (.seq (.reg [ao 73 (.fa 2 12),
 ao 74 (.load false 1 73),
 ao 75 (.mv 11),
 ao 76 (.bin .or 74 75),
 ao 77 (.fa 2 12),
 an (.store 1 77 76)]) (.seq (.reg [ao 78 (.load true 3 12),
 ao 79 (.mv 1),
 ao 80 (.build [(.bool false), (.int .u64 0), (.int .u64 0), (.int .i64 0)] [(0, (3, 78)), (3, (1, 79))]),
 an (.store 4 6 80),
 ao 7 (.mv (.c (.bool true)))]) (.ret))))))))))
theorem qbvq : AC.ok Try.prog (TIof Try.prog) 81 0 (kret [(.cell 6 true 4), .t 7] qdm) q5l := qm (zA qbqa (zA qbm3 (zA (qd.ok qs6) (zA qbm5 trivial))))
theorem qbyi (Aa : Bool) (Ab Ac Ad v1 v2 : Int) : den 0 (kret [(.cell 6 true 4), .t 7] qdm) q5l (qh [(0, .agg (qa Aa Ab Ac Ad)), (1, (.int .i64 v1)), (2, (.int .u64 v2))]) (qg []) (kend (kret [(.cell 6 true 4), .t 7] qdm)) = qpa Aa Ab Ac Ad v1 v2 := by
  rw [q2r]; kernel_rfl
theorem qbyj : cFn (TIof Try.prog) Try.f96 = some ⟨81, [(.cell 6 true 4), .t 7], scOf q5l⟩ := by kernel_rfl
def qbyk (xs : List AV) : Option (AV × Bool) := qe ((qk xs) 0).cells (qpa) (gI [(qk xs) 1] 0) (gI [(qk xs) 2] 0)
def qzu {R : Type} : List AV → (AV → Option R) → Option R := entF qbsj qbyk qbsi
theorem qbfx {R : Type} : qd Try.prog 96 (qzu (R := R)) :=
  qz tabOk follows Try.func96 (by kernel_rfl) qbyj (fun z r h => by
 obtain ⟨h1, h2⟩ := qo h
 cases h2
 exact (qds h1).symm) qbvq (qn (by kernel_rfl)) fun xs => qbyi _ _ _ _ _ _
def qi6 (z : AV) : Option (AV × AV × Bool) := cond (qgm [(.st [.b, (.i .u64), (.i .u64), (.i .i64)]), (.st [.b, (.i .u64), (.i .u64), (.i .i64)]), (.one .b)] z) (some ((gC (tpL z) 0), (gC (tpL z) 1), aB (gC (tpL z) 2))) none
def qbm6 (r : AV × AV × Bool) : AV := .tup [ql5 (.st [.b, (.i .u64), (.i .u64), (.i .i64)]) r.1, ql5 (.st [.b, (.i .u64), (.i .u64), (.i .i64)]) r.2.1, .bool r.2.2]
def q1n  (Ai : Bool) (Aj Ak Al : Int) (Au : Bool) (Av Aw Ax : Int) (A2 : Bool) (A3 A4 A5 : Int) (A6 : Bool) (A7 A8 A9 : Int) (K : Ex → Env → Mem → Option (AV × AV × Bool)) := (fun z_v22 => K .norm (qh [(1, (.ptr 0 0)), (2, (.ptr 1 0)), (3, (.ptr 2 0)), (5, (.ptr 3 0)), (22, (.bool z_v22))]) (qg [(some (.box true (qa Ai Aj Ak Al))), (some (.box true (qa Au Av Aw Ax))), (some (.box true (qa A2 A3 A4 A5))), (some (.box true (qa A6 A7 A8 A9)))]))
def qbd6 : Shp := ⟨[(1, .one (.ptr 0 0)), (2, .one (.ptr 1 0)), (3, .one (.ptr 2 0)), (5, .one (.ptr 3 0)), (6, .one (.l .b))], [.box true (lk qf), .box true (lk qf), .box true (lk qf), .box true (lk qf)]⟩
def que  (v6 Ai : Bool) (Aj Ak Al : Int) (Au : Bool) (Av Aw Ax : Int) (A2 : Bool) (A3 A4 A5 : Int) (A6 : Bool) (A7 A8 A9 : Int) (kn : Bool → Option (AV × AV × Bool)) : Option (AV × AV × Bool) :=
  (bif (!v6) then (kn true) else (oB (qg2 Ai Aj Ak Al) fun r1 => (kn (!r1))))
def qrd := hull (que)
theorem q1o : qrd = que := qj _
def qoq : AC (AV × AV × Bool) :=
  .seq (.reg [ao 16 (.mv 6),
 ao 17 (.un .not 16),
 ao 18 (.mv 17),
 ag 19 18 false (.load true 4 1),
 .call (pg 20 18 false (.call 71 [19])) 71 qha,
 ag 21 18 false (.un .not 20),
 ao 22 (.pick 18 (.c (.bool true)) 21)]) (.view [.sel [1, 2, 3, 5, 22] [0, 1, 2, 3]])
theorem qbgz : AC.ok Try.prog (TIof Try.prog) 36 0 (kret [(.cell 2 true 4), (.cell 3 true 4), .t 4] qi6) qoq := qm (zA (qd.ok qm8) trivial)
theorem qbi7 (v6 Ai : Bool) (Aj Ak Al : Int) (Au : Bool) (Av Aw Ax : Int) (A2 : Bool) (A3 A4 A5 : Int) (A6 : Bool) (A7 A8 A9 : Int) (K : Ex → Env → Mem → Option (AV × AV × Bool)) : den 0 (kret [(.cell 2 true 4), (.cell 3 true 4), .t 4] qi6) qoq (qh [(1, (.ptr 0 0)), (2, (.ptr 1 0)), (3, (.ptr 2 0)), (5, (.ptr 3 0)), (6, (.bool v6))]) (qg [(some (.box true (qa Ai Aj Ak Al))), (some (.box true (qa Au Av Aw Ax))), (some (.box true (qa A2 A3 A4 A5))), (some (.box true (qa A6 A7 A8 A9)))]) K = qrd v6 Ai Aj Ak Al Au Av Aw Ax A2 A3 A4 A5 A6 A7 A8 A9 (q1n Ai Aj Ak Al Au Av Aw Ax A2 A3 A4 A5 A6 A7 A8 A9 K) := by
  rw [q1o]; kernel_rfl
def q4f := subE (R := AV × AV × Bool) qbd6 fun t m K => qe (bxC (m.s 3)) (qe (bxC (m.s 2)) (qe (bxC (m.s 1)) (qe (bxC (m.s 0)) (qrd (gB [t 6] 0))))) (q1n (gB (bxC (m.s 0)) 0) (gI (bxC (m.s 0)) 1) (gI (bxC (m.s 0)) 2) (gI (bxC (m.s 0)) 3) (gB (bxC (m.s 1)) 0) (gI (bxC (m.s 1)) 1) (gI (bxC (m.s 1)) 2) (gI (bxC (m.s 1)) 3) (gB (bxC (m.s 2)) 0) (gI (bxC (m.s 2)) 1) (gI (bxC (m.s 2)) 2) (gI (bxC (m.s 2)) 3) (gB (bxC (m.s 3)) 0) (gI (bxC (m.s 3)) 1) (gI (bxC (m.s 3)) 2) (gI (bxC (m.s 3)) 3) K)
theorem qbi8 : qca Try.prog (TIof Try.prog) 36 0 (kret [(.cell 2 true 4), (.cell 3 true 4), .t 4] qi6) (scOf qoq) (q4f) :=
  qet tabOk follows (qbgz) (qn (by kernel_rfl)) fun t m K => qbi7 _ _ _ _ _ _ _ _ _ _ _ _ _ _ _ _ _ K
def qbm7 : Shp := ⟨[(0, .st (lk qf))], []⟩
def qzv (Aa : Bool) (Ab Ac Ad : Int) : Option (AV × AV × Bool) :=
  (oB (qpa Aa Ab Ac Ad (IntKind.i64.wrap (Ad + (1 : Int))) (0 : Int)) fun r1 => (qrd r1.2 Aa Ab Ac Ad false (0 : Int) (0 : Int) (0 : Int) false (0 : Int) (0 : Int) (0 : Int) (gB r1.1.cells 0) (gI r1.1.cells 1) (gI r1.1.cells 2) (gI r1.1.cells 3) (fun v22q2 => (bif v22q2 then (some ((.agg [(.bool false), (.int .u64 (0 : Int)), (.int .u64 (0 : Int)), (.int .i64 (0 : Int))]), (.agg [(.bool false), (.int .u64 (0 : Int)), (.int .u64 (0 : Int)), (.int .i64 (0 : Int))]), false)) else (oB (qpa Aa Ab Ac Ad (IntKind.i64.wrap (Ad + (1 : Int))) (1 : Int)) fun r3 => (some ((.agg [(.bool (gB r1.1.cells 0)), (.int .u64 (gI r1.1.cells 1)), (.int .u64 (gI r1.1.cells 2)), (.int .i64 (gI r1.1.cells 3))]), (.agg [(.bool (gB r3.1.cells 0)), (.int .u64 (gI r3.1.cells 1)), (.int .u64 (gI r3.1.cells 2)), (.int .i64 (gI r3.1.cells 3))]), r3.2)))))))
def qmb := hull qzv
theorem q77 : qmb = qzv := qj _
def qzw : AC (AV × AV × Bool) :=
  .seq (.reg [ao 1 (.box 0),
 ao 2 (.alloc [(.bool false), (.int .u64 0), (.int .u64 0), (.int .i64 0)]),
 ao 3 (.alloc [(.bool false), (.int .u64 0), (.int .u64 0), (.int .i64 0)]),
 ao 4 (.mv (.c (.bool false)))]) (.seq (.reg [ao 9 (.load true 4 1),
 ao 10 (.fa 3 1),
 ao 11 (.load false 1 10),
 ao 12 (.bin .add 11 (.c (.int .i64 1))),
 .call (po 13 (.call 96 [9, 12, (.c (.int .u64 0))])) 96 qzu,
 ao 8 (.mv 13),
 ao 14 (.ext 8 0),
 ao 15 (.ext 8 1),
 ao 5 (.alloc [(.bool false), (.int .u64 0), (.int .u64 0), (.int .i64 0)]),
 an (.store 4 5 14),
 ao 6 (.mv 15)]) (.seq (.seq (.seq (.view [.sel [1, 2, 3, 5, 6] [0, 1, 2, 3]]) (.sub (scOf qoq) q4f)) (.cond 22 (.seq (.reg [ao 23 (.build [(.bool false), (.int .u64 0), (.int .u64 0), (.int .i64 0)] []),
 ao 24 (.build [(.bool false), (.int .u64 0), (.int .u64 0), (.int .i64 0)] []),
 an (.store 4 2 23),
 an (.store 4 3 24),
 ao 4 (.mv (.c (.bool false)))]) (.ret)) (.skip))) (.seq (.reg [ao 26 (.load true 4 1),
 ao 27 (.fa 3 1),
 ao 28 (.load false 1 27),
 ao 29 (.bin .add 28 (.c (.int .i64 1))),
 .call (po 30 (.call 96 [26, 29, (.c (.int .u64 1))])) 96 qzu,
 ao 25 (.mv 30),
 ao 31 (.ext 25 0),
 ao 32 (.ext 25 1),
 ao 7 (.alloc [(.bool false), (.int .u64 0), (.int .u64 0), (.int .i64 0)]),
 an (.store 4 7 31),
 ao 6 (.mv 32)]) (.seq (.draw [] [ao 33 (.load true 4 5),
 ao 34 (.load true 4 7),
 ao 35 (.mv 6),
 an (.held [6] [((.c (.bool true)), 7), (2, 7), (3, 7)])] [an (.store 4 2 33),
 an (.store 4 3 34),
 ao 4 (.mv 35)]) (.ret)))))
theorem qbqb : AC.ok Try.prog (TIof Try.prog) 36 0 (kret [(.cell 2 true 4), (.cell 3 true 4), .t 4] qi6) qzw := qm (zA (qd.ok qbfx) (zA qbi8 (zA (qd.ok qbfx) (zA rfl trivial))))
theorem qbsk (Aa : Bool) (Ab Ac Ad : Int) : den 0 (kret [(.cell 2 true 4), (.cell 3 true 4), .t 4] qi6) qzw (qh [(0, .agg (qa Aa Ab Ac Ad))]) (qg []) (kend (kret [(.cell 2 true 4), (.cell 3 true 4), .t 4] qi6)) = qmb Aa Ab Ac Ad := by
  rw [q77]; kernel_rfl
theorem qbsl : cFn (TIof Try.prog) Try.f59 = some ⟨36, [(.cell 2 true 4), (.cell 3 true 4), .t 4], scOf qzw⟩ := by kernel_rfl
def qbsm (xs : List AV) : Option (AV × AV × Bool) := qe ((qk xs) 0).cells (qmb)
def qpv {R : Type} : List AV → (AV → Option R) → Option R := entF qbm7 qbsm qbm6
theorem qzx {R : Type} : qd Try.prog 59 (qpv (R := R)) :=
  qz tabOk follows Try.func59 (by kernel_rfl) qbsl (fun z r h => by
 obtain ⟨h1, h2⟩ := qo h
 cases h2
 exact (qds h1).symm) qbqb (qn (by kernel_rfl)) fun xs => qbsk _ _ _ _
def qxs (z : AV) : Option ((List AV) × Int) := cond (qgm [(.one (.sl 8)), (.one (.i .i64))] z) (some (aL (gC (tpL z) 0), aI (gC (tpL z) 1))) none
def qbqc (r : (List AV) × Int) : AV := .tup [.sl 8 r.1, .int .i64 r.2]
def qbqd : Shp := ⟨[(0, .one (.l (.sl 8))), (1, .st (lk qf))], []⟩
def q2s (v0 : List AV) (Aq : Bool) (Ar As At : Int) : Option ((List AV) × Int) :=
  (oB (qfu v0 Aq Ar As At) fun r1 => (bif (decide (r1 < (0 : Int))) then (some (([] : List AV), (11 : Int))) else (oB (qmb Aq Ar As At) fun r2 => (bif (!r2.2.2) then (some (([] : List AV), (21 : Int))) else (oB (qit v0 Aq Ar As At) fun r3 => (bif r3 then (some (([] : List AV), (25 : Int))) else (oB (ixB v0 r1) fun y4 => (bif fitC qb y4.cells then (bif (decide (((gS y4.cells 5).length : Int) > (61 : Int))) then (some (([] : List AV), (1 : Int))) else (bif (decide ((v0.length : Int) ≥ (512 : Int))) then (some (([] : List AV), (9 : Int))) else (bif decide ((gS y4.cells 5).length + ([45, 48] : List UInt8).length ≤ 9223372036854775807) then (bif decide ((gS y4.cells 5).length + ([45, 49] : List UInt8).length ≤ 9223372036854775807) then (oB (qgg v0 r1) fun r5 => (oB (qg8 r5 (gB r2.1.cells 0) (gI r2.1.cells 1) (gI r2.1.cells 2) (gI r2.1.cells 3) (gI y4.cells 4) ((gS y4.cells 5) ++ ([45, 48] : List UInt8)) (gS y4.cells 6) (gI y4.cells 7)) fun r6 => (oB (qg8 r6 (gB r2.2.1.cells 0) (gI r2.2.1.cells 1) (gI r2.2.1.cells 2) (gI r2.2.1.cells 3) (gI y4.cells 4) ((gS y4.cells 5) ++ ([45, 49] : List UInt8)) (gS y4.cells 6) (gI y4.cells 7)) fun r7 => (some (r7, (0 : Int)))))) else none) else none))) else none))))))))
def qno := hull q2s
theorem q91 : qno = q2s := qj _
def q2t : AC ((List AV) × Int) :=
  .seq (.reg [ao 3 (.box 1),
 ao 4 (.mv (.c .nils)),
 ao 5 (.mv (.c (.int .i64 0)))]) (.seq (.reg [ao 12 (.mv 0),
 ao 13 (.load true 4 3),
 .call (po 14 (.call 51 [12, 13])) 51 qfv,
 ao 6 (.mv 14)]) (.seq (.seq (.reg [ao 15 (.mv 6),
 ao 16 (.bin .lss 15 (.c (.int .i64 0)))]) (.cond 16 (.seq (.reg [ao 4 (.mv (.c .nils)),
 ao 5 (.mv (.c (.int .i64 11)))]) (.seq (.view [.eta 4 (.one (.sl 8))]) (.ret))) (.skip))) (.seq (.reg [ao 18 (.load true 4 3),
 .call (po 19 (.call 59 [18])) 59 qpv,
 ao 17 (.mv 19),
 ao 20 (.ext 17 0),
 ao 21 (.ext 17 1),
 ao 22 (.ext 17 2),
 ao 7 (.alloc [(.bool false), (.int .u64 0), (.int .u64 0), (.int .i64 0)]),
 ao 8 (.alloc [(.bool false), (.int .u64 0), (.int .u64 0), (.int .i64 0)]),
 an (.store 4 7 20),
 an (.store 4 8 21),
 ao 9 (.mv 22)]) (.seq (.seq (.reg [ao 23 (.mv 9),
 ao 24 (.un .not 23)]) (.cond 24 (.seq (.reg [ao 4 (.mv (.c .nils)),
 ao 5 (.mv (.c (.int .i64 21)))]) (.seq (.view [.eta 4 (.one (.sl 8))]) (.ret))) (.skip))) (.seq (.seq (.reg [ao 25 (.mv 0),
 ao 26 (.load true 4 3),
 .call (po 27 (.call 52 [25, 26])) 52 qn1]) (.cond 27 (.seq (.reg [ao 4 (.mv (.c .nils)),
 ao 5 (.mv (.c (.int .i64 25)))]) (.seq (.view [.eta 4 (.one (.sl 8))]) (.ret))) (.skip))) (.seq (.reg [ao 28 (.mv 0),
 ao 29 (.mv 6),
 ao 30 (.ia 8 28 29),
 .st (.etac 30 qb),
 ao 31 (.load true 8 30),
 ao 10 (.alloc [(.bool false), (.int .u64 0), (.int .u64 0), (.int .i64 0), (.int .i64 0), (.str []), (.str []), (.int .i64 0)]),
 an (.store 8 10 31)]) (.seq (.seq (.reg [ao 32 (.fa 5 10),
 ao 33 (.load false 1 32),
 ao 34 (.len true 33),
 ao 35 (.bin .gtr 34 (.c (.int .i64 61)))]) (.cond 35 (.seq (.reg [ao 4 (.mv (.c .nils)),
 ao 5 (.mv (.c (.int .i64 1)))]) (.seq (.view [.eta 4 (.one (.sl 8))]) (.ret))) (.skip))) (.seq (.seq (.reg [ao 36 (.mv 0),
 ao 37 (.len false 36),
 ao 38 (.bin .geq 37 (.c (.int .i64 512)))]) (.cond 38 (.seq (.reg [ao 4 (.mv (.c .nils)),
 ao 5 (.mv (.c (.int .i64 9)))]) (.seq (.view [.eta 4 (.one (.sl 8))]) (.ret))) (.skip))) (.seq (.reg [ao 39 (.load true 8 10),
 ao 11 (.alloc [(.bool false), (.int .u64 0), (.int .u64 0), (.int .i64 0), (.int .i64 0), (.str []), (.str []), (.int .i64 0)]),
 an (.store 8 11 39)]) (.seq (.reg [ao 40 (.load true 4 7),
 ao 41 (.fa 5 10),
 ao 42 (.load false 1 41),
 ao 43 (.bin .add 42 (.c (.str [45, 48]))),
 ao 44 (.fa 0 10),
 an (.store 4 44 40),
 ao 45 (.fa 5 10),
 an (.store 1 45 43)]) (.seq (.reg [ao 46 (.load true 4 8),
 ao 47 (.fa 5 11),
 ao 48 (.load false 1 47),
 ao 49 (.bin .add 48 (.c (.str [45, 49]))),
 ao 50 (.fa 0 11),
 an (.store 4 50 46),
 ao 51 (.fa 5 11),
 an (.store 1 51 49)]) (.seq (.draw [] [ao 52 (.mv 0),
 ao 53 (.mv 6),
 .call (po 54 (.call 56 [52, 53])) 56 qlh,
 ao 55 (.load true 8 10),
 .call (po 56 (.call 53 [54, 55])) 53 qmh,
 ao 57 (.load true 8 11)] [.callc (po 58 (.call 53 [56, 57])) 53 qmh,
 ao 4 (.mv 58),
 ao 5 (.mv (.c (.int .i64 0)))]) (.ret)))))))))))))
theorem qbsn : AC.ok Try.prog (TIof Try.prog) 59 0 (kret [.t 4, .t 5] qxs) q2t := qm (zA (qd.ok qkn) (zA (qd.ok qzx) (zA (qd.ok qvr) (zA (qd.ok qq8) (zA (qd.ok qtc) (zA (qd.ok qtc) (zA rfl trivial)))))))
theorem qbvr (v0 : List AV) (Aq : Bool) (Ar As At : Int) : den 0 (kret [.t 4, .t 5] qxs) q2t (qh [(0, (.sl 8 v0)), (1, .agg (qa Aq Ar As At))]) (qg []) (kend (kret [.t 4, .t 5] qxs)) = qno v0 Aq Ar As At := by
  rw [q91]; kernel_rfl
theorem qbvs : cFn (TIof Try.prog) Try.f20 = some ⟨59, [.t 4, .t 5], scOf q2t⟩ := by kernel_rfl
def qbvt (xs : List AV) : Option ((List AV) × Int) := qe ((qk xs) 1).cells (qno (gL [(qk xs) 0] 0))
def qxt {R : Type} : List AV → (AV → Option R) → Option R := entF qbqd qbvt qbqc
theorem qbb0 {R : Type} : qd Try.prog 20 (qxt (R := R)) :=
  qz tabOk follows Try.func20 (by kernel_rfl) qbvs (fun z r h => by
 obtain ⟨h1, h2⟩ := qo h
 cases h2
 exact (qds h1).symm) qbsn (qn (by kernel_rfl)) fun xs => qbvr _ _ _ _ _
def qzy (z : AV) : Option (AV × Bool) := cond (qgm [(.st [.b, (.i .u64), (.i .u64), (.i .i64), (.i .i64), .s, .s, (.i .i64)]), (.one .b)] z) (some ((gC (tpL z) 0), aB (gC (tpL z) 1))) none
def qbso (r : AV × Bool) : AV := .tup [ql5 (.st [.b, (.i .u64), (.i .u64), (.i .i64), (.i .i64), .s, .s, (.i .i64)]) r.1, .bool r.2]
def qbsp : Shp := ⟨[(0, .one (.l (.sl 8))), (1, .st (lk qf))], []⟩
def q5m (v0 : List AV) (Aq : Bool) (Ar As At : Int) : Option (AV × Bool) :=
  (oB (qfu v0 Aq Ar As At) fun r1 => (bif (decide (r1 ≥ (0 : Int))) then (oB (ixB v0 r1) fun y2 => (bif fitC qb y2.cells then (some ((.agg [(.bool (gB y2.cells 0)), (.int .u64 (gI y2.cells 1)), (.int .u64 (gI y2.cells 2)), (.int .i64 (gI y2.cells 3)), (.int .i64 (gI y2.cells 4)), (.str (gS y2.cells 5)), (.str (gS y2.cells 6)), (.int .i64 (gI y2.cells 7))]), true)) else none)) else (some ((.agg [(.bool false), (.int .u64 (0 : Int)), (.int .u64 (0 : Int)), (.int .i64 (0 : Int)), (.int .i64 (0 : Int)), (.str ([] : List UInt8)), (.str ([] : List UInt8)), (.int .i64 (0 : Int))]), false))))
def qpb := hull q5m
theorem qbb1 : qpb = q5m := qj _
def q5n : AC (AV × Bool) :=
  .seq (.reg [ao 3 (.box 1),
 ao 4 (.alloc [(.bool false), (.int .u64 0), (.int .u64 0), (.int .i64 0), (.int .i64 0), (.str []), (.str []), (.int .i64 0)]),
 ao 5 (.mv (.c (.bool false)))]) (.seq (.seq (.reg [ao 7 (.mv 0),
 ao 8 (.load true 4 3),
 .call (po 9 (.call 51 [7, 8])) 51 qfv,
 ao 6 (.mv 9)]) (.seq (.reg [ao 10 (.mv 6),
 ao 11 (.bin .geq 10 (.c (.int .i64 0)))]) (.cond 11 (.seq (.reg [ao 12 (.mv 0),
 ao 13 (.mv 6),
 ao 14 (.ia 8 12 13),
 .st (.etac 14 qb),
 ao 15 (.load true 8 14),
 an (.store 8 4 15),
 ao 5 (.mv (.c (.bool true)))]) (.ret)) (.skip)))) (.seq (.reg [ao 16 (.build [(.bool false), (.int .u64 0), (.int .u64 0), (.int .i64 0), (.int .i64 0), (.str []), (.str []), (.int .i64 0)] []),
 an (.store 8 4 16),
 ao 5 (.mv (.c (.bool false)))]) (.ret)))
theorem qbvu : AC.ok Try.prog (TIof Try.prog) 17 0 (kret [(.cell 4 true 8), .t 5] qzy) q5n := qm (zA (qd.ok qkn) trivial)
theorem qbyl (v0 : List AV) (Aq : Bool) (Ar As At : Int) : den 0 (kret [(.cell 4 true 8), .t 5] qzy) q5n (qh [(0, (.sl 8 v0)), (1, .agg (qa Aq Ar As At))]) (qg []) (kend (kret [(.cell 4 true 8), .t 5] qzy)) = qpb v0 Aq Ar As At := by
  rw [qbb1]; kernel_rfl
theorem qbym : cFn (TIof Try.prog) Try.f24 = some ⟨17, [(.cell 4 true 8), .t 5], scOf q5n⟩ := by kernel_rfl
def qbyn (xs : List AV) : Option (AV × Bool) := qe ((qk xs) 1).cells (qpb (gL [(qk xs) 0] 0))
def qte {R : Type} : List AV → (AV → Option R) → Option R := entF qbsp qbyn qbso
theorem q5o {R : Type} : qd Try.prog 24 (qte (R := R)) :=
  qz tabOk follows Try.func24 (by kernel_rfl) qbym (fun z r h => by
 obtain ⟨h1, h2⟩ := qo h
 cases h2
 exact (qds h1).symm) qbvu (qn (by kernel_rfl)) fun xs => qbyl _ _ _ _ _
def q60 : Shp := ⟨[(0, .one (.l .s)), (1, .one (.l .s))], []⟩
def qn9 (v0 v1 : List UInt8) : Option Bool :=
  (bif (decide ((v0.length : Int) ≥ (v1.length : Int))) then (oB (cutI v0 (some (IntKind.i64.wrap ((v0.length : Int) - (v1.length : Int)))) none) fun s1 => (some (s1 == v1))) else (some false))
def qlt := hull qn9
theorem quf : qlt = qn9 := qj _
def qoa : AC Bool :=
  .seq (.reg [ao 4 (.mv (.c (.bool false)))]) (.seq (.reg [ao 5 (.mv 0),
 ao 6 (.len true 5),
 ao 7 (.mv 1),
 ao 8 (.len true 7),
 ao 9 (.bin .geq 6 8),
 ao 10 (.mv 9),
 ag 11 10 true (.mv 0),
 ag 12 10 true (.mv 0),
 ag 13 10 true (.len true 12),
 ag 14 10 true (.mv 1),
 ag 15 10 true (.len true 14),
 ag 16 10 true (.bin .sub 13 15),
 ag 17 10 true (.slcs 11 (some 16) none),
 ag 18 10 true (.mv 1),
 ag 19 10 true (.bin .eql 17 18),
 ao 20 (.pick 10 19 (.c (.bool false))),
 ao 4 (.mv 20)]) (.ret))
theorem q78 : AC.ok Try.prog (TIof Try.prog) 21 0 (kret [.t 4] decB) qoa := qm trivial
theorem q9g (v0 v1 : List UInt8) : den 0 (kret [.t 4] decB) qoa (qh [(0, (.str v0)), (1, (.str v1))]) (qg []) (kend (kret [.t 4] decB)) = qlt v0 v1 := by
  rw [quf]; kernel_rfl
theorem q9h : cFn (TIof Try.prog) Try.f104 = some ⟨21, [.t 4], scOf qoa⟩ := by kernel_rfl
def q9i (xs : List AV) : Option Bool := qlt (gS [(qk xs) 0] 0) (gS [(qk xs) 1] 0)
def qtf {R : Type} : List AV → (AV → Option R) → Option R := entF q60 q9i AV.bool
theorem q9j {R : Type} : qd Try.prog 104 (qtf (R := R)) :=
  qz tabOk follows Try.func104 (by kernel_rfl) q9h hdeB q78 (qn (by kernel_rfl)) fun xs => q9g _ _
def q5p : Shp := ⟨[(0, .one (.l .s)), (1, .one (.l .s))], []⟩
def qnp (v0 v1 : List UInt8) : Option (List UInt8) :=
  (oB (qlt v0 v1) fun r1 => (bif r1 then (oB (cutI v0 none (some (IntKind.i64.wrap ((v0.length : Int) - (v1.length : Int))))) fun s2 => (some s2)) else (some v0)))
def qk6 := hull qnp
theorem qtg : qk6 = qnp := qj _
def qnq : AC (List UInt8) :=
  .seq (.reg [ao 4 (.mv (.c (.str [])))]) (.seq (.seq (.reg [ao 5 (.mv 0),
 ao 6 (.mv 1),
 .call (po 7 (.call 104 [5, 6])) 104 qtf]) (.cond 7 (.seq (.reg [ao 8 (.mv 0),
 ao 9 (.mv 0),
 ao 10 (.len true 9),
 ao 11 (.mv 1),
 ao 12 (.len true 11),
 ao 13 (.bin .sub 10 12),
 ao 14 (.slcs 8 none (some 13)),
 ao 4 (.mv 14)]) (.ret)) (.skip))) (.seq (.reg [ao 15 (.mv 0),
 ao 4 (.mv 15)]) (.ret)))
theorem q61 : AC.ok Try.prog (TIof Try.prog) 16 0 (kret [.t 4] decS) qnq := qm (zA (qd.ok q9j) trivial)
theorem q79 (v0 v1 : List UInt8) : den 0 (kret [.t 4] decS) qnq (qh [(0, (.str v0)), (1, (.str v1))]) (qg []) (kend (kret [.t 4] decS)) = qk6 v0 v1 := by
  rw [qtg]; kernel_rfl
theorem q8a : cFn (TIof Try.prog) Try.f98 = some ⟨16, [.t 4], scOf qnq⟩ := by kernel_rfl
def q8b (xs : List AV) : Option (List UInt8) := qk6 (gS [(qk xs) 0] 0) (gS [(qk xs) 1] 0)
def qr1 {R : Type} : List AV → (AV → Option R) → Option R := entF q5p q8b AV.str
theorem q8c {R : Type} : qd Try.prog 98 (qr1 (R := R)) :=
  qz tabOk follows Try.func98 (by kernel_rfl) q8a hdeS q61 (qn (by kernel_rfl)) fun xs => q79 _ _
def qba3 : Shp := ⟨[(0, .one (.l .s)), (1, .one (.l .s))], []⟩
def qre (v0 v1 : List UInt8) : Option (List UInt8) :=
  (oB (qk6 v0 v1) fun r1 => (some r1))
def qli := hull qre
theorem qyh : qli = qre := qj _
def qrf : AC (List UInt8) :=
  .seq (.reg [ao 4 (.mv (.c (.str [])))]) (.seq (.reg [ao 5 (.mv 0),
 ao 6 (.mv 1),
 .call (po 7 (.call 98 [5, 6])) 98 qr1,
 ao 4 (.mv 7)]) (.ret))
theorem qbb2 : AC.ok Try.prog (TIof Try.prog) 8 0 (kret [.t 4] decS) qrf := qm (zA (qd.ok q8c) trivial)
theorem qbd7 (v0 v1 : List UInt8) : den 0 (kret [.t 4] decS) qrf (qh [(0, (.str v0)), (1, (.str v1))]) (qg []) (kend (kret [.t 4] decS)) = qli v0 v1 := by
  rw [qyh]; kernel_rfl
theorem qbd8 : cFn (TIof Try.prog) Try.f61 = some ⟨8, [.t 4], scOf qrf⟩ := by kernel_rfl
def qbd9 (xs : List AV) : Option (List UInt8) := qli (gS [(qk xs) 0] 0) (gS [(qk xs) 1] 0)
def qwe {R : Type} : List AV → (AV → Option R) → Option R := entF qba3 qbd9 AV.str
theorem qbea {R : Type} : qd Try.prog 61 (qwe (R := R)) :=
  qz tabOk follows Try.func61 (by kernel_rfl) qbd8 hdeS qbb2 (qn (by kernel_rfl)) fun xs => qbd7 _ _
def qlu (z : AV) : Option ((List AV) × Int) := cond (qgm [(.one (.sl 8)), (.one (.i .i64))] z) (some (aL (gC (tpL z) 0), aI (gC (tpL z) 1))) none
def qbsq (r : (List AV) × Int) : AV := .tup [.sl 8 r.1, .int .i64 r.2]
def q4g  (v0 : List AV) (Ai : Bool) (Aj Ak Al : Int) (Au : Bool) (Av Aw Ax : Int) (A2 : Bool) (A3 A4 A5 : Int) (A6 : Bool) (A7 A8 A9 Ba : Int) (Bb : List UInt8) (Bc : Int) (K : Ex → Env → Mem → Option ((List AV) × Int)) := (fun z_b3_5 => K .norm (qh [(0, (.sl 8 v0)), (3, (.ptr 0 0)), (6, (.ptr 1 0)), (7, (.ptr 2 0)), (9, (.ptr 3 0))]) (qg [(some (.box true (qa Ai Aj Ak Al))), (some (.box true (qa Au Av Aw Ax))), (some (.box true (qa A2 A3 A4 A5))), (some (.box true (qc A6 A7 A8 A9 Ba z_b3_5 Bb Bc)))]))
def qbg0 : Shp := ⟨[(0, .one (.l (.sl 8))), (3, .one (.ptr 0 0)), (6, .one (.ptr 1 0)), (7, .one (.ptr 2 0)), (9, .one (.ptr 3 0))], [.box true (lk qf), .box true (lk qf), .box true (lk qf), .box true (lk qb)]⟩
def qvv  (v0 : List AV) (Ai : Bool) (Aj Ak Al : Int) (Au : Bool) (Av Aw Ax : Int) (A2 : Bool) (A3 A4 A5 : Int) (A6 : Bool) (A7 A8 A9 Ba : Int) (Bd Bb : List UInt8) (Bc : Int) (kn : (List UInt8) → Option ((List AV) × Int)) : Option ((List AV) × Int) :=
  (oB (qli Bd ([45, 48] : List UInt8)) fun r1 => (bif (!(r1 == ([] : List UInt8))) then (kn r1) else (kn Bd)))
def qor := hull (qvv)
theorem q4h : qor = qvv := qj _
def qpw : AC ((List AV) × Int) :=
  .seq (.reg [ao 69 (.fa 5 9),
 ao 70 (.load false 1 69),
 .call (po 71 (.call 61 [70, (.c (.str [45, 48]))])) 61 qwe,
 ao 13 (.mv 71)]) (.seq (.reg [ao 72 (.mv 13),
 ao 73 (.bin .neq 72 (.c (.str [])))]) (.cond 73 (.seq (.reg [ao 74 (.mv 13),
 ao 75 (.fa 5 9),
 an (.store 1 75 74)]) (.view [.sel [0, 3, 6, 7, 9] [0, 1, 2, 3]])) (.seq (.skip) (.view [.sel [0, 3, 6, 7, 9] [0, 1, 2, 3]]))))
theorem qbi9 : AC.ok Try.prog (TIof Try.prog) 91 0 (kret [.t 4, .t 5] qlu) qpw := qm (zA (qd.ok qbea) trivial)
theorem qbm8 (v0 : List AV) (Ai : Bool) (Aj Ak Al : Int) (Au : Bool) (Av Aw Ax : Int) (A2 : Bool) (A3 A4 A5 : Int) (A6 : Bool) (A7 A8 A9 Ba : Int) (Bd Bb : List UInt8) (Bc : Int) (K : Ex → Env → Mem → Option ((List AV) × Int)) : den 0 (kret [.t 4, .t 5] qlu) qpw (qh [(0, (.sl 8 v0)), (3, (.ptr 0 0)), (6, (.ptr 1 0)), (7, (.ptr 2 0)), (9, (.ptr 3 0))]) (qg [(some (.box true (qa Ai Aj Ak Al))), (some (.box true (qa Au Av Aw Ax))), (some (.box true (qa A2 A3 A4 A5))), (some (.box true (qc A6 A7 A8 A9 Ba Bd Bb Bc)))]) K = qor v0 Ai Aj Ak Al Au Av Aw Ax A2 A3 A4 A5 A6 A7 A8 A9 Ba Bd Bb Bc (q4g v0 Ai Aj Ak Al Au Av Aw Ax A2 A3 A4 A5 A6 A7 A8 A9 Ba Bb Bc K) := by
  rw [q4h]; kernel_rfl
def q6l := subE (R := (List AV) × Int) qbg0 fun t m K => qi (bxC (m.s 3)) (qe (bxC (m.s 2)) (qe (bxC (m.s 1)) (qe (bxC (m.s 0)) (qor (gL [t 0] 0))))) (q4g (gL [t 0] 0) (gB (bxC (m.s 0)) 0) (gI (bxC (m.s 0)) 1) (gI (bxC (m.s 0)) 2) (gI (bxC (m.s 0)) 3) (gB (bxC (m.s 1)) 0) (gI (bxC (m.s 1)) 1) (gI (bxC (m.s 1)) 2) (gI (bxC (m.s 1)) 3) (gB (bxC (m.s 2)) 0) (gI (bxC (m.s 2)) 1) (gI (bxC (m.s 2)) 2) (gI (bxC (m.s 2)) 3) (gB (bxC (m.s 3)) 0) (gI (bxC (m.s 3)) 1) (gI (bxC (m.s 3)) 2) (gI (bxC (m.s 3)) 3) (gI (bxC (m.s 3)) 4) (gS (bxC (m.s 3)) 6) (gI (bxC (m.s 3)) 7) K)
theorem qbm9 : qca Try.prog (TIof Try.prog) 91 0 (kret [.t 4, .t 5] qlu) (scOf qpw) (q6l) :=
  qet tabOk follows (qbi9) (qn (by kernel_rfl)) fun t m K => qbm8 _ _ _ _ _ _ _ _ _ _ _ _ _ _ _ _ _ _ _ _ _ K
def qbsr : Shp := ⟨[(0, .one (.l (.sl 8))), (1, .st (lk qf))], []⟩
def q5q (v0 : List AV) (Aq : Bool) (Ar As At : Int) : Option ((List AV) × Int) :=
  (oB (qmb Aq Ar As At) fun r1 => (bif (!r1.2.2) then (some (([] : List AV), (11 : Int))) else (oB (qpb v0 (gB r1.1.cells 0) (gI r1.1.cells 1) (gI r1.1.cells 2) (gI r1.1.cells 3)) fun r2 => (oB (qpb v0 (gB r1.2.1.cells 0) (gI r1.2.1.cells 1) (gI r1.2.1.cells 2) (gI r1.2.1.cells 3)) fun r3 => (bif ((!r2.2) || (!r3.2)) then (some (([] : List AV), (11 : Int))) else (oB (qfu v0 Aq Ar As At) fun r4 => (bif (decide (r4 ≥ (0 : Int))) then (some (([] : List AV), (12 : Int))) else (bif (((((gI r2.1.cells 4) != (gI r3.1.cells 4)) || (!((gS r2.1.cells 6) == (gS r3.1.cells 6)))) || ((gI r2.1.cells 7) != (gI r3.1.cells 7))) || ((gI r2.1.cells 4) == (3 : Int))) then (some (([] : List AV), (21 : Int))) else (qor v0 Aq Ar As At (gB r1.1.cells 0) (gI r1.1.cells 1) (gI r1.1.cells 2) (gI r1.1.cells 3) (gB r1.2.1.cells 0) (gI r1.2.1.cells 1) (gI r1.2.1.cells 2) (gI r1.2.1.cells 3) (gB r2.1.cells 0) (gI r2.1.cells 1) (gI r2.1.cells 2) (gI r2.1.cells 3) (gI r2.1.cells 4) (gS r2.1.cells 5) (gS r2.1.cells 6) (gI r2.1.cells 7) (fun b3_5q5 => (oB (qfu v0 (gB r1.1.cells 0) (gI r1.1.cells 1) (gI r1.1.cells 2) (gI r1.1.cells 3)) fun r6 => (oB (qgg v0 r6) fun r7 => (oB (qfu r7 (gB r1.2.1.cells 0) (gI r1.2.1.cells 1) (gI r1.2.1.cells 2) (gI r1.2.1.cells 3)) fun r8 => (oB (qgg r7 r8) fun r9 => (oB (qg8 r9 Aq Ar As At (gI r2.1.cells 4) b3_5q5 (gS r2.1.cells 6) (gI r2.1.cells 7)) fun r10 => (some (r10, (0 : Int))))))))))))))))))
def qpc := hull q5q
theorem qbb3 : qpc = q5q := qj _
def q5r : AC ((List AV) × Int) :=
  .seq (.reg [ao 3 (.box 1),
 ao 4 (.mv (.c .nils)),
 ao 5 (.mv (.c (.int .i64 0)))]) (.seq (.reg [ao 16 (.load true 4 3),
 .call (po 17 (.call 59 [16])) 59 qpv,
 ao 15 (.mv 17),
 ao 18 (.ext 15 0),
 ao 19 (.ext 15 1),
 ao 20 (.ext 15 2),
 ao 6 (.alloc [(.bool false), (.int .u64 0), (.int .u64 0), (.int .i64 0)]),
 ao 7 (.alloc [(.bool false), (.int .u64 0), (.int .u64 0), (.int .i64 0)]),
 an (.store 4 6 18),
 an (.store 4 7 19),
 ao 8 (.mv 20)]) (.seq (.seq (.reg [ao 21 (.mv 8),
 ao 22 (.un .not 21)]) (.cond 22 (.seq (.reg [ao 4 (.mv (.c .nils)),
 ao 5 (.mv (.c (.int .i64 11)))]) (.seq (.view [.eta 4 (.one (.sl 8))]) (.ret))) (.skip))) (.seq (.reg [ao 24 (.mv 0),
 ao 25 (.load true 4 6),
 .call (po 26 (.call 24 [24, 25])) 24 qte,
 ao 23 (.mv 26),
 ao 27 (.ext 23 0),
 ao 28 (.ext 23 1),
 ao 9 (.alloc [(.bool false), (.int .u64 0), (.int .u64 0), (.int .i64 0), (.int .i64 0), (.str []), (.str []), (.int .i64 0)]),
 an (.store 8 9 27),
 ao 10 (.mv 28)]) (.seq (.reg [ao 30 (.mv 0),
 ao 31 (.load true 4 7),
 .call (po 32 (.call 24 [30, 31])) 24 qte,
 ao 29 (.mv 32),
 ao 33 (.ext 29 0),
 ao 34 (.ext 29 1),
 ao 11 (.alloc [(.bool false), (.int .u64 0), (.int .u64 0), (.int .i64 0), (.int .i64 0), (.str []), (.str []), (.int .i64 0)]),
 an (.store 8 11 33),
 ao 12 (.mv 34)]) (.seq (.seq (.reg [ao 35 (.mv 10),
 ao 36 (.un .not 35),
 ao 37 (.mv 36),
 .grp 37 false [(pg 38 37 false (.mv 12)), (pg 39 37 false (.un .not 38))] 40 39]) (.cond 40 (.seq (.reg [ao 4 (.mv (.c .nils)),
 ao 5 (.mv (.c (.int .i64 11)))]) (.seq (.view [.eta 4 (.one (.sl 8))]) (.ret))) (.skip))) (.seq (.seq (.reg [ao 41 (.mv 0),
 ao 42 (.load true 4 3),
 .call (po 43 (.call 51 [41, 42])) 51 qfv,
 ao 44 (.bin .geq 43 (.c (.int .i64 0)))]) (.cond 44 (.seq (.reg [ao 4 (.mv (.c .nils)),
 ao 5 (.mv (.c (.int .i64 12)))]) (.seq (.view [.eta 4 (.one (.sl 8))]) (.ret))) (.skip))) (.seq (.seq (.reg [ao 45 (.fa 4 9),
 ao 46 (.load false 1 45),
 ao 47 (.fa 4 11),
 ao 48 (.load false 1 47),
 ao 49 (.bin .neq 46 48),
 ao 50 (.mv 49),
 .grp 50 false [(pg 51 50 false (.fa 6 9)), (pg 52 50 false (.load false 1 51)), (pg 53 50 false (.fa 6 11)), (pg 54 50 false (.load false 1 53)), (pg 55 50 false (.bin .neq 52 54))] 56 55,
 ao 57 (.mv 56),
 .grp 57 false [(pg 58 57 false (.fa 7 9)), (pg 59 57 false (.load false 1 58)), (pg 60 57 false (.fa 7 11)), (pg 61 57 false (.load false 1 60)), (pg 62 57 false (.bin .neq 59 61))] 63 62,
 ao 64 (.mv 63),
 .grp 64 false [(pg 65 64 false (.fa 4 9)), (pg 66 64 false (.load false 1 65)), (pg 67 64 false (.bin .eql 66 (.c (.int .i64 3))))] 68 67]) (.cond 68 (.seq (.reg [ao 4 (.mv (.c .nils)),
 ao 5 (.mv (.c (.int .i64 21)))]) (.seq (.view [.eta 4 (.one (.sl 8))]) (.ret))) (.skip))) (.seq (.seq (.view [.sel [0, 3, 6, 7, 9] [0, 1, 2, 3]]) (.sub (scOf qpw) q6l)) (.seq (.reg [ao 76 (.load true 4 3),
 ao 77 (.fa 0 9),
 an (.store 4 77 76)]) (.seq (.reg [ao 78 (.mv 0),
 ao 79 (.mv 0),
 ao 80 (.load true 4 6),
 .call (po 81 (.call 51 [79, 80])) 51 qfv,
 .callc (po 82 (.call 56 [78, 81])) 56 qlh,
 ao 14 (.mv 82)]) (.seq (.reg [ao 83 (.mv 14),
 ao 84 (.mv 14),
 ao 85 (.load true 4 7),
 .call (po 86 (.call 51 [84, 85])) 51 qfv,
 .callc (po 87 (.call 56 [83, 86])) 56 qlh,
 ao 14 (.mv 87)]) (.seq (.reg [ao 88 (.mv 14),
 ao 89 (.load true 8 9),
 .callc (po 90 (.call 53 [88, 89])) 53 qmh,
 ao 4 (.mv 90),
 ao 5 (.mv (.c (.int .i64 0)))]) (.ret)))))))))))))
theorem qbvv : AC.ok Try.prog (TIof Try.prog) 91 0 (kret [.t 4, .t 5] qlu) q5r := qm (zA (qd.ok qzx) (zA (qd.ok q5o) (zA (qd.ok q5o) (zA (qd.ok qkn) (zA qbm9 (zA (qd.ok qkn) (zA (qd.ok qq8) (zA (qd.ok qkn) (zA (qd.ok qq8) (zA (qd.ok qtc) trivial))))))))))
theorem qbyo (v0 : List AV) (Aq : Bool) (Ar As At : Int) : den 0 (kret [.t 4, .t 5] qlu) q5r (qh [(0, (.sl 8 v0)), (1, .agg (qa Aq Ar As At))]) (qg []) (kend (kret [.t 4, .t 5] qlu)) = qpc v0 Aq Ar As At := by
  rw [qbb3]; kernel_rfl
theorem qbyp : cFn (TIof Try.prog) Try.f22 = some ⟨91, [.t 4, .t 5], scOf q5r⟩ := by kernel_rfl
def qbyq (xs : List AV) : Option ((List AV) × Int) := qe ((qk xs) 1).cells (qpc (gL [(qk xs) 0] 0))
def qzz {R : Type} : List AV → (AV → Option R) → Option R := entF qbsr qbyq qbsq
theorem qbfy {R : Type} : qd Try.prog 22 (qzz (R := R)) :=
  qz tabOk follows Try.func22 (by kernel_rfl) qbyp (fun z r h => by
 obtain ⟨h1, h2⟩ := qo h
 cases h2
 exact (qds h1).symm) qbvv (qn (by kernel_rfl)) fun xs => qbyo _ _ _ _ _
def qbg1 : Shp := ⟨[(0, .st (lk qb)), (1, .one (.ptr 1 0))], [.box true (lk qb), .box true (lk qf), .box true (lk qb), .box true (lk qb), .box true (lk qb)]⟩
def q4i {R : Type} (KK : AV → Mem → Option R) := (fun v3 Ai Aj Ak Al Am An Ao Ap Au Av Aw Ax A2 A3 A4 A5 Be Bf Bg Bh A6 A7 A8 A9 Ba Bd Bb Bc Bi Bj Bl Bm Bn Bo Bp Bq => KK (.bool v3) (qg [(some (.box true [(.bool Ai), (.int .u64 Aj), (.int .u64 Ak), (.int .i64 Al), (.int .i64 Am), (.str An), (.str Ao), (.int .i64 Ap)])), (some (.box true [(.bool Au), (.int .u64 Av), (.int .u64 Aw), (.int .i64 Ax)])), (some (.box true [(.bool A2), (.int .u64 A3), (.int .u64 A4), (.int .i64 A5), (.int .i64 Be), (.str Bf), (.str Bg), (.int .i64 Bh)])), (some (.box true [(.bool A6), (.int .u64 A7), (.int .u64 A8), (.int .i64 A9), (.int .i64 Ba), (.str Bd), (.str Bb), (.int .i64 Bc)])), (some (.box true [(.bool Bi), (.int .u64 Bj), (.int .u64 Bl), (.int .i64 Bm), (.int .i64 Bn), (.str Bo), (.str Bp), (.int .i64 Bq)]))]))
def qvw {R : Type}  (Aa : Bool) (Ab Ac Ad Ae : Int) (Af Ag : List UInt8) (Ah : Int) (Ai : Bool) (Aj Ak Al Am : Int) (An Ao : List UInt8) (Ap : Int) (Au : Bool) (Av Aw Ax : Int) (A2 : Bool) (A3 A4 A5 Be : Int) (Bf Bg : List UInt8) (Bh : Int) (A6 : Bool) (A7 A8 A9 Ba : Int) (Bd Bb : List UInt8) (Bc : Int) (Bi : Bool) (Bj Bl Bm Bn : Int) (Bo Bp : List UInt8) (Bq : Int) (kr : Bool → Bool → Int → Int → Int → Int → (List UInt8) → (List UInt8) → Int → Bool → Int → Int → Int → Bool → Int → Int → Int → Int → (List UInt8) → (List UInt8) → Int → Bool → Int → Int → Int → Int → (List UInt8) → (List UInt8) → Int → Bool → Int → Int → Int → Int → (List UInt8) → (List UInt8) → Int → Option R) : Option R :=
  (oB (qg3 Au Av Aw Ax Aa Ab Ac Ad) fun r1 => (kr r1 Ai Aj Ak Al Am An Ao Ap Au Av Aw Ax A2 A3 A4 A5 Be Bf Bg Bh A6 A7 A8 A9 Ba Bd Bb Bc Bi Bj Bl Bm Bn Bo Bp Bq))
def qth {R : Type} := hull (qvw (R := R))
theorem q4j {R : Type} : qth (R := R) = qvw := qj _
def qi7 {R : Type} (KK : AV → Mem → Option R) : AC R :=
  .seq (.reg [ao 2 (.box 0),
 ao 3 (.mv (.c (.bool false)))]) (.seq (.reg [ao 4 (.load true 4 1),
 ao 5 (.fa 0 2),
 ao 6 (.load true 4 5),
 .call (po 7 (.call 64 [4, 6])) 64 qgq,
 ao 3 (.mv 7)]) (.seq (.view [.sel [3] [0, 1, 2, 3, 4]]) (.ret)))
theorem qbja {R : Type} (KK : AV → Mem → Option R) : AC.ok Try.prog (TIof Try.prog) 8 5 (qq [.t 3] KK) (qi7 KK) := qm (zA (qd.ok ql7) trivial)
theorem qbna {R : Type} (KK : AV → Mem → Option R) (Aa : Bool) (Ab Ac Ad Ae : Int) (Af Ag : List UInt8) (Ah : Int) (Ai : Bool) (Aj Ak Al Am : Int) (An Ao : List UInt8) (Ap : Int) (Au : Bool) (Av Aw Ax : Int) (A2 : Bool) (A3 A4 A5 Be : Int) (Bf Bg : List UInt8) (Bh : Int) (A6 : Bool) (A7 A8 A9 Ba : Int) (Bd Bb : List UInt8) (Bc : Int) (Bi : Bool) (Bj Bl Bm Bn : Int) (Bo Bp : List UInt8) (Bq : Int) : den 5 (qq [.t 3] KK) (qi7 KK) (qh [(0, .agg (qc Aa Ab Ac Ad Ae Af Ag Ah)), (1, (.ptr 1 0))]) (qg [(some (.box true (qc Ai Aj Ak Al Am An Ao Ap))), (some (.box true (qa Au Av Aw Ax))), (some (.box true (qc A2 A3 A4 A5 Be Bf Bg Bh))), (some (.box true (qc A6 A7 A8 A9 Ba Bd Bb Bc))), (some (.box true (qc Bi Bj Bl Bm Bn Bo Bp Bq)))]) (kend (qq [.t 3] KK)) = qth Aa Ab Ac Ad Ae Af Ag Ah Ai Aj Ak Al Am An Ao Ap Au Av Aw Ax A2 A3 A4 A5 Be Bf Bg Bh A6 A7 A8 A9 Ba Bd Bb Bc Bi Bj Bl Bm Bn Bo Bp Bq (q4i KK) := by
  rw [q4j]; kernel_rfl
theorem qbnb : cFn (TIof Try.prog) Try.f63 = some ⟨8, [.t 3], scOf (qi7 (R := Unit) (fun _ _ => none))⟩ := by kernel_rfl
theorem qbnc {R : Type} (KK : AV → Mem → Option R) : (qi7 KK).er = some (scOf (qi7 (R := Unit) (fun _ _ => none))) := by kernel_rfl
def q6m {R : Type} : List AV → Mem → (AV → Mem → Option R) → Option R := refE qbg1 fun xs m KK => qi (bxC (m.s 4)) (qi (bxC (m.s 3)) (qi (bxC (m.s 2)) (qe (bxC (m.s 1)) (qi (bxC (m.s 0)) (qi ((qk xs) 0).cells (qth)))))) (q4i KK)
theorem qbnd {R : Type} : qfn Try.prog 63 (q6m (R := R)) :=
  qlm (ac := fun KK => qi7 KK) tabOk follows Try.func63 (by kernel_rfl) qbnb (fun KK => qbja KK) (fun KK => qbnc KK) rfl fun xs m KK => qbna KK _ _ _ _ _ _ _ _ _ _ _ _ _ _ _ _ _ _ _ _ _ _ _ _ _ _ _ _ _ _ _ _ _ _ _ _ _ _ _ _ _ _ _ _
def qj9 {R : Type}  (v7 : Bool) (v10 : List AV) (v11 v12 : Int) (K : Ex → Env → Mem → Option R) := (fun z_v31 z_b0_0 z_b0_1 z_b0_2 z_b0_3 z_b0_4 z_b0_5 z_b0_6 z_b0_7 z_b1_0 z_b1_1 z_b1_2 z_b1_3 z_b2_0 z_b2_1 z_b2_2 z_b2_3 z_b2_4 z_b2_5 z_b2_6 z_b2_7 z_b3_0 z_b3_1 z_b3_2 z_b3_3 z_b3_4 z_b3_5 z_b3_6 z_b3_7 z_b4_0 z_b4_1 z_b4_2 z_b4_3 z_b4_4 z_b4_5 z_b4_6 z_b4_7 => K .norm (qh [(1, (.func 63 [(.ptr 1 0)])), (4, (.ptr 2 0)), (6, (.ptr 3 0)), (7, (.bool v7)), (9, (.ptr 4 0)), (10, (.sl 8 v10)), (11, (.int .i64 v11)), (12, (.int .i64 v12)), (31, (.bool z_v31))]) (qg [(some (.box true (qc z_b0_0 z_b0_1 z_b0_2 z_b0_3 z_b0_4 z_b0_5 z_b0_6 z_b0_7))), (some (.box true (qa z_b1_0 z_b1_1 z_b1_2 z_b1_3))), (some (.box true (qc z_b2_0 z_b2_1 z_b2_2 z_b2_3 z_b2_4 z_b2_5 z_b2_6 z_b2_7))), (some (.box true (qc z_b3_0 z_b3_1 z_b3_2 z_b3_3 z_b3_4 z_b3_5 z_b3_6 z_b3_7))), (some (.box true (qc z_b4_0 z_b4_1 z_b4_2 z_b4_3 z_b4_4 z_b4_5 z_b4_6 z_b4_7)))]))
def qr2 : Shp := ⟨[(1, .one (.fn 63 [(1, 0)])), (4, .one (.ptr 2 0)), (6, .one (.ptr 3 0)), (7, .one (.l .b)), (9, .one (.ptr 4 0)), (10, .one (.l (.sl 8))), (11, .one (.l (.i .i64))), (12, .one (.l (.i .i64)))], [.box true (lk qb), .box true (lk qf), .box true (lk qb), .box true (lk qb), .box true (lk qb)]⟩
def qfo {R : Type}  (v7 : Bool) (v10 : List AV) (v11 v12 : Int) (Ai : Bool) (Aj Ak Al Am : Int) (An Ao : List UInt8) (Ap : Int) (Au : Bool) (Av Aw Ax : Int) (A2 : Bool) (A3 A4 A5 Be : Int) (Bf Bg : List UInt8) (Bh : Int) (A6 : Bool) (A7 A8 A9 Ba : Int) (Bd Bb : List UInt8) (Bc : Int) (Bi : Bool) (Bj Bl Bm Bn : Int) (Bo Bp : List UInt8) (Bq : Int) (kn : Bool → Bool → Int → Int → Int → Int → (List UInt8) → (List UInt8) → Int → Bool → Int → Int → Int → Bool → Int → Int → Int → Int → (List UInt8) → (List UInt8) → Int → Bool → Int → Int → Int → Int → (List UInt8) → (List UInt8) → Int → Bool → Int → Int → Int → Int → (List UInt8) → (List UInt8) → Int → Option R) : Option R :=
  (qth Bi Bj Bl Bm Bn Bo Bp Bq Ai Aj Ak Al Am An Ao Ap Au Av Aw Ax A2 A3 A4 A5 Be Bf Bg Bh A6 A7 A8 A9 Ba Bd Bb Bc Bi Bj Bl Bm Bn Bo Bp Bq fun v3q1 b0_0q2 b0_1q3 b0_2q4 b0_3q5 b0_4q6 b0_5q7 b0_6q8 b0_7q9 b1_0q10 b1_1q11 b1_2q12 b1_3q13 b2_0q14 b2_1q15 b2_2q16 b2_3q17 b2_4q18 b2_5q19 b2_6q20 b2_7q21 b3_0q22 b3_1q23 b3_2q24 b3_3q25 b3_4q26 b3_5q27 b3_6q28 b3_7q29 b4_0q30 b4_1q31 b4_2q32 b4_3q33 b4_4q34 b4_5q35 b4_6q36 b4_7q37 => (bif v3q1 then (bif (!v7) then (kn true b0_0q2 b0_1q3 b0_2q4 b0_3q5 b0_4q6 b0_5q7 b0_6q8 b0_7q9 b1_0q10 b1_1q11 b1_2q12 b1_3q13 b2_0q14 b2_1q15 b2_2q16 b2_3q17 b2_4q18 b2_5q19 b2_6q20 b2_7q21 b3_0q22 b3_1q23 b3_2q24 b3_3q25 b3_4q26 b3_5q27 b3_6q28 b3_7q29 b4_0q30 b4_1q31 b4_2q32 b4_3q33 b4_4q34 b4_5q35 b4_6q36 b4_7q37) else (kn (decide (b4_3q33 > b3_3q25)) b0_0q2 b0_1q3 b0_2q4 b0_3q5 b0_4q6 b0_5q7 b0_6q8 b0_7q9 b1_0q10 b1_1q11 b1_2q12 b1_3q13 b2_0q14 b2_1q15 b2_2q16 b2_3q17 b2_4q18 b2_5q19 b2_6q20 b2_7q21 b3_0q22 b3_1q23 b3_2q24 b3_3q25 b3_4q26 b3_5q27 b3_6q28 b3_7q29 b4_0q30 b4_1q31 b4_2q32 b4_3q33 b4_4q34 b4_5q35 b4_6q36 b4_7q37)) else (kn false b0_0q2 b0_1q3 b0_2q4 b0_3q5 b0_4q6 b0_5q7 b0_6q8 b0_7q9 b1_0q10 b1_1q11 b1_2q12 b1_3q13 b2_0q14 b2_1q15 b2_2q16 b2_3q17 b2_4q18 b2_5q19 b2_6q20 b2_7q21 b3_0q22 b3_1q23 b3_2q24 b3_3q25 b3_4q26 b3_5q27 b3_6q28 b3_7q29 b4_0q30 b4_1q31 b4_2q32 b4_3q33 b4_4q34 b4_5q35 b4_6q36 b4_7q37)))
def qei {R : Type} := hull (qfo (R := R))
theorem qka {R : Type} : qei (R := R) = qfo := qj _
def qd0 {R : Type} (KK : AV → Mem → Option R) : AC R :=
  .seq (.reg [ao 16 (.mv 1),
 ao 17 (.load true 8 9),
 .st (.sel [1, 4, 6, 7, 9, 10, 11, 12, 16, 17] [0, 1, 2, 3, 4]),
 .callr (po 18 (.callv 16 [17])) 63 q6m,
 ao 19 (.mv 18),
 ag 20 19 true (.mv 7),
 ag 21 19 true (.un .not 20),
 ag 22 19 true (.mv 21),
 ag 23 22 false (.fa 0 9),
 ag 24 22 false (.fa 3 23),
 ag 25 22 false (.load false 1 24),
 ag 26 22 false (.fa 0 6),
 ag 27 22 false (.fa 3 26),
 ag 28 22 false (.load false 1 27),
 ag 29 22 false (.bin .gtr 25 28),
 ag 30 19 true (.pick 22 (.c (.bool true)) 29),
 ao 31 (.pick 19 30 (.c (.bool false)))]) (.view [.sel [1, 4, 6, 7, 9, 10, 11, 12, 31] [0, 1, 2, 3, 4]])
theorem qsq {R : Type} (KK : AV → Mem → Option R) : AC.ok Try.prog (TIof Try.prog) 36 2 (qq [(.cell 4 true 8), .t 5] KK) (qd0 KK) := qm (zA qbnd trivial)
theorem qtl {R : Type} (KK : AV → Mem → Option R) (v7 : Bool) (v10 : List AV) (v11 v12 : Int) (Ai : Bool) (Aj Ak Al Am : Int) (An Ao : List UInt8) (Ap : Int) (Au : Bool) (Av Aw Ax : Int) (A2 : Bool) (A3 A4 A5 Be : Int) (Bf Bg : List UInt8) (Bh : Int) (A6 : Bool) (A7 A8 A9 Ba : Int) (Bd Bb : List UInt8) (Bc : Int) (Bi : Bool) (Bj Bl Bm Bn : Int) (Bo Bp : List UInt8) (Bq : Int) (K : Ex → Env → Mem → Option R) : den 2 (qq [(.cell 4 true 8), .t 5] KK) (qd0 KK) (qh [(1, (.func 63 [(.ptr 1 0)])), (4, (.ptr 2 0)), (6, (.ptr 3 0)), (7, (.bool v7)), (9, (.ptr 4 0)), (10, (.sl 8 v10)), (11, (.int .i64 v11)), (12, (.int .i64 v12))]) (qg [(some (.box true (qc Ai Aj Ak Al Am An Ao Ap))), (some (.box true (qa Au Av Aw Ax))), (some (.box true (qc A2 A3 A4 A5 Be Bf Bg Bh))), (some (.box true (qc A6 A7 A8 A9 Ba Bd Bb Bc))), (some (.box true (qc Bi Bj Bl Bm Bn Bo Bp Bq)))]) K = qei v7 v10 v11 v12 Ai Aj Ak Al Am An Ao Ap Au Av Aw Ax A2 A3 A4 A5 Be Bf Bg Bh A6 A7 A8 A9 Ba Bd Bb Bc Bi Bj Bl Bm Bn Bo Bp Bq (qj9 v7 v10 v11 v12 K) := by
  rw [qka]; kernel_rfl
def qkt {R : Type} (KK : AV → Mem → Option R) := subE (R := R) qr2 fun t m K => qi (bxC (m.s 4)) (qi (bxC (m.s 3)) (qi (bxC (m.s 2)) (qe (bxC (m.s 1)) (qi (bxC (m.s 0)) (qei (gB [t 7] 0) (gL [t 10] 0) (gI [t 11] 0) (gI [t 12] 0)))))) (qj9 (gB [t 7] 0) (gL [t 10] 0) (gI [t 11] 0) (gI [t 12] 0) K)
theorem qtm {R : Type} (KK : AV → Mem → Option R) : qca Try.prog (TIof Try.prog) 36 2 (qq [(.cell 4 true 8), .t 5] KK) (scOf (qd0 KK)) (qkt KK) :=
  qet tabOk follows (qsq KK) (qn (by kernel_rfl)) fun t m K => qtl KK _ _ _ _ _ _ _ _ _ _ _ _ _ _ _ _ _ _ _ _ _ _ _ _ _ _ _ _ _ _ _ _ _ _ _ _ _ _ _ _ K
def qdn {R : Type}  (K : Ex → Env → Mem → Option R) := (fun z_v7 z_b0_0 z_b0_1 z_b0_2 z_b0_3 z_b0_4 z_b0_5 z_b0_6 z_b0_7 z_b1_0 z_b1_1 z_b1_2 z_b1_3 z_b2_0 z_b2_1 z_b2_2 z_b2_3 z_b2_4 z_b2_5 z_b2_6 z_b2_7 z_b3_0 z_b3_1 z_b3_2 z_b3_3 z_b3_4 z_b3_5 z_b3_6 z_b3_7 => K (.exit 0) (qh [(4, (.ptr 2 0)), (6, (.ptr 3 0)), (7, (.bool z_v7))]) (qg [(some (.box true (qc z_b0_0 z_b0_1 z_b0_2 z_b0_3 z_b0_4 z_b0_5 z_b0_6 z_b0_7))), (some (.box true (qa z_b1_0 z_b1_1 z_b1_2 z_b1_3))), (some (.box true (qc z_b2_0 z_b2_1 z_b2_2 z_b2_3 z_b2_4 z_b2_5 z_b2_6 z_b2_7))), (some (.box true (qc z_b3_0 z_b3_1 z_b3_2 z_b3_3 z_b3_4 z_b3_5 z_b3_6 z_b3_7)))]))
def qr3 : Shp := ⟨[(1, .one (.fn 63 [(1, 0)])), (4, .one (.ptr 2 0)), (6, .one (.ptr 3 0)), (7, .one (.l .b)), (10, .one (.l (.sl 8))), (11, .one (.l (.i .i64))), (12, .one (.l (.i .i64)))], [.box true (lk qb), .box true (lk qf), .box true (lk qb), .box true (lk qb)]⟩
def qfi (v7 : Bool) (v10 : List AV) (v11 v12 : Int) (Ai : Bool) (Aj Ak Al Am : Int) (An Ao : List UInt8) (Ap : Int) (Au : Bool) (Av Aw Ax : Int) (A2 : Bool) (A3 A4 A5 Be : Int) (Bf Bg : List UInt8) (Bh : Int) (A6 : Bool) (A7 A8 A9 Ba : Int) (Bd Bb : List UInt8) (Bc : Int) : Env := qh [(1, (.func 63 [(.ptr 1 0)])), (4, (.ptr 2 0)), (6, (.ptr 3 0)), (7, (.bool v7)), (10, (.sl 8 v10)), (11, (.int .i64 v11)), (12, (.int .i64 v12))]
def qfj (v7 : Bool) (v10 : List AV) (v11 v12 : Int) (Ai : Bool) (Aj Ak Al Am : Int) (An Ao : List UInt8) (Ap : Int) (Au : Bool) (Av Aw Ax : Int) (A2 : Bool) (A3 A4 A5 Be : Int) (Bf Bg : List UInt8) (Bh : Int) (A6 : Bool) (A7 A8 A9 Ba : Int) (Bd Bb : List UInt8) (Bc : Int) : Mem := qg [(some (.box true (qc Ai Aj Ak Al Am An Ao Ap))), (some (.box true (qa Au Av Aw Ax))), (some (.box true (qc A2 A3 A4 A5 Be Bf Bg Bh))), (some (.box true (qc A6 A7 A8 A9 Ba Bd Bb Bc)))]
def qcl {R : Type}  (v7 : Bool) (v10 : List AV) (v11 v12 : Int) (Ai : Bool) (Aj Ak Al Am : Int) (An Ao : List UInt8) (Ap : Int) (Au : Bool) (Av Aw Ax : Int) (A2 : Bool) (A3 A4 A5 Be : Int) (Bf Bg : List UInt8) (Bh : Int) (A6 : Bool) (A7 A8 A9 Ba : Int) (Bd Bb : List UInt8) (Bc : Int) (next : Bool → Int → Bool → Int → Int → Int → Int → (List UInt8) → (List UInt8) → Int → Bool → Int → Int → Int → Bool → Int → Int → Int → Int → (List UInt8) → (List UInt8) → Int → Bool → Int → Int → Int → Int → (List UInt8) → (List UInt8) → Int → Option R) (kx0 : Bool → Bool → Int → Int → Int → Int → (List UInt8) → (List UInt8) → Int → Bool → Int → Int → Int → Bool → Int → Int → Int → Int → (List UInt8) → (List UInt8) → Int → Bool → Int → Int → Int → Int → (List UInt8) → (List UInt8) → Int → Option R) : Option R :=
  (bif (decide (v12 < v11)) then (oB (ixB v10 v12) fun y1 => (bif fitC qb y1.cells then (qei v7 v10 v11 v12 Ai Aj Ak Al Am An Ao Ap Au Av Aw Ax A2 A3 A4 A5 Be Bf Bg Bh A6 A7 A8 A9 Ba Bd Bb Bc (gB y1.cells 0) (gI y1.cells 1) (gI y1.cells 2) (gI y1.cells 3) (gI y1.cells 4) (gS y1.cells 5) (gS y1.cells 6) (gI y1.cells 7) (fun v31q2 b0_0q3 b0_1q4 b0_2q5 b0_3q6 b0_4q7 b0_5q8 b0_6q9 b0_7q10 b1_0q11 b1_1q12 b1_2q13 b1_3q14 b2_0q15 b2_1q16 b2_2q17 b2_3q18 b2_4q19 b2_5q20 b2_6q21 b2_7q22 b3_0q23 b3_1q24 b3_2q25 b3_3q26 b3_4q27 b3_5q28 b3_6q29 b3_7q30 b4_0q31 b4_1q32 b4_2q33 b4_3q34 b4_4q35 b4_5q36 b4_6q37 b4_7q38 => (bif v31q2 then (next true (IntKind.i64.wrap (v12 + (1 : Int))) b0_0q3 b0_1q4 b0_2q5 b0_3q6 b0_4q7 b0_5q8 b0_6q9 b0_7q10 b1_0q11 b1_1q12 b1_2q13 b1_3q14 b2_0q15 b2_1q16 b2_2q17 b2_3q18 b2_4q19 b2_5q20 b2_6q21 b2_7q22 b4_0q31 b4_1q32 b4_2q33 b4_3q34 b4_4q35 b4_5q36 b4_6q37 b4_7q38) else (next v7 (IntKind.i64.wrap (v12 + (1 : Int))) b0_0q3 b0_1q4 b0_2q5 b0_3q6 b0_4q7 b0_5q8 b0_6q9 b0_7q10 b1_0q11 b1_1q12 b1_2q13 b1_3q14 b2_0q15 b2_1q16 b2_2q17 b2_3q18 b2_4q19 b2_5q20 b2_6q21 b2_7q22 b3_0q23 b3_1q24 b3_2q25 b3_3q26 b3_4q27 b3_5q28 b3_6q29 b3_7q30)))) else none)) else (kx0 v7 Ai Aj Ak Al Am An Ao Ap Au Av Aw Ax A2 A3 A4 A5 Be Bf Bg Bh A6 A7 A8 A9 Ba Bd Bb Bc))
def qdd {R : Type}  (v10 : List AV) (v11 : Int) (kx0 : Bool → Bool → Int → Int → Int → Int → (List UInt8) → (List UInt8) → Int → Bool → Int → Int → Int → Bool → Int → Int → Int → Int → (List UInt8) → (List UInt8) → Int → Bool → Int → Int → Int → Int → (List UInt8) → (List UInt8) → Int → Option R) : Nat → Bool → Int → Bool → Int → Int → Int → Int → (List UInt8) → (List UInt8) → Int → Bool → Int → Int → Int → Bool → Int → Int → Int → Int → (List UInt8) → (List UInt8) → Int → Bool → Int → Int → Int → Int → (List UInt8) → (List UInt8) → Int → Option R
  | 0 => (fun _ _ _ _ _ _ _ _ _ _ _ _ _ _ _ _ _ _ _ _ _ _ _ _ _ _ _ _ _ _ => none)
  | n + 1 => (fun v7 v12 Ai Aj Ak Al Am An Ao Ap Au Av Aw Ax A2 A3 A4 A5 Be Bf Bg Bh A6 A7 A8 A9 Ba Bd Bb Bc => qcl v7 v10 v11 v12 Ai Aj Ak Al Am An Ao Ap Au Av Aw Ax A2 A3 A4 A5 Be Bf Bg Bh A6 A7 A8 A9 Ba Bd Bb Bc (qdd v10 v11 kx0 n) kx0)
def qej {R : Type} := hull (qdd (R := R))
theorem qkb {R : Type} : qej (R := R) = qdd := qj _
def qcm {R : Type} (KK : AV → Mem → Option R) : AC R :=
  .seq (.reg [ao 13 (.bin .lss 12 11)]) (.seq (.cond 13 (.skip) (.seq (.view [.sel [4, 6, 7] [0, 1, 2, 3]]) (.exit 0))) (.seq (.block 1 (.seq (.reg [ao 14 (.ia 8 10 12),
 .st (.etac 14 qb),
 ao 15 (.load true 8 14),
 ao 9 (.alloc [(.bool false), (.int .u64 0), (.int .u64 0), (.int .i64 0), (.int .i64 0), (.str []), (.str []), (.int .i64 0)]),
 an (.store 8 9 15)]) (.seq (.seq (.view [.sel [1, 4, 6, 7, 9, 10, 11, 12] [0, 1, 2, 3, 4]]) (.sub (scOf (qd0 KK)) (qkt KK))) (.cond 31 (.reg [ao 32 (.load true 8 9),
 an (.store 8 6 32),
 ao 7 (.mv (.c (.bool true)))]) (.skip))))) (.seq (.reg [ao 33 (.bin .add 12 (.c (.int .i64 1))),
 ao 12 (.mv 33)]) (.view [.sel [1, 4, 6, 7, 10, 11, 12] [0, 1, 2, 3]]))))
theorem qsr {R : Type} (KK : AV → Mem → Option R) : AC.ok Try.prog (TIof Try.prog) 36 2 (qq [(.cell 4 true 8), .t 5] KK) (qcm KK) := qm (zA (qtm KK) trivial)
theorem qr4 {R : Type} (KK : AV → Mem → Option R) (v7 : Bool) (v10 : List AV) (v11 v12 : Int) (Ai : Bool) (Aj Ak Al Am : Int) (An Ao : List UInt8) (Ap : Int) (Au : Bool) (Av Aw Ax : Int) (A2 : Bool) (A3 A4 A5 Be : Int) (Bf Bg : List UInt8) (Bh : Int) (A6 : Bool) (A7 A8 A9 Ba : Int) (Bd Bb : List UInt8) (Bc : Int) (K : Ex → Env → Mem → Option R) : den 2 (qq [(.cell 4 true 8), .t 5] KK) (qcm KK) (qfi v7 v10 v11 v12 Ai Aj Ak Al Am An Ao Ap Au Av Aw Ax A2 A3 A4 A5 Be Bf Bg Bh A6 A7 A8 A9 Ba Bd Bb Bc) (qfj v7 v10 v11 v12 Ai Aj Ak Al Am An Ao Ap Au Av Aw Ax A2 A3 A4 A5 Be Bf Bg Bh A6 A7 A8 A9 Ba Bd Bb Bc) K = qcl v7 v10 v11 v12 Ai Aj Ak Al Am An Ao Ap Au Av Aw Ax A2 A3 A4 A5 Be Bf Bg Bh A6 A7 A8 A9 Ba Bd Bb Bc (fun z_v7 z_v12 z_b0_0 z_b0_1 z_b0_2 z_b0_3 z_b0_4 z_b0_5 z_b0_6 z_b0_7 z_b1_0 z_b1_1 z_b1_2 z_b1_3 z_b2_0 z_b2_1 z_b2_2 z_b2_3 z_b2_4 z_b2_5 z_b2_6 z_b2_7 z_b3_0 z_b3_1 z_b3_2 z_b3_3 z_b3_4 z_b3_5 z_b3_6 z_b3_7 => K .norm (qfi z_v7 v10 v11 z_v12 z_b0_0 z_b0_1 z_b0_2 z_b0_3 z_b0_4 z_b0_5 z_b0_6 z_b0_7 z_b1_0 z_b1_1 z_b1_2 z_b1_3 z_b2_0 z_b2_1 z_b2_2 z_b2_3 z_b2_4 z_b2_5 z_b2_6 z_b2_7 z_b3_0 z_b3_1 z_b3_2 z_b3_3 z_b3_4 z_b3_5 z_b3_6 z_b3_7) (qfj z_v7 v10 v11 z_v12 z_b0_0 z_b0_1 z_b0_2 z_b0_3 z_b0_4 z_b0_5 z_b0_6 z_b0_7 z_b1_0 z_b1_1 z_b1_2 z_b1_3 z_b2_0 z_b2_1 z_b2_2 z_b2_3 z_b2_4 z_b2_5 z_b2_6 z_b2_7 z_b3_0 z_b3_1 z_b3_2 z_b3_3 z_b3_4 z_b3_5 z_b3_6 z_b3_7)) (qdn K) := by kernel_rfl
theorem qtn {R : Type} (KK : AV → Mem → Option R) (v10 : List AV) (v11 : Int) (K : Ex → Env → Mem → Option R) : ∀ (n : Nat) (v7 : Bool) (v12 : Int) (Ai : Bool) (Aj Ak Al Am : Int) (An Ao : List UInt8) (Ap : Int) (Au : Bool) (Av Aw Ax : Int) (A2 : Bool) (A3 A4 A5 Be : Int) (Bf Bg : List UInt8) (Bh : Int) (A6 : Bool) (A7 A8 A9 Ba : Int) (Bd Bb : List UInt8) (Bc : Int), qe5 (den 2 (qq [(.cell 4 true 8), .t 5] KK) (qcm KK)) n (qfi v7 v10 v11 v12 Ai Aj Ak Al Am An Ao Ap Au Av Aw Ax A2 A3 A4 A5 Be Bf Bg Bh A6 A7 A8 A9 Ba Bd Bb Bc) (qfj v7 v10 v11 v12 Ai Aj Ak Al Am An Ao Ap Au Av Aw Ax A2 A3 A4 A5 Be Bf Bg Bh A6 A7 A8 A9 Ba Bd Bb Bc) K = qej v10 v11 (qdn K) n v7 v12 Ai Aj Ak Al Am An Ao Ap Au Av Aw Ax A2 A3 A4 A5 Be Bf Bg Bh A6 A7 A8 A9 Ba Bd Bb Bc := by
  rw [qkb]
  intro n
  induction n with
  | zero => intros; rfl
  | succ n ih =>
 intro v7 v12 Ai Aj Ak Al Am An Ao Ap Au Av Aw Ax A2 A3 A4 A5 Be Bf Bg Bh A6 A7 A8 A9 Ba Bd Bb Bc
 exact (qr4 KK v7 v10 v11 v12 Ai Aj Ak Al Am An Ao Ap Au Av Aw Ax A2 A3 A4 A5 Be Bf Bg Bh A6 A7 A8 A9 Ba Bd Bb Bc (itK (den 2 (qq [(.cell 4 true 8), .t 5] KK) (qcm KK)) n K)).trans (congrArg (fun q => qcl v7 v10 v11 v12 Ai Aj Ak Al Am An Ao Ap Au Av Aw Ax A2 A3 A4 A5 Be Bf Bg Bh A6 A7 A8 A9 Ba Bd Bb Bc q (qdn K)) (funext fun v7 => funext fun v12 => funext fun Ai => funext fun Aj => funext fun Ak => funext fun Al => funext fun Am => funext fun An => funext fun Ao => funext fun Ap => funext fun Au => funext fun Av => funext fun Aw => funext fun Ax => funext fun A2 => funext fun A3 => funext fun A4 => funext fun A5 => funext fun Be => funext fun Bf => funext fun Bg => funext fun Bh => funext fun A6 => funext fun A7 => funext fun A8 => funext fun A9 => funext fun Ba => funext fun Bd => funext fun Bb => funext fun Bc => ih v7 v12 Ai Aj Ak Al Am An Ao Ap Au Av Aw Ax A2 A3 A4 A5 Be Bf Bg Bh A6 A7 A8 A9 Ba Bd Bb Bc))
def qku {R : Type} (KK : AV → Mem → Option R) := subE (R := R) qr3 fun t m K => qi (bxC (m.s 3)) (qi (bxC (m.s 2)) (qe (bxC (m.s 1)) (qi (bxC (m.s 0)) (qej (gL [t 10] 0) (gI [t 11] 0) (qdn K) FU (gB [t 7] 0) (gI [t 12] 0)))))
theorem qto {R : Type} (KK : AV → Mem → Option R) : qca Try.prog (TIof Try.prog) 36 2 (qq [(.cell 4 true 8), .t 5] KK) (.loop (scOf (qcm KK))) (qku KK) :=
  qen tabOk follows (qsr KK) (qn (by kernel_rfl)) fun t m K => qtn KK _ _ K FU _ _ _ _ _ _ _ _ _ _ _ _ _ _ _ _ _ _ _ _ _ _ _ _ _ _ _ _ _ _
def qu3 : Shp := ⟨[(0, .one (.l (.sl 8))), (1, .one (.fn 63 [(1, 0)]))], [.box true (lk qb), .box true (lk qf)]⟩
def qmi {R : Type} (KK : AV → Mem → Option R) := (fun v5 Ai Aj Ak Al Am An Ao Ap Au Av Aw Ax A2 A3 A4 A5 Be Bf Bg Bh => KK (.tup [(.agg [(.bool A2), (.int .u64 A3), (.int .u64 A4), (.int .i64 A5), (.int .i64 Be), (.str Bf), (.str Bg), (.int .i64 Bh)]), (.bool v5)]) (qg [(some (.box true [(.bool Ai), (.int .u64 Aj), (.int .u64 Ak), (.int .i64 Al), (.int .i64 Am), (.str An), (.str Ao), (.int .i64 Ap)])), (some (.box true [(.bool Au), (.int .u64 Av), (.int .u64 Aw), (.int .i64 Ax)])), (some (.box true [(.bool A2), (.int .u64 A3), (.int .u64 A4), (.int .i64 A5), (.int .i64 Be), (.str Bf), (.str Bg), (.int .i64 Bh)]))]))
def qg5 {R : Type}  (v0 : List AV) (Ai : Bool) (Aj Ak Al Am : Int) (An Ao : List UInt8) (Ap : Int) (Au : Bool) (Av Aw Ax : Int) (kr : Bool → Bool → Int → Int → Int → Int → (List UInt8) → (List UInt8) → Int → Bool → Int → Int → Int → Bool → Int → Int → Int → Int → (List UInt8) → (List UInt8) → Int → Option R) : Option R :=
  (qej v0 (v0.length : Int) (fun v7q1 b0_0q2 b0_1q3 b0_2q4 b0_3q5 b0_4q6 b0_5q7 b0_6q8 b0_7q9 b1_0q10 b1_1q11 b1_2q12 b1_3q13 b2_0q14 b2_1q15 b2_2q16 b2_3q17 b2_4q18 b2_5q19 b2_6q20 b2_7q21 b3_0q22 b3_1q23 b3_2q24 b3_3q25 b3_4q26 b3_5q27 b3_6q28 b3_7q29 => (kr v7q1 b0_0q2 b0_1q3 b0_2q4 b0_3q5 b0_4q6 b0_5q7 b0_6q8 b0_7q9 b1_0q10 b1_1q11 b1_2q12 b1_3q13 b3_0q22 b3_1q23 b3_2q24 b3_3q25 b3_4q26 b3_5q27 b3_6q28 b3_7q29)) FU false (0 : Int) Ai Aj Ak Al Am An Ao Ap Au Av Aw Ax false (0 : Int) (0 : Int) (0 : Int) (0 : Int) ([] : List UInt8) ([] : List UInt8) (0 : Int) false (0 : Int) (0 : Int) (0 : Int) (0 : Int) ([] : List UInt8) ([] : List UInt8) (0 : Int))
def qfc {R : Type} := hull (qg5 (R := R))
theorem qmj {R : Type} : qfc (R := R) = qg5 := qj _
def qc8 {R : Type} (KK : AV → Mem → Option R) : AC R :=
  .seq (.reg [ao 4 (.alloc [(.bool false), (.int .u64 0), (.int .u64 0), (.int .i64 0), (.int .i64 0), (.str []), (.str []), (.int .i64 0)]),
 ao 5 (.mv (.c (.bool false)))]) (.seq (.reg [ao 6 (.alloc [(.bool false), (.int .u64 0), (.int .u64 0), (.int .i64 0), (.int .i64 0), (.str []), (.str []), (.int .i64 0)])]) (.seq (.reg [ao 7 (.mv (.c (.bool false)))]) (.seq (.seq (.reg [ao 10 (.mv 0),
 ao 11 (.len false 10),
 ao 12 (.mv (.c (.int .i64 0)))]) (.block 0 (.seq (.view [.sel [1, 4, 6, 7, 10, 11, 12] [0, 1, 2, 3]]) (.sub (.loop (scOf (qcm KK))) (qku KK))))) (.seq (.reg [ao 34 (.load true 8 6),
 ao 35 (.mv 7),
 an (.store 8 4 34),
 ao 5 (.mv 35)]) (.seq (.view [.sel [4, 5] [0, 1, 2]]) (.ret))))))
theorem qvx {R : Type} (KK : AV → Mem → Option R) : AC.ok Try.prog (TIof Try.prog) 36 2 (qq [(.cell 4 true 8), .t 5] KK) (qc8 KK) := qm (zA (qto KK) trivial)
theorem qwf {R : Type} (KK : AV → Mem → Option R) (v0 : List AV) (Ai : Bool) (Aj Ak Al Am : Int) (An Ao : List UInt8) (Ap : Int) (Au : Bool) (Av Aw Ax : Int) : den 2 (qq [(.cell 4 true 8), .t 5] KK) (qc8 KK) (qh [(0, (.sl 8 v0)), (1, (.func 63 [(.ptr 1 0)]))]) (qg [(some (.box true (qc Ai Aj Ak Al Am An Ao Ap))), (some (.box true (qa Au Av Aw Ax)))]) (kend (qq [(.cell 4 true 8), .t 5] KK)) = qfc v0 Ai Aj Ak Al Am An Ao Ap Au Av Aw Ax (qmi KK) := by
  rw [qmj]; kernel_rfl
theorem qwg : cFn (TIof Try.prog) Try.f62 = some ⟨36, [(.cell 4 true 8), .t 5], scOf (qc8 (R := Unit) (fun _ _ => none))⟩ := by kernel_rfl
theorem qwh {R : Type} (KK : AV → Mem → Option R) : (qc8 KK).er = some (scOf (qc8 (R := Unit) (fun _ _ => none))) := by kernel_rfl
def qm6 {R : Type} : List AV → Mem → (AV → Mem → Option R) → Option R := refE qu3 fun xs m KK => qe (bxC (m.s 1)) (qi (bxC (m.s 0)) (qfc (gL [(qk xs) 0] 0))) (qmi KK)
theorem qwi {R : Type} : qfn Try.prog 62 (qm6 (R := R)) :=
  qlm (ac := fun KK => qc8 KK) tabOk follows Try.func62 (by kernel_rfl) qwg (fun KK => qvx KK) (fun KK => qwh KK) rfl fun xs m KK => qwf KK _ _ _ _ _ _ _ _ _ _ _ _ _
def qvy (z : AV) : Option (AV × Bool) := cond (qgm [(.st [.b, (.i .u64), (.i .u64), (.i .i64), (.i .i64), .s, .s, (.i .i64)]), (.one .b)] z) (some ((gC (tpL z) 0), aB (gC (tpL z) 1))) none
def qbne (r : AV × Bool) : AV := .tup [ql5 (.st [.b, (.i .u64), (.i .u64), (.i .i64), (.i .i64), .s, .s, (.i .i64)]) r.1, .bool r.2]
def qbnf : Shp := ⟨[(0, .one (.l (.sl 8))), (1, .st (lk qf))], []⟩
def qz0 (v0 : List AV) (Aq : Bool) (Ar As At : Int) : Option (AV × Bool) :=
  (qfc v0 false (0 : Int) (0 : Int) (0 : Int) (0 : Int) ([] : List UInt8) ([] : List UInt8) (0 : Int) Aq Ar As At fun v5q1 b0_0q2 b0_1q3 b0_2q4 b0_3q5 b0_4q6 b0_5q7 b0_6q8 b0_7q9 b1_0q10 b1_1q11 b1_2q12 b1_3q13 b2_0q14 b2_1q15 b2_2q16 b2_3q17 b2_4q18 b2_5q19 b2_6q20 b2_7q21 => (some ((.agg [(.bool b2_0q14), (.int .u64 b2_1q15), (.int .u64 b2_2q16), (.int .i64 b2_3q17), (.int .i64 b2_4q18), (.str b2_5q19), (.str b2_6q20), (.int .i64 b2_7q21)]), v5q1)))
def qoc := hull qz0
theorem q8d : qoc = qz0 := qj _
def qz1 : AC (AV × Bool) :=
  .seq (.reg [ao 3 (.box 1),
 ao 4 (.alloc [(.bool false), (.int .u64 0), (.int .u64 0), (.int .i64 0), (.int .i64 0), (.str []), (.str []), (.int .i64 0)]),
 ao 5 (.mv (.c (.bool false)))]) (.seq (.reg [ao 6 (.mv 0),
 ao 7 (.mkf 63 [3]),
 .st (.sel [4, 6, 7] [1, 0]),
 .callr (po 8 (.call 62 [6, 7])) 62 qm6,
 ao 9 (.ext 8 0),
 ao 10 (.ext 8 1),
 an (.store 8 4 9),
 ao 5 (.mv 10)]) (.ret))
theorem qbqe : AC.ok Try.prog (TIof Try.prog) 11 0 (kret [(.cell 4 true 8), .t 5] qvy) qz1 := qm (zA qwi trivial)
theorem qbss (v0 : List AV) (Aq : Bool) (Ar As At : Int) : den 0 (kret [(.cell 4 true 8), .t 5] qvy) qz1 (qh [(0, (.sl 8 v0)), (1, .agg (qa Aq Ar As At))]) (qg []) (kend (kret [(.cell 4 true 8), .t 5] qvy)) = qoc v0 Aq Ar As At := by
  rw [q8d]; kernel_rfl
theorem qbst : cFn (TIof Try.prog) Try.f26 = some ⟨11, [(.cell 4 true 8), .t 5], scOf qz1⟩ := by kernel_rfl
def qbsu (xs : List AV) : Option (AV × Bool) := qe ((qk xs) 1).cells (qoc (gL [(qk xs) 0] 0))
def q6n {R : Type} : List AV → (AV → Option R) → Option R := entF qbnf qbsu qbne
theorem qbsv {R : Type} : qd Try.prog 26 (q6n (R := R)) :=
  qz tabOk follows Try.func26 (by kernel_rfl) qbst (fun z r h => by
 obtain ⟨h1, h2⟩ := qo h
 cases h2
 exact (qds h1).symm) qbqe (qn (by kernel_rfl)) fun xs => qbss _ _ _ _ _
def qbg2 : Shp := ⟨[(0, .st (lk qb)), (1, .one (.ptr 1 0))], [.box true (lk qb), .box true (lk qdl), .box true (lk qb), .box true (lk qb), .box true (lk qb)]⟩
def q4k {R : Type} (KK : AV → Mem → Option R) := (fun v3 Ai Aj Ak Al Am An Ao Ap Au Av Aw A2 A3 A4 A5 Be Bf Bg Bh A6 A7 A8 A9 Ba Bd Bb Bc Bi Bj Bl Bm Bn Bo Bp Bq => KK (.bool v3) (qg [(some (.box true [(.bool Ai), (.int .u64 Aj), (.int .u64 Ak), (.int .i64 Al), (.int .i64 Am), (.str An), (.str Ao), (.int .i64 Ap)])), (some (.box true [(.bool Au), (.int .u64 Av), (.int .u64 Aw)])), (some (.box true [(.bool A2), (.int .u64 A3), (.int .u64 A4), (.int .i64 A5), (.int .i64 Be), (.str Bf), (.str Bg), (.int .i64 Bh)])), (some (.box true [(.bool A6), (.int .u64 A7), (.int .u64 A8), (.int .i64 A9), (.int .i64 Ba), (.str Bd), (.str Bb), (.int .i64 Bc)])), (some (.box true [(.bool Bi), (.int .u64 Bj), (.int .u64 Bl), (.int .i64 Bm), (.int .i64 Bn), (.str Bo), (.str Bp), (.int .i64 Bq)]))]))
def qvz {R : Type}  (Aa : Bool) (Ab Ac Ad Ae : Int) (Af Ag : List UInt8) (Ah : Int) (Ai : Bool) (Aj Ak Al Am : Int) (An Ao : List UInt8) (Ap : Int) (Au : Bool) (Av Aw : Int) (A2 : Bool) (A3 A4 A5 Be : Int) (Bf Bg : List UInt8) (Bh : Int) (A6 : Bool) (A7 A8 A9 Ba : Int) (Bd Bb : List UInt8) (Bc : Int) (Bi : Bool) (Bj Bl Bm Bn : Int) (Bo Bp : List UInt8) (Bq : Int) (kr : Bool → Bool → Int → Int → Int → Int → (List UInt8) → (List UInt8) → Int → Bool → Int → Int → Bool → Int → Int → Int → Int → (List UInt8) → (List UInt8) → Int → Bool → Int → Int → Int → Int → (List UInt8) → (List UInt8) → Int → Bool → Int → Int → Int → Int → (List UInt8) → (List UInt8) → Int → Option R) : Option R :=
  (oB (qlp Aa Ab Ac Ad Au Av Aw) fun r1 => (kr r1 Ai Aj Ak Al Am An Ao Ap Au Av Aw A2 A3 A4 A5 Be Bf Bg Bh A6 A7 A8 A9 Ba Bd Bb Bc Bi Bj Bl Bm Bn Bo Bp Bq))
def qti {R : Type} := hull (qvz (R := R))
theorem q4l {R : Type} : qti (R := R) = qvz := qj _
def qi8 {R : Type} (KK : AV → Mem → Option R) : AC R :=
  .seq (.reg [ao 2 (.box 0),
 ao 3 (.mv (.c (.bool false)))]) (.seq (.reg [ao 4 (.fa 0 2),
 ao 5 (.load true 4 4),
 ao 6 (.load true 3 1),
 .call (po 7 (.call 35 [5, 6])) 35 qsg,
 ao 3 (.mv 7)]) (.seq (.view [.sel [3] [0, 1, 2, 3, 4]]) (.ret)))
theorem qbjb {R : Type} (KK : AV → Mem → Option R) : AC.ok Try.prog (TIof Try.prog) 8 5 (qq [.t 3] KK) (qi8 KK) := qm (zA (qd.ok q51) trivial)
theorem qbng {R : Type} (KK : AV → Mem → Option R) (Aa : Bool) (Ab Ac Ad Ae : Int) (Af Ag : List UInt8) (Ah : Int) (Ai : Bool) (Aj Ak Al Am : Int) (An Ao : List UInt8) (Ap : Int) (Au : Bool) (Av Aw : Int) (A2 : Bool) (A3 A4 A5 Be : Int) (Bf Bg : List UInt8) (Bh : Int) (A6 : Bool) (A7 A8 A9 Ba : Int) (Bd Bb : List UInt8) (Bc : Int) (Bi : Bool) (Bj Bl Bm Bn : Int) (Bo Bp : List UInt8) (Bq : Int) : den 5 (qq [.t 3] KK) (qi8 KK) (qh [(0, .agg (qc Aa Ab Ac Ad Ae Af Ag Ah)), (1, (.ptr 1 0))]) (qg [(some (.box true (qc Ai Aj Ak Al Am An Ao Ap))), (some (.box true (qbp Au Av Aw))), (some (.box true (qc A2 A3 A4 A5 Be Bf Bg Bh))), (some (.box true (qc A6 A7 A8 A9 Ba Bd Bb Bc))), (some (.box true (qc Bi Bj Bl Bm Bn Bo Bp Bq)))]) (kend (qq [.t 3] KK)) = qti Aa Ab Ac Ad Ae Af Ag Ah Ai Aj Ak Al Am An Ao Ap Au Av Aw A2 A3 A4 A5 Be Bf Bg Bh A6 A7 A8 A9 Ba Bd Bb Bc Bi Bj Bl Bm Bn Bo Bp Bq (q4k KK) := by
  rw [q4l]; kernel_rfl
theorem qbnh : cFn (TIof Try.prog) Try.f65 = some ⟨8, [.t 3], scOf (qi8 (R := Unit) (fun _ _ => none))⟩ := by kernel_rfl
theorem qbni {R : Type} (KK : AV → Mem → Option R) : (qi8 KK).er = some (scOf (qi8 (R := Unit) (fun _ _ => none))) := by kernel_rfl
def q6o {R : Type} : List AV → Mem → (AV → Mem → Option R) → Option R := refE qbg2 fun xs m KK => qi (bxC (m.s 4)) (qi (bxC (m.s 3)) (qi (bxC (m.s 2)) (qcj (bxC (m.s 1)) (qi (bxC (m.s 0)) (qi ((qk xs) 0).cells (qti)))))) (q4k KK)
theorem qbnj {R : Type} : qfn Try.prog 65 (q6o (R := R)) :=
  qlm (ac := fun KK => qi8 KK) tabOk follows Try.func65 (by kernel_rfl) qbnh (fun KK => qbjb KK) (fun KK => qbni KK) rfl fun xs m KK => qbng KK _ _ _ _ _ _ _ _ _ _ _ _ _ _ _ _ _ _ _ _ _ _ _ _ _ _ _ _ _ _ _ _ _ _ _ _ _ _ _ _ _ _ _
def qkc {R : Type}  (v7 : Bool) (v10 : List AV) (v11 v12 : Int) (K : Ex → Env → Mem → Option R) := (fun z_v31 z_b0_0 z_b0_1 z_b0_2 z_b0_3 z_b0_4 z_b0_5 z_b0_6 z_b0_7 z_b1_0 z_b1_1 z_b1_2 z_b2_0 z_b2_1 z_b2_2 z_b2_3 z_b2_4 z_b2_5 z_b2_6 z_b2_7 z_b3_0 z_b3_1 z_b3_2 z_b3_3 z_b3_4 z_b3_5 z_b3_6 z_b3_7 z_b4_0 z_b4_1 z_b4_2 z_b4_3 z_b4_4 z_b4_5 z_b4_6 z_b4_7 => K .norm (qh [(1, (.func 65 [(.ptr 1 0)])), (4, (.ptr 2 0)), (6, (.ptr 3 0)), (7, (.bool v7)), (9, (.ptr 4 0)), (10, (.sl 8 v10)), (11, (.int .i64 v11)), (12, (.int .i64 v12)), (31, (.bool z_v31))]) (qg [(some (.box true (qc z_b0_0 z_b0_1 z_b0_2 z_b0_3 z_b0_4 z_b0_5 z_b0_6 z_b0_7))), (some (.box true (qbp z_b1_0 z_b1_1 z_b1_2))), (some (.box true (qc z_b2_0 z_b2_1 z_b2_2 z_b2_3 z_b2_4 z_b2_5 z_b2_6 z_b2_7))), (some (.box true (qc z_b3_0 z_b3_1 z_b3_2 z_b3_3 z_b3_4 z_b3_5 z_b3_6 z_b3_7))), (some (.box true (qc z_b4_0 z_b4_1 z_b4_2 z_b4_3 z_b4_4 z_b4_5 z_b4_6 z_b4_7)))]))
def qr5 : Shp := ⟨[(1, .one (.fn 65 [(1, 0)])), (4, .one (.ptr 2 0)), (6, .one (.ptr 3 0)), (7, .one (.l .b)), (9, .one (.ptr 4 0)), (10, .one (.l (.sl 8))), (11, .one (.l (.i .i64))), (12, .one (.l (.i .i64)))], [.box true (lk qb), .box true (lk qdl), .box true (lk qb), .box true (lk qb), .box true (lk qb)]⟩
def qfp {R : Type}  (v7 : Bool) (v10 : List AV) (v11 v12 : Int) (Ai : Bool) (Aj Ak Al Am : Int) (An Ao : List UInt8) (Ap : Int) (Au : Bool) (Av Aw : Int) (A2 : Bool) (A3 A4 A5 Be : Int) (Bf Bg : List UInt8) (Bh : Int) (A6 : Bool) (A7 A8 A9 Ba : Int) (Bd Bb : List UInt8) (Bc : Int) (Bi : Bool) (Bj Bl Bm Bn : Int) (Bo Bp : List UInt8) (Bq : Int) (kn : Bool → Bool → Int → Int → Int → Int → (List UInt8) → (List UInt8) → Int → Bool → Int → Int → Bool → Int → Int → Int → Int → (List UInt8) → (List UInt8) → Int → Bool → Int → Int → Int → Int → (List UInt8) → (List UInt8) → Int → Bool → Int → Int → Int → Int → (List UInt8) → (List UInt8) → Int → Option R) : Option R :=
  (qti Bi Bj Bl Bm Bn Bo Bp Bq Ai Aj Ak Al Am An Ao Ap Au Av Aw A2 A3 A4 A5 Be Bf Bg Bh A6 A7 A8 A9 Ba Bd Bb Bc Bi Bj Bl Bm Bn Bo Bp Bq fun v3q1 b0_0q2 b0_1q3 b0_2q4 b0_3q5 b0_4q6 b0_5q7 b0_6q8 b0_7q9 b1_0q10 b1_1q11 b1_2q12 b2_0q13 b2_1q14 b2_2q15 b2_3q16 b2_4q17 b2_5q18 b2_6q19 b2_7q20 b3_0q21 b3_1q22 b3_2q23 b3_3q24 b3_4q25 b3_5q26 b3_6q27 b3_7q28 b4_0q29 b4_1q30 b4_2q31 b4_3q32 b4_4q33 b4_5q34 b4_6q35 b4_7q36 => (bif v3q1 then (bif (!v7) then (kn true b0_0q2 b0_1q3 b0_2q4 b0_3q5 b0_4q6 b0_5q7 b0_6q8 b0_7q9 b1_0q10 b1_1q11 b1_2q12 b2_0q13 b2_1q14 b2_2q15 b2_3q16 b2_4q17 b2_5q18 b2_6q19 b2_7q20 b3_0q21 b3_1q22 b3_2q23 b3_3q24 b3_4q25 b3_5q26 b3_6q27 b3_7q28 b4_0q29 b4_1q30 b4_2q31 b4_3q32 b4_4q33 b4_5q34 b4_6q35 b4_7q36) else (kn (decide (b4_3q32 > b3_3q24)) b0_0q2 b0_1q3 b0_2q4 b0_3q5 b0_4q6 b0_5q7 b0_6q8 b0_7q9 b1_0q10 b1_1q11 b1_2q12 b2_0q13 b2_1q14 b2_2q15 b2_3q16 b2_4q17 b2_5q18 b2_6q19 b2_7q20 b3_0q21 b3_1q22 b3_2q23 b3_3q24 b3_4q25 b3_5q26 b3_6q27 b3_7q28 b4_0q29 b4_1q30 b4_2q31 b4_3q32 b4_4q33 b4_5q34 b4_6q35 b4_7q36)) else (kn false b0_0q2 b0_1q3 b0_2q4 b0_3q5 b0_4q6 b0_5q7 b0_6q8 b0_7q9 b1_0q10 b1_1q11 b1_2q12 b2_0q13 b2_1q14 b2_2q15 b2_3q16 b2_4q17 b2_5q18 b2_6q19 b2_7q20 b3_0q21 b3_1q22 b3_2q23 b3_3q24 b3_4q25 b3_5q26 b3_6q27 b3_7q28 b4_0q29 b4_1q30 b4_2q31 b4_3q32 b4_4q33 b4_5q34 b4_6q35 b4_7q36)))
def qek {R : Type} := hull (qfp (R := R))
theorem qkd {R : Type} : qek (R := R) = qfp := qj _
def qd1 {R : Type} (KK : AV → Mem → Option R) : AC R :=
  .seq (.reg [ao 16 (.mv 1),
 ao 17 (.load true 8 9),
 .st (.sel [1, 4, 6, 7, 9, 10, 11, 12, 16, 17] [0, 1, 2, 3, 4]),
 .callr (po 18 (.callv 16 [17])) 65 q6o,
 ao 19 (.mv 18),
 ag 20 19 true (.mv 7),
 ag 21 19 true (.un .not 20),
 ag 22 19 true (.mv 21),
 ag 23 22 false (.fa 0 9),
 ag 24 22 false (.fa 3 23),
 ag 25 22 false (.load false 1 24),
 ag 26 22 false (.fa 0 6),
 ag 27 22 false (.fa 3 26),
 ag 28 22 false (.load false 1 27),
 ag 29 22 false (.bin .gtr 25 28),
 ag 30 19 true (.pick 22 (.c (.bool true)) 29),
 ao 31 (.pick 19 30 (.c (.bool false)))]) (.view [.sel [1, 4, 6, 7, 9, 10, 11, 12, 31] [0, 1, 2, 3, 4]])
theorem qss {R : Type} (KK : AV → Mem → Option R) : AC.ok Try.prog (TIof Try.prog) 36 2 (qq [(.cell 4 true 8), .t 5] KK) (qd1 KK) := qm (zA qbnj trivial)
theorem qtp {R : Type} (KK : AV → Mem → Option R) (v7 : Bool) (v10 : List AV) (v11 v12 : Int) (Ai : Bool) (Aj Ak Al Am : Int) (An Ao : List UInt8) (Ap : Int) (Au : Bool) (Av Aw : Int) (A2 : Bool) (A3 A4 A5 Be : Int) (Bf Bg : List UInt8) (Bh : Int) (A6 : Bool) (A7 A8 A9 Ba : Int) (Bd Bb : List UInt8) (Bc : Int) (Bi : Bool) (Bj Bl Bm Bn : Int) (Bo Bp : List UInt8) (Bq : Int) (K : Ex → Env → Mem → Option R) : den 2 (qq [(.cell 4 true 8), .t 5] KK) (qd1 KK) (qh [(1, (.func 65 [(.ptr 1 0)])), (4, (.ptr 2 0)), (6, (.ptr 3 0)), (7, (.bool v7)), (9, (.ptr 4 0)), (10, (.sl 8 v10)), (11, (.int .i64 v11)), (12, (.int .i64 v12))]) (qg [(some (.box true (qc Ai Aj Ak Al Am An Ao Ap))), (some (.box true (qbp Au Av Aw))), (some (.box true (qc A2 A3 A4 A5 Be Bf Bg Bh))), (some (.box true (qc A6 A7 A8 A9 Ba Bd Bb Bc))), (some (.box true (qc Bi Bj Bl Bm Bn Bo Bp Bq)))]) K = qek v7 v10 v11 v12 Ai Aj Ak Al Am An Ao Ap Au Av Aw A2 A3 A4 A5 Be Bf Bg Bh A6 A7 A8 A9 Ba Bd Bb Bc Bi Bj Bl Bm Bn Bo Bp Bq (qkc v7 v10 v11 v12 K) := by
  rw [qkd]; kernel_rfl
def qkv {R : Type} (KK : AV → Mem → Option R) := subE (R := R) qr5 fun t m K => qi (bxC (m.s 4)) (qi (bxC (m.s 3)) (qi (bxC (m.s 2)) (qcj (bxC (m.s 1)) (qi (bxC (m.s 0)) (qek (gB [t 7] 0) (gL [t 10] 0) (gI [t 11] 0) (gI [t 12] 0)))))) (qkc (gB [t 7] 0) (gL [t 10] 0) (gI [t 11] 0) (gI [t 12] 0) K)
theorem qtq {R : Type} (KK : AV → Mem → Option R) : qca Try.prog (TIof Try.prog) 36 2 (qq [(.cell 4 true 8), .t 5] KK) (scOf (qd1 KK)) (qkv KK) :=
  qet tabOk follows (qss KK) (qn (by kernel_rfl)) fun t m K => qtp KK _ _ _ _ _ _ _ _ _ _ _ _ _ _ _ _ _ _ _ _ _ _ _ _ _ _ _ _ _ _ _ _ _ _ _ _ _ _ _ K
def qdo {R : Type}  (K : Ex → Env → Mem → Option R) := (fun z_v7 z_b0_0 z_b0_1 z_b0_2 z_b0_3 z_b0_4 z_b0_5 z_b0_6 z_b0_7 z_b1_0 z_b1_1 z_b1_2 z_b2_0 z_b2_1 z_b2_2 z_b2_3 z_b2_4 z_b2_5 z_b2_6 z_b2_7 z_b3_0 z_b3_1 z_b3_2 z_b3_3 z_b3_4 z_b3_5 z_b3_6 z_b3_7 => K (.exit 0) (qh [(4, (.ptr 2 0)), (6, (.ptr 3 0)), (7, (.bool z_v7))]) (qg [(some (.box true (qc z_b0_0 z_b0_1 z_b0_2 z_b0_3 z_b0_4 z_b0_5 z_b0_6 z_b0_7))), (some (.box true (qbp z_b1_0 z_b1_1 z_b1_2))), (some (.box true (qc z_b2_0 z_b2_1 z_b2_2 z_b2_3 z_b2_4 z_b2_5 z_b2_6 z_b2_7))), (some (.box true (qc z_b3_0 z_b3_1 z_b3_2 z_b3_3 z_b3_4 z_b3_5 z_b3_6 z_b3_7)))]))
def qr6 : Shp := ⟨[(1, .one (.fn 65 [(1, 0)])), (4, .one (.ptr 2 0)), (6, .one (.ptr 3 0)), (7, .one (.l .b)), (10, .one (.l (.sl 8))), (11, .one (.l (.i .i64))), (12, .one (.l (.i .i64)))], [.box true (lk qb), .box true (lk qdl), .box true (lk qb), .box true (lk qb)]⟩
def qfk (v7 : Bool) (v10 : List AV) (v11 v12 : Int) (Ai : Bool) (Aj Ak Al Am : Int) (An Ao : List UInt8) (Ap : Int) (Au : Bool) (Av Aw : Int) (A2 : Bool) (A3 A4 A5 Be : Int) (Bf Bg : List UInt8) (Bh : Int) (A6 : Bool) (A7 A8 A9 Ba : Int) (Bd Bb : List UInt8) (Bc : Int) : Env := qh [(1, (.func 65 [(.ptr 1 0)])), (4, (.ptr 2 0)), (6, (.ptr 3 0)), (7, (.bool v7)), (10, (.sl 8 v10)), (11, (.int .i64 v11)), (12, (.int .i64 v12))]
def qfl (v7 : Bool) (v10 : List AV) (v11 v12 : Int) (Ai : Bool) (Aj Ak Al Am : Int) (An Ao : List UInt8) (Ap : Int) (Au : Bool) (Av Aw : Int) (A2 : Bool) (A3 A4 A5 Be : Int) (Bf Bg : List UInt8) (Bh : Int) (A6 : Bool) (A7 A8 A9 Ba : Int) (Bd Bb : List UInt8) (Bc : Int) : Mem := qg [(some (.box true (qc Ai Aj Ak Al Am An Ao Ap))), (some (.box true (qbp Au Av Aw))), (some (.box true (qc A2 A3 A4 A5 Be Bf Bg Bh))), (some (.box true (qc A6 A7 A8 A9 Ba Bd Bb Bc)))]
def qcn {R : Type}  (v7 : Bool) (v10 : List AV) (v11 v12 : Int) (Ai : Bool) (Aj Ak Al Am : Int) (An Ao : List UInt8) (Ap : Int) (Au : Bool) (Av Aw : Int) (A2 : Bool) (A3 A4 A5 Be : Int) (Bf Bg : List UInt8) (Bh : Int) (A6 : Bool) (A7 A8 A9 Ba : Int) (Bd Bb : List UInt8) (Bc : Int) (next : Bool → Int → Bool → Int → Int → Int → Int → (List UInt8) → (List UInt8) → Int → Bool → Int → Int → Bool → Int → Int → Int → Int → (List UInt8) → (List UInt8) → Int → Bool → Int → Int → Int → Int → (List UInt8) → (List UInt8) → Int → Option R) (kx0 : Bool → Bool → Int → Int → Int → Int → (List UInt8) → (List UInt8) → Int → Bool → Int → Int → Bool → Int → Int → Int → Int → (List UInt8) → (List UInt8) → Int → Bool → Int → Int → Int → Int → (List UInt8) → (List UInt8) → Int → Option R) : Option R :=
  (bif (decide (v12 < v11)) then (oB (ixB v10 v12) fun y1 => (bif fitC qb y1.cells then (qek v7 v10 v11 v12 Ai Aj Ak Al Am An Ao Ap Au Av Aw A2 A3 A4 A5 Be Bf Bg Bh A6 A7 A8 A9 Ba Bd Bb Bc (gB y1.cells 0) (gI y1.cells 1) (gI y1.cells 2) (gI y1.cells 3) (gI y1.cells 4) (gS y1.cells 5) (gS y1.cells 6) (gI y1.cells 7) (fun v31q2 b0_0q3 b0_1q4 b0_2q5 b0_3q6 b0_4q7 b0_5q8 b0_6q9 b0_7q10 b1_0q11 b1_1q12 b1_2q13 b2_0q14 b2_1q15 b2_2q16 b2_3q17 b2_4q18 b2_5q19 b2_6q20 b2_7q21 b3_0q22 b3_1q23 b3_2q24 b3_3q25 b3_4q26 b3_5q27 b3_6q28 b3_7q29 b4_0q30 b4_1q31 b4_2q32 b4_3q33 b4_4q34 b4_5q35 b4_6q36 b4_7q37 => (bif v31q2 then (next true (IntKind.i64.wrap (v12 + (1 : Int))) b0_0q3 b0_1q4 b0_2q5 b0_3q6 b0_4q7 b0_5q8 b0_6q9 b0_7q10 b1_0q11 b1_1q12 b1_2q13 b2_0q14 b2_1q15 b2_2q16 b2_3q17 b2_4q18 b2_5q19 b2_6q20 b2_7q21 b4_0q30 b4_1q31 b4_2q32 b4_3q33 b4_4q34 b4_5q35 b4_6q36 b4_7q37) else (next v7 (IntKind.i64.wrap (v12 + (1 : Int))) b0_0q3 b0_1q4 b0_2q5 b0_3q6 b0_4q7 b0_5q8 b0_6q9 b0_7q10 b1_0q11 b1_1q12 b1_2q13 b2_0q14 b2_1q15 b2_2q16 b2_3q17 b2_4q18 b2_5q19 b2_6q20 b2_7q21 b3_0q22 b3_1q23 b3_2q24 b3_3q25 b3_4q26 b3_5q27 b3_6q28 b3_7q29)))) else none)) else (kx0 v7 Ai Aj Ak Al Am An Ao Ap Au Av Aw A2 A3 A4 A5 Be Bf Bg Bh A6 A7 A8 A9 Ba Bd Bb Bc))
def qde {R : Type}  (v10 : List AV) (v11 : Int) (kx0 : Bool → Bool → Int → Int → Int → Int → (List UInt8) → (List UInt8) → Int → Bool → Int → Int → Bool → Int → Int → Int → Int → (List UInt8) → (List UInt8) → Int → Bool → Int → Int → Int → Int → (List UInt8) → (List UInt8) → Int → Option R) : Nat → Bool → Int → Bool → Int → Int → Int → Int → (List UInt8) → (List UInt8) → Int → Bool → Int → Int → Bool → Int → Int → Int → Int → (List UInt8) → (List UInt8) → Int → Bool → Int → Int → Int → Int → (List UInt8) → (List UInt8) → Int → Option R
  | 0 => (fun _ _ _ _ _ _ _ _ _ _ _ _ _ _ _ _ _ _ _ _ _ _ _ _ _ _ _ _ _ => none)
  | n + 1 => (fun v7 v12 Ai Aj Ak Al Am An Ao Ap Au Av Aw A2 A3 A4 A5 Be Bf Bg Bh A6 A7 A8 A9 Ba Bd Bb Bc => qcn v7 v10 v11 v12 Ai Aj Ak Al Am An Ao Ap Au Av Aw A2 A3 A4 A5 Be Bf Bg Bh A6 A7 A8 A9 Ba Bd Bb Bc (qde v10 v11 kx0 n) kx0)
def qel {R : Type} := hull (qde (R := R))
theorem qke {R : Type} : qel (R := R) = qde := qj _
def qco {R : Type} (KK : AV → Mem → Option R) : AC R :=
  .seq (.reg [ao 13 (.bin .lss 12 11)]) (.seq (.cond 13 (.skip) (.seq (.view [.sel [4, 6, 7] [0, 1, 2, 3]]) (.exit 0))) (.seq (.block 1 (.seq (.reg [ao 14 (.ia 8 10 12),
 .st (.etac 14 qb),
 ao 15 (.load true 8 14),
 ao 9 (.alloc [(.bool false), (.int .u64 0), (.int .u64 0), (.int .i64 0), (.int .i64 0), (.str []), (.str []), (.int .i64 0)]),
 an (.store 8 9 15)]) (.seq (.seq (.view [.sel [1, 4, 6, 7, 9, 10, 11, 12] [0, 1, 2, 3, 4]]) (.sub (scOf (qd1 KK)) (qkv KK))) (.cond 31 (.reg [ao 32 (.load true 8 9),
 an (.store 8 6 32),
 ao 7 (.mv (.c (.bool true)))]) (.skip))))) (.seq (.reg [ao 33 (.bin .add 12 (.c (.int .i64 1))),
 ao 12 (.mv 33)]) (.view [.sel [1, 4, 6, 7, 10, 11, 12] [0, 1, 2, 3]]))))
theorem qst {R : Type} (KK : AV → Mem → Option R) : AC.ok Try.prog (TIof Try.prog) 36 2 (qq [(.cell 4 true 8), .t 5] KK) (qco KK) := qm (zA (qtq KK) trivial)
theorem qr7 {R : Type} (KK : AV → Mem → Option R) (v7 : Bool) (v10 : List AV) (v11 v12 : Int) (Ai : Bool) (Aj Ak Al Am : Int) (An Ao : List UInt8) (Ap : Int) (Au : Bool) (Av Aw : Int) (A2 : Bool) (A3 A4 A5 Be : Int) (Bf Bg : List UInt8) (Bh : Int) (A6 : Bool) (A7 A8 A9 Ba : Int) (Bd Bb : List UInt8) (Bc : Int) (K : Ex → Env → Mem → Option R) : den 2 (qq [(.cell 4 true 8), .t 5] KK) (qco KK) (qfk v7 v10 v11 v12 Ai Aj Ak Al Am An Ao Ap Au Av Aw A2 A3 A4 A5 Be Bf Bg Bh A6 A7 A8 A9 Ba Bd Bb Bc) (qfl v7 v10 v11 v12 Ai Aj Ak Al Am An Ao Ap Au Av Aw A2 A3 A4 A5 Be Bf Bg Bh A6 A7 A8 A9 Ba Bd Bb Bc) K = qcn v7 v10 v11 v12 Ai Aj Ak Al Am An Ao Ap Au Av Aw A2 A3 A4 A5 Be Bf Bg Bh A6 A7 A8 A9 Ba Bd Bb Bc (fun z_v7 z_v12 z_b0_0 z_b0_1 z_b0_2 z_b0_3 z_b0_4 z_b0_5 z_b0_6 z_b0_7 z_b1_0 z_b1_1 z_b1_2 z_b2_0 z_b2_1 z_b2_2 z_b2_3 z_b2_4 z_b2_5 z_b2_6 z_b2_7 z_b3_0 z_b3_1 z_b3_2 z_b3_3 z_b3_4 z_b3_5 z_b3_6 z_b3_7 => K .norm (qfk z_v7 v10 v11 z_v12 z_b0_0 z_b0_1 z_b0_2 z_b0_3 z_b0_4 z_b0_5 z_b0_6 z_b0_7 z_b1_0 z_b1_1 z_b1_2 z_b2_0 z_b2_1 z_b2_2 z_b2_3 z_b2_4 z_b2_5 z_b2_6 z_b2_7 z_b3_0 z_b3_1 z_b3_2 z_b3_3 z_b3_4 z_b3_5 z_b3_6 z_b3_7) (qfl z_v7 v10 v11 z_v12 z_b0_0 z_b0_1 z_b0_2 z_b0_3 z_b0_4 z_b0_5 z_b0_6 z_b0_7 z_b1_0 z_b1_1 z_b1_2 z_b2_0 z_b2_1 z_b2_2 z_b2_3 z_b2_4 z_b2_5 z_b2_6 z_b2_7 z_b3_0 z_b3_1 z_b3_2 z_b3_3 z_b3_4 z_b3_5 z_b3_6 z_b3_7)) (qdo K) := by kernel_rfl
theorem qtr {R : Type} (KK : AV → Mem → Option R) (v10 : List AV) (v11 : Int) (K : Ex → Env → Mem → Option R) : ∀ (n : Nat) (v7 : Bool) (v12 : Int) (Ai : Bool) (Aj Ak Al Am : Int) (An Ao : List UInt8) (Ap : Int) (Au : Bool) (Av Aw : Int) (A2 : Bool) (A3 A4 A5 Be : Int) (Bf Bg : List UInt8) (Bh : Int) (A6 : Bool) (A7 A8 A9 Ba : Int) (Bd Bb : List UInt8) (Bc : Int), qe5 (den 2 (qq [(.cell 4 true 8), .t 5] KK) (qco KK)) n (qfk v7 v10 v11 v12 Ai Aj Ak Al Am An Ao Ap Au Av Aw A2 A3 A4 A5 Be Bf Bg Bh A6 A7 A8 A9 Ba Bd Bb Bc) (qfl v7 v10 v11 v12 Ai Aj Ak Al Am An Ao Ap Au Av Aw A2 A3 A4 A5 Be Bf Bg Bh A6 A7 A8 A9 Ba Bd Bb Bc) K = qel v10 v11 (qdo K) n v7 v12 Ai Aj Ak Al Am An Ao Ap Au Av Aw A2 A3 A4 A5 Be Bf Bg Bh A6 A7 A8 A9 Ba Bd Bb Bc := by
  rw [qke]
  intro n
  induction n with
  | zero => intros; rfl
  | succ n ih =>
 intro v7 v12 Ai Aj Ak Al Am An Ao Ap Au Av Aw A2 A3 A4 A5 Be Bf Bg Bh A6 A7 A8 A9 Ba Bd Bb Bc
 exact (qr7 KK v7 v10 v11 v12 Ai Aj Ak Al Am An Ao Ap Au Av Aw A2 A3 A4 A5 Be Bf Bg Bh A6 A7 A8 A9 Ba Bd Bb Bc (itK (den 2 (qq [(.cell 4 true 8), .t 5] KK) (qco KK)) n K)).trans (congrArg (fun q => qcn v7 v10 v11 v12 Ai Aj Ak Al Am An Ao Ap Au Av Aw A2 A3 A4 A5 Be Bf Bg Bh A6 A7 A8 A9 Ba Bd Bb Bc q (qdo K)) (funext fun v7 => funext fun v12 => funext fun Ai => funext fun Aj => funext fun Ak => funext fun Al => funext fun Am => funext fun An => funext fun Ao => funext fun Ap => funext fun Au => funext fun Av => funext fun Aw => funext fun A2 => funext fun A3 => funext fun A4 => funext fun A5 => funext fun Be => funext fun Bf => funext fun Bg => funext fun Bh => funext fun A6 => funext fun A7 => funext fun A8 => funext fun A9 => funext fun Ba => funext fun Bd => funext fun Bb => funext fun Bc => ih v7 v12 Ai Aj Ak Al Am An Ao Ap Au Av Aw A2 A3 A4 A5 Be Bf Bg Bh A6 A7 A8 A9 Ba Bd Bb Bc))
def qkw {R : Type} (KK : AV → Mem → Option R) := subE (R := R) qr6 fun t m K => qi (bxC (m.s 3)) (qi (bxC (m.s 2)) (qcj (bxC (m.s 1)) (qi (bxC (m.s 0)) (qel (gL [t 10] 0) (gI [t 11] 0) (qdo K) FU (gB [t 7] 0) (gI [t 12] 0)))))
theorem qts {R : Type} (KK : AV → Mem → Option R) : qca Try.prog (TIof Try.prog) 36 2 (qq [(.cell 4 true 8), .t 5] KK) (.loop (scOf (qco KK))) (qkw KK) :=
  qen tabOk follows (qst KK) (qn (by kernel_rfl)) fun t m K => qtr KK _ _ K FU _ _ _ _ _ _ _ _ _ _ _ _ _ _ _ _ _ _ _ _ _ _ _ _ _ _ _ _ _
def qu4 : Shp := ⟨[(0, .one (.l (.sl 8))), (1, .one (.fn 65 [(1, 0)]))], [.box true (lk qb), .box true (lk qdl)]⟩
def qmk {R : Type} (KK : AV → Mem → Option R) := (fun v5 Ai Aj Ak Al Am An Ao Ap Au Av Aw A2 A3 A4 A5 Be Bf Bg Bh => KK (.tup [(.agg [(.bool A2), (.int .u64 A3), (.int .u64 A4), (.int .i64 A5), (.int .i64 Be), (.str Bf), (.str Bg), (.int .i64 Bh)]), (.bool v5)]) (qg [(some (.box true [(.bool Ai), (.int .u64 Aj), (.int .u64 Ak), (.int .i64 Al), (.int .i64 Am), (.str An), (.str Ao), (.int .i64 Ap)])), (some (.box true [(.bool Au), (.int .u64 Av), (.int .u64 Aw)])), (some (.box true [(.bool A2), (.int .u64 A3), (.int .u64 A4), (.int .i64 A5), (.int .i64 Be), (.str Bf), (.str Bg), (.int .i64 Bh)]))]))
def qg6 {R : Type}  (v0 : List AV) (Ai : Bool) (Aj Ak Al Am : Int) (An Ao : List UInt8) (Ap : Int) (Au : Bool) (Av Aw : Int) (kr : Bool → Bool → Int → Int → Int → Int → (List UInt8) → (List UInt8) → Int → Bool → Int → Int → Bool → Int → Int → Int → Int → (List UInt8) → (List UInt8) → Int → Option R) : Option R :=
  (qel v0 (v0.length : Int) (fun v7q1 b0_0q2 b0_1q3 b0_2q4 b0_3q5 b0_4q6 b0_5q7 b0_6q8 b0_7q9 b1_0q10 b1_1q11 b1_2q12 b2_0q13 b2_1q14 b2_2q15 b2_3q16 b2_4q17 b2_5q18 b2_6q19 b2_7q20 b3_0q21 b3_1q22 b3_2q23 b3_3q24 b3_4q25 b3_5q26 b3_6q27 b3_7q28 => (kr v7q1 b0_0q2 b0_1q3 b0_2q4 b0_3q5 b0_4q6 b0_5q7 b0_6q8 b0_7q9 b1_0q10 b1_1q11 b1_2q12 b3_0q21 b3_1q22 b3_2q23 b3_3q24 b3_4q25 b3_5q26 b3_6q27 b3_7q28)) FU false (0 : Int) Ai Aj Ak Al Am An Ao Ap Au Av Aw false (0 : Int) (0 : Int) (0 : Int) (0 : Int) ([] : List UInt8) ([] : List UInt8) (0 : Int) false (0 : Int) (0 : Int) (0 : Int) (0 : Int) ([] : List UInt8) ([] : List UInt8) (0 : Int))
def qfd {R : Type} := hull (qg6 (R := R))
theorem qml {R : Type} : qfd (R := R) = qg6 := qj _
def qc9 {R : Type} (KK : AV → Mem → Option R) : AC R :=
  .seq (.reg [ao 4 (.alloc [(.bool false), (.int .u64 0), (.int .u64 0), (.int .i64 0), (.int .i64 0), (.str []), (.str []), (.int .i64 0)]),
 ao 5 (.mv (.c (.bool false)))]) (.seq (.reg [ao 6 (.alloc [(.bool false), (.int .u64 0), (.int .u64 0), (.int .i64 0), (.int .i64 0), (.str []), (.str []), (.int .i64 0)])]) (.seq (.reg [ao 7 (.mv (.c (.bool false)))]) (.seq (.seq (.reg [ao 10 (.mv 0),
 ao 11 (.len false 10),
 ao 12 (.mv (.c (.int .i64 0)))]) (.block 0 (.seq (.view [.sel [1, 4, 6, 7, 10, 11, 12] [0, 1, 2, 3]]) (.sub (.loop (scOf (qco KK))) (qkw KK))))) (.seq (.reg [ao 34 (.load true 8 6),
 ao 35 (.mv 7),
 an (.store 8 4 34),
 ao 5 (.mv 35)]) (.seq (.view [.sel [4, 5] [0, 1, 2]]) (.ret))))))
theorem qv0 {R : Type} (KK : AV → Mem → Option R) : AC.ok Try.prog (TIof Try.prog) 36 2 (qq [(.cell 4 true 8), .t 5] KK) (qc9 KK) := qm (zA (qts KK) trivial)
theorem qwj {R : Type} (KK : AV → Mem → Option R) (v0 : List AV) (Ai : Bool) (Aj Ak Al Am : Int) (An Ao : List UInt8) (Ap : Int) (Au : Bool) (Av Aw : Int) : den 2 (qq [(.cell 4 true 8), .t 5] KK) (qc9 KK) (qh [(0, (.sl 8 v0)), (1, (.func 65 [(.ptr 1 0)]))]) (qg [(some (.box true (qc Ai Aj Ak Al Am An Ao Ap))), (some (.box true (qbp Au Av Aw)))]) (kend (qq [(.cell 4 true 8), .t 5] KK)) = qfd v0 Ai Aj Ak Al Am An Ao Ap Au Av Aw (qmk KK) := by
  rw [qml]; kernel_rfl
theorem qwk : cFn (TIof Try.prog) Try.f62 = some ⟨36, [(.cell 4 true 8), .t 5], scOf (qc9 (R := Unit) (fun _ _ => none))⟩ := by kernel_rfl
theorem qwl {R : Type} (KK : AV → Mem → Option R) : (qc9 KK).er = some (scOf (qc9 (R := Unit) (fun _ _ => none))) := by kernel_rfl
def qm7 {R : Type} : List AV → Mem → (AV → Mem → Option R) → Option R := refE qu4 fun xs m KK => qcj (bxC (m.s 1)) (qi (bxC (m.s 0)) (qfd (gL [(qk xs) 0] 0))) (qmk KK)
theorem qwm {R : Type} : qfn Try.prog 62 (qm7 (R := R)) :=
  qlm (ac := fun KK => qc9 KK) tabOk follows Try.func62 (by kernel_rfl) qwk (fun KK => qv0 KK) (fun KK => qwl KK) rfl fun xs m KK => qwj KK _ _ _ _ _ _ _ _ _ _ _ _
def qv1 (z : AV) : Option (AV × Bool) := cond (qgm [(.st [.b, (.i .u64), (.i .u64), (.i .i64), (.i .i64), .s, .s, (.i .i64)]), (.one .b)] z) (some ((gC (tpL z) 0), aB (gC (tpL z) 1))) none
def qbnk (r : AV × Bool) : AV := .tup [ql5 (.st [.b, (.i .u64), (.i .u64), (.i .i64), (.i .i64), .s, .s, (.i .i64)]) r.1, .bool r.2]
def qbnl : Shp := ⟨[(0, .one (.l (.sl 8))), (1, .st (lk qdl))], []⟩
def qz2 (v0 : List AV) (Aq : Bool) (Ar As : Int) : Option (AV × Bool) :=
  (qfd v0 false (0 : Int) (0 : Int) (0 : Int) (0 : Int) ([] : List UInt8) ([] : List UInt8) (0 : Int) Aq Ar As fun v5q1 b0_0q2 b0_1q3 b0_2q4 b0_3q5 b0_4q6 b0_5q7 b0_6q8 b0_7q9 b1_0q10 b1_1q11 b1_2q12 b2_0q13 b2_1q14 b2_2q15 b2_3q16 b2_4q17 b2_5q18 b2_6q19 b2_7q20 => (some ((.agg [(.bool b2_0q13), (.int .u64 b2_1q14), (.int .u64 b2_2q15), (.int .i64 b2_3q16), (.int .i64 b2_4q17), (.str b2_5q18), (.str b2_6q19), (.int .i64 b2_7q20)]), v5q1)))
def qod := hull qz2
theorem q8e : qod = qz2 := qj _
def qz3 : AC (AV × Bool) :=
  .seq (.reg [ao 3 (.box 1),
 ao 4 (.alloc [(.bool false), (.int .u64 0), (.int .u64 0), (.int .i64 0), (.int .i64 0), (.str []), (.str []), (.int .i64 0)]),
 ao 5 (.mv (.c (.bool false)))]) (.seq (.reg [ao 6 (.mv 0),
 ao 7 (.mkf 65 [3]),
 .st (.sel [4, 6, 7] [1, 0]),
 .callr (po 8 (.call 62 [6, 7])) 62 qm7,
 ao 9 (.ext 8 0),
 ao 10 (.ext 8 1),
 an (.store 8 4 9),
 ao 5 (.mv 10)]) (.ret))
theorem qbqf : AC.ok Try.prog (TIof Try.prog) 11 0 (kret [(.cell 4 true 8), .t 5] qv1) qz3 := qm (zA qwm trivial)
theorem qbsw (v0 : List AV) (Aq : Bool) (Ar As : Int) : den 0 (kret [(.cell 4 true 8), .t 5] qv1) qz3 (qh [(0, (.sl 8 v0)), (1, .agg (qbp Aq Ar As))]) (qg []) (kend (kret [(.cell 4 true 8), .t 5] qv1)) = qod v0 Aq Ar As := by
  rw [q8e]; kernel_rfl
theorem qbsx : cFn (TIof Try.prog) Try.f28 = some ⟨11, [(.cell 4 true 8), .t 5], scOf qz3⟩ := by kernel_rfl
def qbsy (xs : List AV) : Option (AV × Bool) := qcj ((qk xs) 1).cells (qod (gL [(qk xs) 0] 0))
def q6p {R : Type} : List AV → (AV → Option R) → Option R := entF qbnl qbsy qbnk
theorem qbsz {R : Type} : qd Try.prog 28 (q6p (R := R)) :=
  qz tabOk follows Try.func28 (by kernel_rfl) qbsx (fun z r h => by
 obtain ⟨h1, h2⟩ := qo h
 cases h2
 exact (qds h1).symm) qbqf (qn (by kernel_rfl)) fun xs => qbsw _ _ _ _
def q9k : Shp := ⟨[(0, .st (lk qb)), (1, .one (.ptr 0 0)), (2, .one (.ptr 2 0))], [.box true (lk qf), .arr true 8, .box true (lk qb)]⟩
def qwn {R : Type} (KK : AV → Mem → Option R) := (fun v4 Ai Aj Ak Al a1 A2 A3 A4 A5 Be Bf Bg Bh => KK (.bool v4) (qg [(some (.box true [(.bool Ai), (.int .u64 Aj), (.int .u64 Ak), (.int .i64 Al)])), (some (.arr true 8 a1)), (some (.box true [(.bool A2), (.int .u64 A3), (.int .u64 A4), (.int .i64 A5), (.int .i64 Be), (.str Bf), (.str Bg), (.int .i64 Bh)]))]))
def qqf {R : Type}  (Aa : Bool) (Ab Ac Ad Ae : Int) (Af Ag : List UInt8) (Ah : Int) (Ai : Bool) (Aj Ak Al : Int) (a1 : List AV) (A2 : Bool) (A3 A4 A5 Be : Int) (Bf Bg : List UInt8) (Bh : Int) (kr : Bool → Bool → Int → Int → Int → (List AV) → Bool → Int → Int → Int → Int → (List UInt8) → (List UInt8) → Int → Option R) : Option R :=
  (oB (qg3 Aa Ab Ac Ad Ai Aj Ak Al) fun r1 => (bif r1 then (oB (qg3 A2 A3 A4 A5 Aa Ab Ac Ad) fun r2 => (kr r2 Ai Aj Ak Al a1 A2 A3 A4 A5 Be Bf Bg Bh)) else (kr false Ai Aj Ak Al a1 A2 A3 A4 A5 Be Bf Bg Bh)))
def qkf {R : Type} := hull (qqf (R := R))
theorem qwo {R : Type} : qkf (R := R) = qqf := qj _
def qfq {R : Type} (KK : AV → Mem → Option R) : AC R :=
  .seq (.reg [ao 3 (.box 0),
 ao 4 (.mv (.c (.bool false)))]) (.seq (.reg [ao 5 (.fa 0 3),
 ao 6 (.load true 4 5),
 ao 7 (.load true 4 1),
 .call (po 8 (.call 64 [6, 7])) 64 qgq,
 ao 9 (.mv 8),
 ag 10 9 true (.fa 0 2),
 ag 11 9 true (.load true 4 10),
 ag 12 9 true (.fa 0 3),
 ag 13 9 true (.load true 4 12),
 .call (pg 14 9 true (.call 64 [11, 13])) 64 qgq,
 ao 15 (.pick 9 14 (.c (.bool false))),
 ao 4 (.mv 15)]) (.seq (.view [.sel [4] [0, 1, 2]]) (.ret)))
theorem qba4 {R : Type} (KK : AV → Mem → Option R) : AC.ok Try.prog (TIof Try.prog) 16 3 (qq [.t 4] KK) (qfq KK) := qm (zA (qd.ok ql7) (zA (qd.ok ql7) trivial))
theorem qbb4 {R : Type} (KK : AV → Mem → Option R) (Aa : Bool) (Ab Ac Ad Ae : Int) (Af Ag : List UInt8) (Ah : Int) (Ai : Bool) (Aj Ak Al : Int) (a1 : List AV) (A2 : Bool) (A3 A4 A5 Be : Int) (Bf Bg : List UInt8) (Bh : Int) : den 3 (qq [.t 4] KK) (qfq KK) (qh [(0, .agg (qc Aa Ab Ac Ad Ae Af Ag Ah)), (1, (.ptr 0 0)), (2, (.ptr 2 0))]) (qg [(some (.box true (qa Ai Aj Ak Al))), (some (.arr true 8 a1)), (some (.box true (qc A2 A3 A4 A5 Be Bf Bg Bh)))]) (kend (qq [.t 4] KK)) = qkf Aa Ab Ac Ad Ae Af Ag Ah Ai Aj Ak Al a1 A2 A3 A4 A5 Be Bf Bg Bh (qwn KK) := by
  rw [qwo]; kernel_rfl
theorem qbb5 : cFn (TIof Try.prog) Try.f67 = some ⟨16, [.t 4], scOf (qfq (R := Unit) (fun _ _ => none))⟩ := by kernel_rfl
theorem qbb6 {R : Type} (KK : AV → Mem → Option R) : (qfq KK).er = some (scOf (qfq (R := Unit) (fun _ _ => none))) := by kernel_rfl
def qyi {R : Type} : List AV → Mem → (AV → Mem → Option R) → Option R := refE q9k fun xs m KK => qi (bxC (m.s 2)) (qe (bxC (m.s 0)) (qi ((qk xs) 0).cells (qkf)) (arL (m.s 1))) (qwn KK)
theorem qbb7 {R : Type} : qfn Try.prog 67 (qyi (R := R)) :=
  qlm (ac := fun KK => qfq KK) tabOk follows Try.func67 (by kernel_rfl) qbb5 (fun KK => qba4 KK) (fun KK => qbb6 KK) rfl fun xs m KK => qbb4 KK _ _ _ _ _ _ _ _ _ _ _ _ _ _ _ _ _ _ _ _ _
def qbq {R : Type}  (K : Ex → Env → Mem → Option R) := (fun z_b0_0 z_b0_1 z_b0_2 z_b0_3 z_a1 z_b2_0 z_b2_1 z_b2_2 z_b2_3 z_b2_4 z_b2_5 z_b2_6 z_b2_7 => K (.exit 0) (qh []) (qg [(some (.box true (qa z_b0_0 z_b0_1 z_b0_2 z_b0_3))), (some (.arr true 8 z_a1)), (some (.box true (qc z_b2_0 z_b2_1 z_b2_2 z_b2_3 z_b2_4 z_b2_5 z_b2_6 z_b2_7)))]))
def qbt {R : Type} (KK : AV → Mem → Option R) := (fun v4 Ai Aj Ak Al a1 A2 A3 A4 A5 Be Bf Bg Bh => KK (.int .i64 v4) (qg [(some (.box true [(.bool Ai), (.int .u64 Aj), (.int .u64 Ak), (.int .i64 Al)])), (some (.arr true 8 a1)), (some (.box true [(.bool A2), (.int .u64 A3), (.int .u64 A4), (.int .i64 A5), (.int .i64 Be), (.str Bf), (.str Bg), (.int .i64 Bh)]))]))
def qhc : Shp := ⟨[(0, .one (.l (.sl 8))), (1, .one (.fn 67 [(0, 0), (2, 0)])), (7, .one (.l (.i .i64))), (8, .one (.l (.i .i64)))], [.box true (lk qf), .arr true 8, .box true (lk qb)]⟩
def qcp (v0 : List AV) (v7 v8 : Int) (Ai : Bool) (Aj Ak Al : Int) (a1 : List AV) (A2 : Bool) (A3 A4 A5 Be : Int) (Bf Bg : List UInt8) (Bh : Int) : Env := qh [(0, (.sl 8 v0)), (1, (.func 67 [(.ptr 0 0), (.ptr 2 0)])), (7, (.int .i64 v7)), (8, (.int .i64 v8))]
def qcq (v0 : List AV) (v7 v8 : Int) (Ai : Bool) (Aj Ak Al : Int) (a1 : List AV) (A2 : Bool) (A3 A4 A5 Be : Int) (Bf Bg : List UInt8) (Bh : Int) : Mem := qg [(some (.box true (qa Ai Aj Ak Al))), (some (.arr true 8 a1)), (some (.box true (qc A2 A3 A4 A5 Be Bf Bg Bh)))]
def qr {R : Type}  (v0 : List AV) (v7 v8 : Int) (Ai : Bool) (Aj Ak Al : Int) (a1 : List AV) (A2 : Bool) (A3 A4 A5 Be : Int) (Bf Bg : List UInt8) (Bh : Int) (next : Int → Bool → Int → Int → Int → (List AV) → Bool → Int → Int → Int → Int → (List UInt8) → (List UInt8) → Int → Option R) (kx0 : Bool → Int → Int → Int → (List AV) → Bool → Int → Int → Int → Int → (List UInt8) → (List UInt8) → Int → Option R) (kr : Int → Bool → Int → Int → Int → (List AV) → Bool → Int → Int → Int → Int → (List UInt8) → (List UInt8) → Int → Option R) : Option R :=
  (bif (decide (v8 < v7)) then (oB (ixB v0 v8) fun y1 => (bif fitC qb y1.cells then (qkf (gB y1.cells 0) (gI y1.cells 1) (gI y1.cells 2) (gI y1.cells 3) (gI y1.cells 4) (gS y1.cells 5) (gS y1.cells 6) (gI y1.cells 7) Ai Aj Ak Al a1 A2 A3 A4 A5 Be Bf Bg Bh fun v4q2 b0_0q3 b0_1q4 b0_2q5 b0_3q6 a1q7 b2_0q8 b2_1q9 b2_2q10 b2_3q11 b2_4q12 b2_5q13 b2_6q14 b2_7q15 => (bif v4q2 then (kr v8 b0_0q3 b0_1q4 b0_2q5 b0_3q6 a1q7 b2_0q8 b2_1q9 b2_2q10 b2_3q11 b2_4q12 b2_5q13 b2_6q14 b2_7q15) else (next (IntKind.i64.wrap (v8 + (1 : Int))) b0_0q3 b0_1q4 b0_2q5 b0_3q6 a1q7 b2_0q8 b2_1q9 b2_2q10 b2_3q11 b2_4q12 b2_5q13 b2_6q14 b2_7q15))) else none)) else (kx0 Ai Aj Ak Al a1 A2 A3 A4 A5 Be Bf Bg Bh))
def qbw {R : Type}  (v0 : List AV) (v7 : Int) (kx0 : Bool → Int → Int → Int → (List AV) → Bool → Int → Int → Int → Int → (List UInt8) → (List UInt8) → Int → Option R) (kr : Int → Bool → Int → Int → Int → (List AV) → Bool → Int → Int → Int → Int → (List UInt8) → (List UInt8) → Int → Option R) : Nat → Int → Bool → Int → Int → Int → (List AV) → Bool → Int → Int → Int → Int → (List UInt8) → (List UInt8) → Int → Option R
  | 0 => (fun _ _ _ _ _ _ _ _ _ _ _ _ _ _ => none)
  | n + 1 => (fun v8 Ai Aj Ak Al a1 A2 A3 A4 A5 Be Bf Bg Bh => qr v0 v7 v8 Ai Aj Ak Al a1 A2 A3 A4 A5 Be Bf Bg Bh (qbw v0 v7 kx0 kr n) kx0 kr)
def qb2 {R : Type} := hull (qbw (R := R))
theorem qdp {R : Type} : qb2 (R := R) = qbw := qj _
def qt {R : Type} (KK : AV → Mem → Option R) : AC R :=
  .seq (.reg [ao 9 (.bin .lss 8 7)]) (.seq (.cond 9 (.skip) (.seq (.view [.sel [] [0, 1, 2]]) (.exit 0))) (.seq (.block 1 (.seq (.reg [ao 10 (.mv 8),
 ao 5 (.mv 10)]) (.seq (.reg [ao 11 (.mv 1),
 ao 12 (.mv 0),
 ao 13 (.mv 5),
 ao 14 (.ia 8 12 13),
 .st (.etac 14 qb),
 ao 15 (.load true 8 14),
 .st (.sel [0, 1, 5, 7, 8, 11, 15] [0, 1, 2]),
 .callr (po 16 (.callv 11 [15])) 67 qyi]) (.cond 16 (.seq (.reg [ao 17 (.mv 5),
 ao 4 (.mv 17)]) (.seq (.view [.sel [4] [0, 1, 2]]) (.ret))) (.skip))))) (.seq (.reg [ao 18 (.bin .add 8 (.c (.int .i64 1))),
 ao 8 (.mv 18)]) (.view [.sel [0, 1, 7, 8] [0, 1, 2]]))))
theorem qhp {R : Type} (KK : AV → Mem → Option R) : AC.ok Try.prog (TIof Try.prog) 19 3 (qq [.t 4] KK) (qt KK) := qm (zA qbb7 trivial)
theorem qhd {R : Type} (KK : AV → Mem → Option R) (v0 : List AV) (v7 v8 : Int) (Ai : Bool) (Aj Ak Al : Int) (a1 : List AV) (A2 : Bool) (A3 A4 A5 Be : Int) (Bf Bg : List UInt8) (Bh : Int) (K : Ex → Env → Mem → Option R) : den 3 (qq [.t 4] KK) (qt KK) (qcp v0 v7 v8 Ai Aj Ak Al a1 A2 A3 A4 A5 Be Bf Bg Bh) (qcq v0 v7 v8 Ai Aj Ak Al a1 A2 A3 A4 A5 Be Bf Bg Bh) K = qr v0 v7 v8 Ai Aj Ak Al a1 A2 A3 A4 A5 Be Bf Bg Bh (fun z_v8 z_b0_0 z_b0_1 z_b0_2 z_b0_3 z_a1 z_b2_0 z_b2_1 z_b2_2 z_b2_3 z_b2_4 z_b2_5 z_b2_6 z_b2_7 => K .norm (qcp v0 v7 z_v8 z_b0_0 z_b0_1 z_b0_2 z_b0_3 z_a1 z_b2_0 z_b2_1 z_b2_2 z_b2_3 z_b2_4 z_b2_5 z_b2_6 z_b2_7) (qcq v0 v7 z_v8 z_b0_0 z_b0_1 z_b0_2 z_b0_3 z_a1 z_b2_0 z_b2_1 z_b2_2 z_b2_3 z_b2_4 z_b2_5 z_b2_6 z_b2_7)) (qbq K) (qbt KK) := by kernel_rfl
theorem qh6 {R : Type} (KK : AV → Mem → Option R) (v0 : List AV) (v7 : Int) (K : Ex → Env → Mem → Option R) : ∀ (n : Nat) (v8 : Int) (Ai : Bool) (Aj Ak Al : Int) (a1 : List AV) (A2 : Bool) (A3 A4 A5 Be : Int) (Bf Bg : List UInt8) (Bh : Int), qe5 (den 3 (qq [.t 4] KK) (qt KK)) n (qcp v0 v7 v8 Ai Aj Ak Al a1 A2 A3 A4 A5 Be Bf Bg Bh) (qcq v0 v7 v8 Ai Aj Ak Al a1 A2 A3 A4 A5 Be Bf Bg Bh) K = qb2 v0 v7 (qbq K) (qbt KK) n v8 Ai Aj Ak Al a1 A2 A3 A4 A5 Be Bf Bg Bh := by
  rw [qdp]
  intro n
  induction n with
  | zero => intros; rfl
  | succ n ih =>
 intro v8 Ai Aj Ak Al a1 A2 A3 A4 A5 Be Bf Bg Bh
 exact (qhd KK v0 v7 v8 Ai Aj Ak Al a1 A2 A3 A4 A5 Be Bf Bg Bh (itK (den 3 (qq [.t 4] KK) (qt KK)) n K)).trans (congrArg (fun q => qr v0 v7 v8 Ai Aj Ak Al a1 A2 A3 A4 A5 Be Bf Bg Bh q (qbq K) (qbt KK)) (funext fun v8 => funext fun Ai => funext fun Aj => funext fun Ak => funext fun Al => funext fun a1 => funext fun A2 => funext fun A3 => funext fun A4 => funext fun A5 => funext fun Be => funext fun Bf => funext fun Bg => funext fun Bh => ih v8 Ai Aj Ak Al a1 A2 A3 A4 A5 Be Bf Bg Bh))
def qdw {R : Type} (KK : AV → Mem → Option R) := subE (R := R) qhc fun t m K => qi (bxC (m.s 2)) (qe (bxC (m.s 0)) (qb2 (gL [t 0] 0) (gI [t 7] 0) (qbq K) (qbt KK) FU (gI [t 8] 0)) (arL (m.s 1)))
theorem qh7 {R : Type} (KK : AV → Mem → Option R) : qca Try.prog (TIof Try.prog) 19 3 (qq [.t 4] KK) (.loop (scOf (qt KK))) (qdw KK) :=
  qen tabOk follows (qhp KK) (qn (by kernel_rfl)) fun t m K => qh6 KK _ _ K FU _ _ _ _ _ _ _ _ _ _ _ _ _ _
def qik : Shp := ⟨[(0, .one (.l (.sl 8))), (1, .one (.fn 67 [(0, 0), (2, 0)]))], [.box true (lk qf), .arr true 8, .box true (lk qb)]⟩
def qea {R : Type} (KK : AV → Mem → Option R) := (fun v4 Ai Aj Ak Al a1 A2 A3 A4 A5 Be Bf Bg Bh => KK (.int .i64 v4) (qg [(some (.box true [(.bool Ai), (.int .u64 Aj), (.int .u64 Ak), (.int .i64 Al)])), (some (.arr true 8 a1)), (some (.box true [(.bool A2), (.int .u64 A3), (.int .u64 A4), (.int .i64 A5), (.int .i64 Be), (.str Bf), (.str Bg), (.int .i64 Bh)]))]))
def qc4 {R : Type}  (v0 : List AV) (Ai : Bool) (Aj Ak Al : Int) (a1 : List AV) (A2 : Bool) (A3 A4 A5 Be : Int) (Bf Bg : List UInt8) (Bh : Int) (kr : Int → Bool → Int → Int → Int → (List AV) → Bool → Int → Int → Int → Int → (List UInt8) → (List UInt8) → Int → Option R) : Option R :=
  (qb2 v0 (v0.length : Int) (fun b0_0q1 b0_1q2 b0_2q3 b0_3q4 a1q5 b2_0q6 b2_1q7 b2_2q8 b2_3q9 b2_4q10 b2_5q11 b2_6q12 b2_7q13 => (kr (-1 : Int) b0_0q1 b0_1q2 b0_2q3 b0_3q4 a1q5 b2_0q6 b2_1q7 b2_2q8 b2_3q9 b2_4q10 b2_5q11 b2_6q12 b2_7q13)) kr FU (0 : Int) Ai Aj Ak Al a1 A2 A3 A4 A5 Be Bf Bg Bh)
def qbl {R : Type} := hull (qc4 (R := R))
theorem qeb {R : Type} : qbl (R := R) = qc4 := qj _
def qbb {R : Type} (KK : AV → Mem → Option R) : AC R :=
  .seq (.reg [ao 4 (.mv (.c (.int .i64 0)))]) (.seq (.seq (.reg [ao 6 (.mv 0),
 ao 7 (.len false 6),
 ao 8 (.mv (.c (.int .i64 0)))]) (.block 0 (.seq (.view [.sel [0, 1, 7, 8] [0, 1, 2]]) (.sub (.loop (scOf (qt KK))) (qdw KK))))) (.seq (.reg [ao 4 (.mv (.c (.int .i64 (-1))))]) (.seq (.view [.sel [4] [0, 1, 2]]) (.ret))))
theorem qix {R : Type} (KK : AV → Mem → Option R) : AC.ok Try.prog (TIof Try.prog) 19 3 (qq [.t 4] KK) (qbb KK) := qm (zA (qh7 KK) trivial)
theorem qjj {R : Type} (KK : AV → Mem → Option R) (v0 : List AV) (Ai : Bool) (Aj Ak Al : Int) (a1 : List AV) (A2 : Bool) (A3 A4 A5 Be : Int) (Bf Bg : List UInt8) (Bh : Int) : den 3 (qq [.t 4] KK) (qbb KK) (qh [(0, (.sl 8 v0)), (1, (.func 67 [(.ptr 0 0), (.ptr 2 0)]))]) (qg [(some (.box true (qa Ai Aj Ak Al))), (some (.arr true 8 a1)), (some (.box true (qc A2 A3 A4 A5 Be Bf Bg Bh)))]) (kend (qq [.t 4] KK)) = qbl v0 Ai Aj Ak Al a1 A2 A3 A4 A5 Be Bf Bg Bh (qea KK) := by
  rw [qeb]; kernel_rfl
theorem qjk : cFn (TIof Try.prog) Try.f88 = some ⟨19, [.t 4], scOf (qbb (R := Unit) (fun _ _ => none))⟩ := by kernel_rfl
theorem qjl {R : Type} (KK : AV → Mem → Option R) : (qbb KK).er = some (scOf (qbb (R := Unit) (fun _ _ => none))) := by kernel_rfl
def qeg {R : Type} : List AV → Mem → (AV → Mem → Option R) → Option R := refE qik fun xs m KK => qi (bxC (m.s 2)) (qe (bxC (m.s 0)) (qbl (gL [(qk xs) 0] 0)) (arL (m.s 1))) (qea KK)
theorem qjm {R : Type} : qfn Try.prog 88 (qeg (R := R)) :=
  qlm (ac := fun KK => qbb KK) tabOk follows Try.func88 (by kernel_rfl) qjk (fun KK => qix KK) (fun KK => qjl KK) rfl fun xs m KK => qjj KK _ _ _ _ _ _ _ _ _ _ _ _ _ _
def qhe : Shp := ⟨[(0, .one (.l (.sl 8))), (1, .one (.fn 67 [(0, 0), (2, 0)]))], [.box true (lk qf), .arr true 8, .box true (lk qb)]⟩
def qdq {R : Type} (KK : AV → Mem → Option R) := (fun v4 Ai Aj Ak Al a1 A2 A3 A4 A5 Be Bf Bg Bh => KK (.bool v4) (qg [(some (.box true [(.bool Ai), (.int .u64 Aj), (.int .u64 Ak), (.int .i64 Al)])), (some (.arr true 8 a1)), (some (.box true [(.bool A2), (.int .u64 A3), (.int .u64 A4), (.int .i64 A5), (.int .i64 Be), (.str Bf), (.str Bg), (.int .i64 Bh)]))]))
def qct {R : Type}  (v0 : List AV) (Ai : Bool) (Aj Ak Al : Int) (a1 : List AV) (A2 : Bool) (A3 A4 A5 Be : Int) (Bf Bg : List UInt8) (Bh : Int) (kr : Bool → Bool → Int → Int → Int → (List AV) → Bool → Int → Int → Int → Int → (List UInt8) → (List UInt8) → Int → Option R) : Option R :=
  (qbl v0 Ai Aj Ak Al a1 A2 A3 A4 A5 Be Bf Bg Bh fun v4q1 b0_0q2 b0_1q3 b0_2q4 b0_3q5 a1q6 b2_0q7 b2_1q8 b2_2q9 b2_3q10 b2_4q11 b2_5q12 b2_6q13 b2_7q14 => (kr (decide (v4q1 ≥ (0 : Int))) b0_0q2 b0_1q3 b0_2q4 b0_3q5 a1q6 b2_0q7 b2_1q8 b2_2q9 b2_3q10 b2_4q11 b2_5q12 b2_6q13 b2_7q14))
def qb3 {R : Type} := hull (qct (R := R))
theorem qdr {R : Type} : qb3 (R := R) = qct := qj _
def qu {R : Type} (KK : AV → Mem → Option R) : AC R :=
  .seq (.reg [ao 4 (.mv (.c (.bool false)))]) (.seq (.reg [ao 5 (.mv 0),
 ao 6 (.mv 1),
 .st (.sel [5, 6] [0, 1, 2]),
 .callr (po 7 (.call 88 [5, 6])) 88 qeg,
 ao 8 (.bin .geq 7 (.c (.int .i64 0))),
 ao 4 (.mv 8)]) (.seq (.view [.sel [4] [0, 1, 2]]) (.ret)))
theorem qhq {R : Type} (KK : AV → Mem → Option R) : AC.ok Try.prog (TIof Try.prog) 9 3 (qq [.t 4] KK) (qu KK) := qm (zA qjm trivial)
theorem qh8 {R : Type} (KK : AV → Mem → Option R) (v0 : List AV) (Ai : Bool) (Aj Ak Al : Int) (a1 : List AV) (A2 : Bool) (A3 A4 A5 Be : Int) (Bf Bg : List UInt8) (Bh : Int) : den 3 (qq [.t 4] KK) (qu KK) (qh [(0, (.sl 8 v0)), (1, (.func 67 [(.ptr 0 0), (.ptr 2 0)]))]) (qg [(some (.box true (qa Ai Aj Ak Al))), (some (.arr true 8 a1)), (some (.box true (qc A2 A3 A4 A5 Be Bf Bg Bh)))]) (kend (qq [.t 4] KK)) = qb3 v0 Ai Aj Ak Al a1 A2 A3 A4 A5 Be Bf Bg Bh (qdq KK) := by
  rw [qdr]; kernel_rfl
theorem qh9 : cFn (TIof Try.prog) Try.f68 = some ⟨9, [.t 4], scOf (qu (R := Unit) (fun _ _ => none))⟩ := by kernel_rfl
theorem qia {R : Type} (KK : AV → Mem → Option R) : (qu KK).er = some (scOf (qu (R := Unit) (fun _ _ => none))) := by kernel_rfl
def qdx {R : Type} : List AV → Mem → (AV → Mem → Option R) → Option R := refE qhe fun xs m KK => qi (bxC (m.s 2)) (qe (bxC (m.s 0)) (qb3 (gL [(qk xs) 0] 0)) (arL (m.s 1))) (qdq KK)
theorem qib {R : Type} : qfn Try.prog 68 (qdx (R := R)) :=
  qlm (ac := fun KK => qu KK) tabOk follows Try.func68 (by kernel_rfl) qh9 (fun KK => qhq KK) (fun KK => qia KK) rfl fun xs m KK => qh8 KK _ _ _ _ _ _ _ _ _ _ _ _ _ _
def qwp  (v0 v9 : List AV) (v10 v11 : Int) (K : Ex → Env → Mem → Option (List AV)) := (fun z_v25 z_b0_0 z_b0_1 z_b0_2 z_b0_3 z_a1 z_b2_0 z_b2_1 z_b2_2 z_b2_3 z_b2_4 z_b2_5 z_b2_6 z_b2_7 => K .norm (qh [(0, (.sl 8 v0)), (3, (.ptr 0 0)), (5, (.own 1 z_a1.length)), (7, (.ptr 2 0)), (9, (.sl 8 v9)), (10, (.int .i64 v10)), (11, (.int .i64 v11)), (25, (.bool z_v25))]) (qg [(some (.box true (qa z_b0_0 z_b0_1 z_b0_2 z_b0_3))), (some (.arr true 8 z_a1)), (some (.box true (qc z_b2_0 z_b2_1 z_b2_2 z_b2_3 z_b2_4 z_b2_5 z_b2_6 z_b2_7)))]))
def q9l : Shp := ⟨[(0, .one (.l (.sl 8))), (3, .one (.ptr 0 0)), (5, .one (.own 1)), (7, .one (.ptr 2 0)), (8, .one (.fn 67 [(0, 0), (2, 0)])), (9, .one (.l (.sl 8))), (10, .one (.l (.i .i64))), (11, .one (.l (.i .i64)))], [.box true (lk qf), .arr true 8, .box true (lk qb)]⟩
def qqg  (v0 v9 : List AV) (v10 v11 : Int) (Ai : Bool) (Aj Ak Al : Int) (a1 : List AV) (A2 : Bool) (A3 A4 A5 Be : Int) (Bf Bg : List UInt8) (Bh : Int) (kn : Bool → Bool → Int → Int → Int → (List AV) → Bool → Int → Int → Int → Int → (List UInt8) → (List UInt8) → Int → Option (List AV)) : Option (List AV) :=
  (oB (qg3 A2 A3 A4 A5 Ai Aj Ak Al) fun r1 => (bif r1 then (qb3 v0 Ai Aj Ak Al a1 A2 A3 A4 A5 Be Bf Bg Bh fun v4q2 b0_0q3 b0_1q4 b0_2q5 b0_3q6 a1q7 b2_0q8 b2_1q9 b2_2q10 b2_3q11 b2_4q12 b2_5q13 b2_6q14 b2_7q15 => (bif hd a1q7 a1.length then (kn (!v4q2) b0_0q3 b0_1q4 b0_2q5 b0_3q6 a1q7 b2_0q8 b2_1q9 b2_2q10 b2_3q11 b2_4q12 b2_5q13 b2_6q14 b2_7q15) else none)) else (bif hd a1 a1.length then (kn false Ai Aj Ak Al a1 A2 A3 A4 A5 Be Bf Bg Bh) else none)))
def qkg := hull (qqg)
theorem qwq : qkg = qqg := qj _
def qlv : AC (List AV) :=
  .seq (.reg [ao 16 (.fa 0 7),
 ao 17 (.load true 4 16),
 ao 18 (.load true 4 3),
 .call (po 19 (.call 64 [17, 18])) 64 qgq,
 ao 20 (.mv 19),
 ag 21 20 true (.mv 0),
 ag 22 20 true (.mv 8),
 .stg 20 true (.sel [0, 3, 5, 7, 9, 10, 11, 20, 21, 22] [0, 1, 2]),
 .callr (pg 23 20 true (.call 68 [21, 22])) 68 qdx,
 ag 24 20 true (.un .not 23),
 ao 25 (.pick 20 24 (.c (.bool false)))]) (.view [.hd 5, .sel [0, 3, 5, 7, 9, 10, 11, 25] [0, 1, 2]])
theorem qba5 : AC.ok Try.prog (TIof Try.prog) 32 0 (kret [.t 4] (decF true 8)) qlv := qm (zA (qd.ok ql7) (zA qib trivial))
theorem qbb8 (v0 v9 : List AV) (v10 v11 : Int) (Ai : Bool) (Aj Ak Al : Int) (a1 : List AV) (A2 : Bool) (A3 A4 A5 Be : Int) (Bf Bg : List UInt8) (Bh : Int) (K : Ex → Env → Mem → Option (List AV)) : den 0 (kret [.t 4] (decF true 8)) qlv (qh [(0, (.sl 8 v0)), (3, (.ptr 0 0)), (5, (.own 1 a1.length)), (7, (.ptr 2 0)), (8, (.func 67 [(.ptr 0 0), (.ptr 2 0)])), (9, (.sl 8 v9)), (10, (.int .i64 v10)), (11, (.int .i64 v11))]) (qg [(some (.box true (qa Ai Aj Ak Al))), (some (.arr true 8 a1)), (some (.box true (qc A2 A3 A4 A5 Be Bf Bg Bh)))]) K = qkg v0 v9 v10 v11 Ai Aj Ak Al a1 A2 A3 A4 A5 Be Bf Bg Bh (qwp v0 v9 v10 v11 K) := by
  rw [qwq]; kernel_rfl
def qyj := subE (R := (List AV)) q9l fun t m K => qi (bxC (m.s 2)) (qe (bxC (m.s 0)) (qkg (gL [t 0] 0) (gL [t 9] 0) (gI [t 10] 0) (gI [t 11] 0)) (arL (m.s 1))) (qwp (gL [t 0] 0) (gL [t 9] 0) (gI [t 10] 0) (gI [t 11] 0) K)
theorem qbb9 : qca Try.prog (TIof Try.prog) 32 0 (kret [.t 4] (decF true 8)) (scOf qlv) (qyj) :=
  qet tabOk follows (qba5) (qn (by kernel_rfl)) fun t m K => qbb8 _ _ _ _ _ _ _ _ _ _ _ _ _ _ _ _ _ K
def qk7  (K : Ex → Env → Mem → Option (List AV)) := (fun z_a0 => K (.exit 0) (qh [(5, (.own 0 z_a0.length))]) (qg [(some (.arr true 8 z_a0))]))
def qba6 : Shp := ⟨[(0, .one (.l (.sl 8))), (3, .one (.ptr 0 0)), (5, .one (.own 1)), (9, .one (.l (.sl 8))), (10, .one (.l (.i .i64))), (11, .one (.l (.i .i64)))], [.box true (lk qf), .arr true 8]⟩
def qqh (v0 v9 : List AV) (v10 v11 : Int) (Ai : Bool) (Aj Ak Al : Int) (a1 : List AV) : Env := qh [(0, (.sl 8 v0)), (3, (.ptr 0 0)), (5, (.own 1 a1.length)), (9, (.sl 8 v9)), (10, (.int .i64 v10)), (11, (.int .i64 v11))]
def qqi (v0 v9 : List AV) (v10 v11 : Int) (Ai : Bool) (Aj Ak Al : Int) (a1 : List AV) : Mem := qg [(some (.box true (qa Ai Aj Ak Al))), (some (.arr true 8 a1))]
def qgh  (v0 v9 : List AV) (v10 v11 : Int) (Ai : Bool) (Aj Ak Al : Int) (a1 : List AV) (next : Int → Bool → Int → Int → Int → (List AV) → Option (List AV)) (kx0 : (List AV) → Option (List AV)) : Option (List AV) :=
  (bif (decide (v11 < v10)) then (oB (ixB v9 v11) fun y1 => (bif fitC qb y1.cells then (bif (hd a1 (a1.length) && true) then (qkg v0 v9 v10 v11 Ai Aj Ak Al a1 (gB y1.cells 0) (gI y1.cells 1) (gI y1.cells 2) (gI y1.cells 3) (gI y1.cells 4) (gS y1.cells 5) (gS y1.cells 6) (gI y1.cells 7) (fun v25q2 b0_0q3 b0_1q4 b0_2q5 b0_3q6 a1q7 b2_0q8 b2_1q9 b2_2q10 b2_3q11 b2_4q12 b2_5q13 b2_6q14 b2_7q15 => (bif v25q2 then (bif hd a1q7 a1q7.length then (bif hd ([(.agg [(.bool b2_0q8), (.int .u64 b2_1q9), (.int .u64 b2_2q10), (.int .i64 b2_3q11), (.int .i64 b2_4q12), (.str b2_5q13), (.str b2_6q14), (.int .i64 b2_7q15)])] : List AV) (([(.agg [(.bool b2_0q8), (.int .u64 b2_1q9), (.int .u64 b2_2q10), (.int .i64 b2_3q11), (.int .i64 b2_4q12), (.str b2_5q13), (.str b2_6q14), (.int .i64 b2_7q15)])] : List AV).length) then (bif decide ((a1q7.length + ([(.agg [(.bool b2_0q8), (.int .u64 b2_1q9), (.int .u64 b2_2q10), (.int .i64 b2_3q11), (.int .i64 b2_4q12), (.str b2_5q13), (.str b2_6q14), (.int .i64 b2_7q15)])] : List AV).length) * 80 ≤ 140737488355328) then (next (IntKind.i64.wrap (v11 + (1 : Int))) b0_0q3 b0_1q4 b0_2q5 b0_3q6 (a1q7 ++ ([(.agg [(.bool b2_0q8), (.int .u64 b2_1q9), (.int .u64 b2_2q10), (.int .i64 b2_3q11), (.int .i64 b2_4q12), (.str b2_5q13), (.str b2_6q14), (.int .i64 b2_7q15)])] : List AV))) else none) else none) else none) else (next (IntKind.i64.wrap (v11 + (1 : Int))) b0_0q3 b0_1q4 b0_2q5 b0_3q6 a1q7)))) else none) else none)) else (kx0 a1))
def qmv  (v0 v9 : List AV) (v10 : Int) (kx0 : (List AV) → Option (List AV)) : Nat → Int → Bool → Int → Int → Int → (List AV) → Option (List AV)
  | 0 => (fun _ _ _ _ _ _ => none)
  | n + 1 => (fun v11 Ai Aj Ak Al a1 => qgh v0 v9 v10 v11 Ai Aj Ak Al a1 (qmv v0 v9 v10 kx0 n) kx0)
def qos := hull (qmv)
theorem qyk : qos = qmv := qj _
def qgi : AC (List AV) :=
  .seq (.reg [ao 12 (.bin .lss 11 10)]) (.seq (.cond 12 (.skip) (.seq (.view [.sel [5] [1]]) (.exit 0))) (.seq (.block 1 (.seq (.reg [ao 13 (.ia 8 9 11),
 .st (.etac 13 qb),
 ao 14 (.load true 8 13),
 ao 7 (.alloc [(.bool false), (.int .u64 0), (.int .u64 0), (.int .i64 0), (.int .i64 0), (.str []), (.str []), (.int .i64 0)]),
 an (.store 8 7 14)]) (.seq (.reg [ao 15 (.mkf 67 [3, 7]),
 ao 8 (.mv 15)]) (.seq (.seq (.view [.sel [0, 3, 5, 7, 8, 9, 10, 11] [0, 1, 2]]) (.sub (scOf qlv) qyj)) (.cond 25 (.reg [ao 26 (.mv 5),
 ao 27 (.load true 8 7),
 ao 28 (.bsl 8 [27]),
 ao 29 (.app 8 80 26 28),
 ao 5 (.mv 29)]) (.skip)))))) (.seq (.reg [ao 30 (.bin .add 11 (.c (.int .i64 1))),
 ao 11 (.mv 30)]) (.view [.sel [0, 3, 5, 9, 10, 11] [0, 1]]))))
theorem qbca : AC.ok Try.prog (TIof Try.prog) 32 0 (kret [.t 4] (decF true 8)) qgi := qm (zA qbb9 trivial)
theorem qba7 (v0 v9 : List AV) (v10 v11 : Int) (Ai : Bool) (Aj Ak Al : Int) (a1 : List AV) (K : Ex → Env → Mem → Option (List AV)) : den 0 (kret [.t 4] (decF true 8)) qgi (qqh v0 v9 v10 v11 Ai Aj Ak Al a1) (qqi v0 v9 v10 v11 Ai Aj Ak Al a1) K = qgh v0 v9 v10 v11 Ai Aj Ak Al a1 (fun z_v11 z_b0_0 z_b0_1 z_b0_2 z_b0_3 z_a1 => K .norm (qqh v0 v9 v10 z_v11 z_b0_0 z_b0_1 z_b0_2 z_b0_3 z_a1) (qqi v0 v9 v10 z_v11 z_b0_0 z_b0_1 z_b0_2 z_b0_3 z_a1)) (qk7 K) := by kernel_rfl
theorem qbeb (v0 v9 : List AV) (v10 : Int) (K : Ex → Env → Mem → Option (List AV)) : ∀ (n : Nat) (v11 : Int) (Ai : Bool) (Aj Ak Al : Int) (a1 : List AV), qe5 (den 0 (kret [.t 4] (decF true 8)) qgi) n (qqh v0 v9 v10 v11 Ai Aj Ak Al a1) (qqi v0 v9 v10 v11 Ai Aj Ak Al a1) K = qos v0 v9 v10 (qk7 K) n v11 Ai Aj Ak Al a1 := by
  rw [qyk]
  intro n
  induction n with
  | zero => intros; rfl
  | succ n ih =>
 intro v11 Ai Aj Ak Al a1
 exact (qba7 v0 v9 v10 v11 Ai Aj Ak Al a1 (itK (den 0 (kret [.t 4] (decF true 8)) qgi) n K)).trans (congrArg (fun q => qgh v0 v9 v10 v11 Ai Aj Ak Al a1 q (qk7 K)) (funext fun v11 => funext fun Ai => funext fun Aj => funext fun Ak => funext fun Al => funext fun a1 => ih v11 Ai Aj Ak Al a1))
def qz4 := subE (R := (List AV)) qba6 fun t m K => qe (bxC (m.s 0)) (qos (gL [t 0] 0) (gL [t 9] 0) (gI [t 10] 0) (qk7 K) FU (gI [t 11] 0)) (arL (m.s 1))
theorem qbec : qca Try.prog (TIof Try.prog) 32 0 (kret [.t 4] (decF true 8)) (.loop (scOf qgi)) (qz4) :=
  qen tabOk follows (qbca) (qn (by kernel_rfl)) fun t m K => qbeb _ _ _ K FU _ _ _ _ _ _
def qbg3 : Shp := ⟨[(0, .one (.l (.sl 8))), (1, .st (lk qf))], []⟩
def qv2 (v0 : List AV) (Aq : Bool) (Ar As At : Int) : Option (List AV) :=
  (bif (hd ([] : List AV) (([] : List AV).length) && true) then (qos v0 v0 (v0.length : Int) (fun a0q1 => (bif hd a0q1 a0q1.length then (some a0q1) else none)) FU (0 : Int) Aq Ar As At ([] : List AV)) else none)
def qlw := hull qv2
theorem q4m : qlw = qv2 := qj _
def qv3 : AC (List AV) :=
  .seq (.reg [ao 3 (.box 1),
 ao 4 (.mv (.c .nils))]) (.seq (.reg [ao 5 (.mv (.c .nils))]) (.seq (.seq (.reg [ao 9 (.mv 0),
 ao 10 (.len false 9),
 ao 11 (.mv (.c (.int .i64 0)))]) (.block 0 (.seq (.view [.own 5 8, .sel [0, 3, 5, 9, 10, 11] [0, 1]]) (.sub (.loop (scOf qgi)) qz4)))) (.seq (.reg [ao 31 (.mv 5),
 ao 4 (.mv 31)]) (.ret))))
theorem qbjc : AC.ok Try.prog (TIof Try.prog) 32 0 (kret [.t 4] (decF true 8)) qv3 := qm (zA qbec trivial)
theorem qbnm (v0 : List AV) (Aq : Bool) (Ar As At : Int) : den 0 (kret [.t 4] (decF true 8)) qv3 (qh [(0, (.sl 8 v0)), (1, .agg (qa Aq Ar As At))]) (qg []) (kend (kret [.t 4] (decF true 8))) = qlw v0 Aq Ar As At := by
  rw [q4m]; kernel_rfl
theorem qbnn : cFn (TIof Try.prog) Try.f30 = some ⟨32, [.t 4], scOf qv3⟩ := by kernel_rfl
def qbno (xs : List AV) : Option (List AV) := qe ((qk xs) 1).cells (qlw (gL [(qk xs) 0] 0))
def q1p {R : Type} : List AV → (AV → Option R) → Option R := entF qbg3 qbno (AV.fr true 8)
theorem qbnp {R : Type} : qd Try.prog 30 (q1p (R := R)) :=
  qz tabOk follows Try.func30 (by kernel_rfl) qbnn hdeF qbjc (qn (by kernel_rfl)) fun xs => qbnm _ _ _ _ _
def qbjd : Shp := ⟨[(0, .st (lk qf)), (1, .st (lk qf))], []⟩
def qxu (Aa : Bool) (Ab Ac Ad : Int) (Aq : Bool) (Ar As At : Int) : Option Bool :=
  (oB (qjo Aa Ab Ac Ad Aq Ar As At) fun r1 => (bif r1 then (some true) else (oB (qjo Aq Ar As At Aa Ab Ac Ad) fun r2 => (some r2))))
def qqj := hull qxu
theorem q6q : qqj = qxu := qj _
def qxv : AC Bool :=
  .seq (.reg [ao 2 (.box 0),
 ao 3 (.box 1),
 ao 4 (.mv (.c (.bool false)))]) (.seq (.reg [ao 5 (.load true 4 2),
 ao 6 (.load true 4 3),
 .call (po 7 (.call 37 [5, 6])) 37 qme,
 ao 8 (.mv 7),
 ag 9 8 false (.load true 4 3),
 ag 10 8 false (.load true 4 2),
 .call (pg 11 8 false (.call 37 [9, 10])) 37 qme,
 ao 12 (.pick 8 (.c (.bool true)) 11),
 ao 4 (.mv 12)]) (.ret))
theorem qbnq : AC.ok Try.prog (TIof Try.prog) 13 0 (kret [.t 4] decB) qxv := qm (zA (qd.ok qs8) (zA (qd.ok qs8) trivial))
theorem qbqg (Aa : Bool) (Ab Ac Ad : Int) (Aq : Bool) (Ar As At : Int) : den 0 (kret [.t 4] decB) qxv (qh [(0, .agg (qa Aa Ab Ac Ad)), (1, .agg (qa Aq Ar As At))]) (qg []) (kend (kret [.t 4] decB)) = qqj Aa Ab Ac Ad Aq Ar As At := by
  rw [q6q]; kernel_rfl
theorem qbqh : cFn (TIof Try.prog) Try.f36 = some ⟨13, [.t 4], scOf qxv⟩ := by kernel_rfl
def qbqi (xs : List AV) : Option Bool := qe ((qk xs) 1).cells (qe ((qk xs) 0).cells (qqj))
def q4n {R : Type} : List AV → (AV → Option R) → Option R := entF qbjd qbqi AV.bool
theorem qbqj {R : Type} : qd Try.prog 36 (q4n (R := R)) :=
  qz tabOk follows Try.func36 (by kernel_rfl) qbqh hdeB qbnq (qn (by kernel_rfl)) fun xs => qbqg _ _ _ _ _ _ _ _
def qz5 : Shp := ⟨[(0, .one (.own 0)), (1, .one (.l (.sl 8))), (2, .st (lk qf))], [.arr true 4]⟩
def qf6 (rec : (List AV) → (List AV) → Bool → Int → Int → Int → Option (List AV)) (xs cl : List AV) : Option (List AV) := chk (qbaf qz5 (qk (.own 0 xs.length :: cl)) (M1 4 xs)) (cond (hdS qz5 (qk (.own 0 xs.length :: cl)) (M1 4 xs)) (rec xs (gL [(qk (.own 0 xs.length :: cl)) 1] 0) (gB ((qk (.own 0 xs.length :: cl)) 2).cells 0) (gI ((qk (.own 0 xs.length :: cl)) 2).cells 1) (gI ((qk (.own 0 xs.length :: cl)) 2).cells 2) (gI ((qk (.own 0 xs.length :: cl)) 2).cells 3)) none)
def qot  (a0 : List AV) (Au : Bool) (Av Aw Ax : Int) (K : Ex → Env → Mem → Option (List AV)) := (fun z_a2 => K (.exit 0) (qh [(0, (.own 0 a0.length)), (5, (.ptr 1 0)), (7, (.own 2 z_a2.length))]) (qg [(some (.arr true 4 a0)), (some (.box true (qa Au Av Aw Ax))), (some (.arr true 8 z_a2))]))
def qbje : Shp := ⟨[(0, .one (.own 0)), (5, .one (.ptr 1 0)), (7, .one (.own 2)), (13, .one (.l (.sl 8))), (14, .one (.l (.i .i64))), (15, .one (.l (.i .i64)))], [.arr true 4, .box true (lk qf), .arr true 8]⟩
def qv4 (v13 : List AV) (v14 v15 : Int) (a0 : List AV) (Au : Bool) (Av Aw Ax : Int) (a2 : List AV) : Env := qh [(0, (.own 0 a0.length)), (5, (.ptr 1 0)), (7, (.own 2 a2.length)), (13, (.sl 8 v13)), (14, (.int .i64 v14)), (15, (.int .i64 v15))]
def qv5 (v13 : List AV) (v14 v15 : Int) (a0 : List AV) (Au : Bool) (Av Aw Ax : Int) (a2 : List AV) : Mem := qg [(some (.arr true 4 a0)), (some (.box true (qa Au Av Aw Ax))), (some (.arr true 8 a2))]
def qkp  (rec : (List AV) → (List AV) → Bool → Int → Int → Int → Option (List AV)) (v13 : List AV) (v14 v15 : Int) (a0 : List AV) (Au : Bool) (Av Aw Ax : Int) (a2 : List AV) (next : Int → (List AV) → Option (List AV)) (kx0 : (List AV) → Option (List AV)) : Option (List AV) :=
  (bif (decide (v15 < v14)) then (oB (ixB v13 v15) fun y1 => (bif fitC qb y1.cells then (oB (qjo Au Av Aw Ax (gB y1.cells 0) (gI y1.cells 1) (gI y1.cells 2) (gI y1.cells 3)) fun r2 => (bif r2 then (bif hd a0 a0.length then (some a0) else none) else (oB (qqj (gB y1.cells 0) (gI y1.cells 1) (gI y1.cells 2) (gI y1.cells 3) Au Av Aw Ax) fun r3 => (bif r3 then (bif hd a2 a2.length then (bif hd ([(.agg [(.bool (gB y1.cells 0)), (.int .u64 (gI y1.cells 1)), (.int .u64 (gI y1.cells 2)), (.int .i64 (gI y1.cells 3)), (.int .i64 (gI y1.cells 4)), (.str (gS y1.cells 5)), (.str (gS y1.cells 6)), (.int .i64 (gI y1.cells 7))])] : List AV) (([(.agg [(.bool (gB y1.cells 0)), (.int .u64 (gI y1.cells 1)), (.int .u64 (gI y1.cells 2)), (.int .i64 (gI y1.cells 3)), (.int .i64 (gI y1.cells 4)), (.str (gS y1.cells 5)), (.str (gS y1.cells 6)), (.int .i64 (gI y1.cells 7))])] : List AV).length) then (bif decide ((a2.length + ([(.agg [(.bool (gB y1.cells 0)), (.int .u64 (gI y1.cells 1)), (.int .u64 (gI y1.cells 2)), (.int .i64 (gI y1.cells 3)), (.int .i64 (gI y1.cells 4)), (.str (gS y1.cells 5)), (.str (gS y1.cells 6)), (.int .i64 (gI y1.cells 7))])] : List AV).length) * 80 ≤ 140737488355328) then (next (IntKind.i64.wrap (v15 + (1 : Int))) (a2 ++ ([(.agg [(.bool (gB y1.cells 0)), (.int .u64 (gI y1.cells 1)), (.int .u64 (gI y1.cells 2)), (.int .i64 (gI y1.cells 3)), (.int .i64 (gI y1.cells 4)), (.str (gS y1.cells 5)), (.str (gS y1.cells 6)), (.int .i64 (gI y1.cells 7))])] : List AV))) else none) else none) else none) else (next (IntKind.i64.wrap (v15 + (1 : Int))) a2))))) else none)) else (kx0 a2))
def qrg  (rec : (List AV) → (List AV) → Bool → Int → Int → Int → Option (List AV)) (v13 : List AV) (v14 : Int) (a0 : List AV) (Au : Bool) (Av Aw Ax : Int) (kx0 : (List AV) → Option (List AV)) : Nat → Int → (List AV) → Option (List AV)
  | 0 => (fun _ _ => none)
  | n + 1 => (fun v15 a2 => qkp rec v13 v14 v15 a0 Au Av Aw Ax a2 (qrg rec v13 v14 a0 Au Av Aw Ax kx0 n) kx0)
def qqk  (rec : (List AV) → (List AV) → Bool → Int → Int → Int → Option (List AV)):= hull (qrg rec)
theorem q6r  (rec : (List AV) → (List AV) → Bool → Int → Int → Int → Option (List AV)): qqk rec = qrg rec := qj _
def qkq (rec : (List AV) → (List AV) → Bool → Int → Int → Int → Option (List AV)) : AC (List AV) :=
  .seq (.reg [ao 16 (.bin .lss 15 14)]) (.seq (.cond 16 (.skip) (.seq (.view [.sel [0, 5, 7] [0, 1, 2]]) (.exit 0))) (.seq (.block 1 (.seq (.reg [ao 17 (.ia 8 13 15),
 .st (.etac 17 qb),
 ao 18 (.load true 8 17),
 ao 9 (.alloc [(.bool false), (.int .u64 0), (.int .u64 0), (.int .i64 0), (.int .i64 0), (.str []), (.str []), (.int .i64 0)]),
 an (.store 8 9 18)]) (.seq (.seq (.reg [ao 19 (.load true 4 5),
 ao 20 (.fa 0 9),
 ao 21 (.load true 4 20),
 .call (po 22 (.call 37 [19, 21])) 37 qme]) (.cond 22 (.seq (.reg [ao 23 (.mv 0),
 ao 6 (.mv 23)]) (.ret)) (.skip))) (.seq (.reg [ao 24 (.fa 0 9),
 ao 25 (.load true 4 24),
 ao 26 (.load true 4 5),
 .call (po 27 (.call 36 [25, 26])) 36 q4n]) (.cond 27 (.reg [ao 28 (.mv 7),
 ao 29 (.load true 8 9),
 ao 30 (.bsl 8 [29]),
 ao 31 (.app 8 80 28 30),
 ao 7 (.mv 31)]) (.skip)))))) (.seq (.reg [ao 32 (.bin .add 15 (.c (.int .i64 1))),
 ao 15 (.mv 32)]) (.view [.sel [0, 5, 7, 13, 14, 15] [0, 1, 2]]))))
theorem qbnr (rec : (List AV) → (List AV) → Bool → Int → Int → Int → Option (List AV)) (hrec : qwt Try.prog 69 4 (qf6 rec)) : AC.ok Try.prog (TIof Try.prog) 56 1 (qq [.t 6] (grK 4)) (qkq rec) := qm (zA (qd.ok qs8) (zA (qd.ok qbqj) trivial))
theorem qbjf (rec : (List AV) → (List AV) → Bool → Int → Int → Int → Option (List AV)) (v13 : List AV) (v14 v15 : Int) (a0 : List AV) (Au : Bool) (Av Aw Ax : Int) (a2 : List AV) (K : Ex → Env → Mem → Option (List AV)) : den 1 (qq [.t 6] (grK 4)) (qkq rec) (qv4 v13 v14 v15 a0 Au Av Aw Ax a2) (qv5 v13 v14 v15 a0 Au Av Aw Ax a2) K = qkp rec v13 v14 v15 a0 Au Av Aw Ax a2 (fun z_v15 z_a2 => K .norm (qv4 v13 v14 z_v15 a0 Au Av Aw Ax z_a2) (qv5 v13 v14 z_v15 a0 Au Av Aw Ax z_a2)) (qot a0 Au Av Aw Ax K) := by kernel_rfl
theorem qbqk (rec : (List AV) → (List AV) → Bool → Int → Int → Int → Option (List AV)) (v13 : List AV) (v14 : Int) (a0 : List AV) (Au : Bool) (Av Aw Ax : Int) (K : Ex → Env → Mem → Option (List AV)) : ∀ (n : Nat) (v15 : Int) (a2 : List AV), qe5 (den 1 (qq [.t 6] (grK 4)) (qkq rec)) n (qv4 v13 v14 v15 a0 Au Av Aw Ax a2) (qv5 v13 v14 v15 a0 Au Av Aw Ax a2) K = qqk rec v13 v14 a0 Au Av Aw Ax (qot a0 Au Av Aw Ax K) n v15 a2 := by
  rw [q6r]
  intro n
  induction n with
  | zero => intros; rfl
  | succ n ih =>
 intro v15 a2
 exact (qbjf rec v13 v14 v15 a0 Au Av Aw Ax a2 (itK (den 1 (qq [.t 6] (grK 4)) (qkq rec)) n K)).trans (congrArg (fun q => qkp rec v13 v14 v15 a0 Au Av Aw Ax a2 q (qot a0 Au Av Aw Ax K)) (funext fun v15 => funext fun a2 => ih v15 a2))
def q8f (rec : (List AV) → (List AV) → Bool → Int → Int → Int → Option (List AV)) := subE (R := List AV) qbje fun t m K => qe (bxC (m.s 1)) (qqk rec (gL [t 13] 0) (gI [t 14] 0) (arL (m.s 0))) (qot (arL (m.s 0)) (gB (bxC (m.s 1)) 0) (gI (bxC (m.s 1)) 1) (gI (bxC (m.s 1)) 2) (gI (bxC (m.s 1)) 3) K) FU (gI [t 15] 0) (arL (m.s 2))
theorem qbql (rec : (List AV) → (List AV) → Bool → Int → Int → Int → Option (List AV)) (hrec : qwt Try.prog 69 4 (qf6 rec)) : qca Try.prog (TIof Try.prog) 56 1 (qq [.t 6] (grK 4)) (.loop (scOf (qkq rec))) (q8f rec) :=
  qen tabOk follows (qbnr rec hrec) (qn (by kernel_rfl)) fun t m K => qbqk rec _ _ _ _ _ _ _ K FU _ _
def qwx (rec : (List AV) → (List AV) → Bool → Int → Int → Int → Option (List AV)) (a0 v1 : List AV) (Br : Bool) (Bs Bt Bu : Int) : Option (List AV) :=
  (bif (hd a0 (a0.length) && (hd ([] : List AV) (([] : List AV).length) && true)) then (qqk rec v1 (v1.length : Int) a0 Br Bs Bt Bu (fun a2q1 => (bif ((a2q1.length : Int) == (0 : Int)) then (bif hd a0 a0.length then (bif hd ([(.agg [(.bool Br), (.int .u64 Bs), (.int .u64 Bt), (.int .i64 Bu)])] : List AV) (([(.agg [(.bool Br), (.int .u64 Bs), (.int .u64 Bt), (.int .i64 Bu)])] : List AV).length) then (bif decide ((a0.length + ([(.agg [(.bool Br), (.int .u64 Bs), (.int .u64 Bt), (.int .i64 Bu)])] : List AV).length) * 32 ≤ 140737488355328) then (bif hd (a0 ++ ([(.agg [(.bool Br), (.int .u64 Bs), (.int .u64 Bt), (.int .i64 Bu)])] : List AV)) ((a0 ++ ([(.agg [(.bool Br), (.int .u64 Bs), (.int .u64 Bt), (.int .i64 Bu)])] : List AV)).length) then (some (a0 ++ ([(.agg [(.bool Br), (.int .u64 Bs), (.int .u64 Bt), (.int .i64 Bu)])] : List AV))) else none) else none) else none) else none) else (oB (qmb Br Bs Bt Bu) fun r2 => (bif (!r2.2.2) then (bif hd a0 a0.length then (some a0) else none) else (bif hd a2q1 a2q1.length then (bif hd a0 a0.length then (oB (bif (hd a0 (a0.length) && true) then (rec a0 a2q1 (gB r2.1.cells 0) (gI r2.1.cells 1) (gI r2.1.cells 2) (gI r2.1.cells 3)) else none) fun r3 => (bif hd r3 r3.length then (oB (bif (hd r3 (r3.length) && true) then (rec r3 a2q1 (gB r2.2.1.cells 0) (gI r2.2.1.cells 1) (gI r2.2.1.cells 2) (gI r2.2.1.cells 3)) else none) fun r4 => (bif hd r4 r4.length then (some r4) else none)) else none)) else none) else none))))) FU (0 : Int) ([] : List AV)) else none)
def qfa : Nat → (List AV) → (List AV) → Bool → Int → Int → Int → Option (List AV)
  | 0 => (fun _ _ _ _ _ _ => none)
  | n + 1 => (fun a0 v1 Br Bs Bt Bu => qwx (qfa n) a0 v1 Br Bs Bt Bu)
def q3i : (List AV) → (List AV) → Bool → Int → Int → Int → Option (List AV) := hull (qfa FU)
theorem qbcb : q3i = qfa FU := qj _
def qr8 (rec : (List AV) → (List AV) → Bool → Int → Int → Int → Option (List AV)) : AC (List AV) :=
  .seq (.reg [ao 5 (.box 2),
 ao 6 (.mv (.c .nils))]) (.seq (.reg [ao 7 (.mv (.c .nils))]) (.seq (.seq (.reg [ao 13 (.mv 1),
 ao 14 (.len false 13),
 ao 15 (.mv (.c (.int .i64 0)))]) (.block 0 (.seq (.view [.own 7 8, .sel [0, 5, 7, 13, 14, 15] [0, 1, 2]]) (.sub (.loop (scOf (qkq rec))) (q8f rec))))) (.seq (.seq (.reg [ao 33 (.mv 7),
 ao 34 (.len false 33),
 ao 35 (.bin .eql 34 (.c (.int .i64 0)))]) (.cond 35 (.seq (.reg [ao 36 (.mv 0),
 ao 37 (.load true 4 5),
 ao 38 (.bsl 4 [37]),
 ao 39 (.app 4 32 36 38),
 ao 6 (.mv 39)]) (.ret)) (.skip))) (.seq (.reg [ao 41 (.load true 4 5),
 .call (po 42 (.call 59 [41])) 59 qpv,
 ao 40 (.mv 42),
 ao 43 (.ext 40 0),
 ao 44 (.ext 40 1),
 ao 45 (.ext 40 2),
 ao 10 (.alloc [(.bool false), (.int .u64 0), (.int .u64 0), (.int .i64 0)]),
 ao 11 (.alloc [(.bool false), (.int .u64 0), (.int .u64 0), (.int .i64 0)]),
 an (.store 4 10 43),
 an (.store 4 11 44),
 ao 12 (.mv 45)]) (.seq (.seq (.reg [ao 46 (.mv 12),
 ao 47 (.un .not 46)]) (.cond 47 (.seq (.reg [ao 48 (.mv 0),
 ao 6 (.mv 48)]) (.ret)) (.skip))) (.seq (.seq (.view [.snap 7]) (.draw4 [(po 49 (.mv 0)), (po 50 (.mv 7)), (po 51 (.load true 4 10))] 52 69 4 49 [50, 51] (qf6 rec) [(po 53 (.mv 7)), (po 54 (.load true 4 11))] [.callr (po 55 (.call 69 [52, 53, 54])) 69 (qbuc 4 (qf6 rec)),
 ao 6 (.mv 55)])) (.ret)))))))
theorem qbvw (rec : (List AV) → (List AV) → Bool → Int → Int → Int → Option (List AV)) (hrec : qwt Try.prog 69 4 (qf6 rec)) : AC.ok Try.prog (TIof Try.prog) 56 1 (qq [.t 6] (grK 4)) (qr8 rec) := qm (zA (qbql rec hrec) (zA (qd.ok qzx) (zA hrec (zA (qbxj hrec) trivial))))
theorem qbyr (rec : (List AV) → (List AV) → Bool → Int → Int → Int → Option (List AV)) (v1 : List AV) (Br : Bool) (Bs Bt Bu : Int) (a0 : List AV) : den 1 (qq [.t 6] (grK 4)) (qr8 rec) (qh [(0, (.own 0 a0.length)), (1, (.sl 8 v1)), (2, .agg (qa Br Bs Bt Bu))]) (qg [(some (.arr true 4 a0))]) (kend (qq [.t 6] (grK 4))) = qwx rec a0 v1 Br Bs Bt Bu := by
  kernel_rfl
theorem qbys : cFn (TIof Try.prog) Try.f69 = some ⟨56, [.t 6], scOf (qr8 (fun _ _ _ _ _ _ => none))⟩ := by kernel_rfl
theorem qbyt (rec : (List AV) → (List AV) → Bool → Int → Int → Int → Option (List AV)) : (qr8 rec).er = some (scOf (qr8 (fun _ _ _ _ _ _ => none))) := by kernel_rfl
theorem qbcc : ∀ (k : Nat), qwt Try.prog 69 4 (qf6 (qfa k))
  | 0 => fun xs cl zs h => by
   unfold qf6 at h
   obtain ⟨h1, h2⟩ := qx4 h
   obtain ⟨h3, h4⟩ := qo h2
   cases h4
  | k + 1 => fun xs cl zs h => by
   unfold qf6 at h
   obtain ⟨h1, h2⟩ := qx4 h
   obtain ⟨h3, h4⟩ := qo h2
   exact qb0t tabOk follows Try.func69 (by kernel_rfl) qbys (qbvw (qfa k) (qbcc k)) (qbyt (qfa k)) qz5 (qbln h1 h3) ((qbyr (qfa k) (gL [(qk (.own 0 xs.length :: cl)) 1] 0) (gB ((qk (.own 0 xs.length :: cl)) 2).cells 0) (gI ((qk (.own 0 xs.length :: cl)) 2).cells 1) (gI ((qk (.own 0 xs.length :: cl)) 2).cells 2) (gI ((qk (.own 0 xs.length :: cl)) 2).cells 3) (arL ((M1 4 xs).s 0))).trans h4)
theorem qbyu : qwt Try.prog 69 4 (qf6 q3i) := by
  have h := qbcc FU
  rw [← qbcb] at h
  exact h
def qn2  (Ai : Bool) (Aj Ak Al : Int) (K : Ex → Env → Mem → Option (List AV)) := (fun z_a1 => K (.exit 0) (qh [(3, (.ptr 0 0)), (7, (.own 1 z_a1.length))]) (qg [(some (.box true (qa Ai Aj Ak Al))), (some (.arr true 8 z_a1))]))
def qbg4 : Shp := ⟨[(3, .one (.ptr 0 0)), (7, .one (.own 1)), (23, .one (.l (.sl 8))), (24, .one (.l (.i .i64))), (25, .one (.l (.i .i64)))], [.box true (lk qf), .arr true 8]⟩
def qug (v23 : List AV) (v24 v25 : Int) (Ai : Bool) (Aj Ak Al : Int) (a1 : List AV) : Env := qh [(3, (.ptr 0 0)), (7, (.own 1 a1.length)), (23, (.sl 8 v23)), (24, (.int .i64 v24)), (25, (.int .i64 v25))]
def quh (v23 : List AV) (v24 v25 : Int) (Ai : Bool) (Aj Ak Al : Int) (a1 : List AV) : Mem := qg [(some (.box true (qa Ai Aj Ak Al))), (some (.arr true 8 a1))]
def qi9  (v23 : List AV) (v24 v25 : Int) (Ai : Bool) (Aj Ak Al : Int) (a1 : List AV) (next : Int → (List AV) → Option (List AV)) (kx0 : (List AV) → Option (List AV)) : Option (List AV) :=
  (bif (decide (v25 < v24)) then (oB (ixB v23 v25) fun y1 => (bif fitC qb y1.cells then (oB (qg3 (gB y1.cells 0) (gI y1.cells 1) (gI y1.cells 2) (gI y1.cells 3) Ai Aj Ak Al) fun r2 => (bif r2 then (bif hd a1 a1.length then (bif hd ([(.agg [(.bool (gB y1.cells 0)), (.int .u64 (gI y1.cells 1)), (.int .u64 (gI y1.cells 2)), (.int .i64 (gI y1.cells 3)), (.int .i64 (gI y1.cells 4)), (.str (gS y1.cells 5)), (.str (gS y1.cells 6)), (.int .i64 (gI y1.cells 7))])] : List AV) (([(.agg [(.bool (gB y1.cells 0)), (.int .u64 (gI y1.cells 1)), (.int .u64 (gI y1.cells 2)), (.int .i64 (gI y1.cells 3)), (.int .i64 (gI y1.cells 4)), (.str (gS y1.cells 5)), (.str (gS y1.cells 6)), (.int .i64 (gI y1.cells 7))])] : List AV).length) then (bif decide ((a1.length + ([(.agg [(.bool (gB y1.cells 0)), (.int .u64 (gI y1.cells 1)), (.int .u64 (gI y1.cells 2)), (.int .i64 (gI y1.cells 3)), (.int .i64 (gI y1.cells 4)), (.str (gS y1.cells 5)), (.str (gS y1.cells 6)), (.int .i64 (gI y1.cells 7))])] : List AV).length) * 80 ≤ 140737488355328) then (next (IntKind.i64.wrap (v25 + (1 : Int))) (a1 ++ ([(.agg [(.bool (gB y1.cells 0)), (.int .u64 (gI y1.cells 1)), (.int .u64 (gI y1.cells 2)), (.int .i64 (gI y1.cells 3)), (.int .i64 (gI y1.cells 4)), (.str (gS y1.cells 5)), (.str (gS y1.cells 6)), (.int .i64 (gI y1.cells 7))])] : List AV))) else none) else none) else none) else (next (IntKind.i64.wrap (v25 + (1 : Int))) a1))) else none)) else (kx0 a1))
def qpx  (v23 : List AV) (v24 : Int) (Ai : Bool) (Aj Ak Al : Int) (kx0 : (List AV) → Option (List AV)) : Nat → Int → (List AV) → Option (List AV)
  | 0 => (fun _ _ => none)
  | n + 1 => (fun v25 a1 => qi9 v23 v24 v25 Ai Aj Ak Al a1 (qpx v23 v24 Ai Aj Ak Al kx0 n) kx0)
def qou := hull (qpx)
theorem q4o : qou = qpx := qj _
def qja : AC (List AV) :=
  .seq (.reg [ao 26 (.bin .lss 25 24)]) (.seq (.cond 26 (.skip) (.seq (.view [.sel [3, 7] [0, 1]]) (.exit 0))) (.seq (.block 1 (.seq (.reg [ao 27 (.ia 8 23 25),
 .st (.etac 27 qb),
 ao 28 (.load true 8 27),
 ao 9 (.alloc [(.bool false), (.int .u64 0), (.int .u64 0), (.int .i64 0), (.int .i64 0), (.str []), (.str []), (.int .i64 0)]),
 an (.store 8 9 28)]) (.seq (.reg [ao 29 (.fa 0 9),
 ao 30 (.load true 4 29),
 ao 31 (.load true 4 3),
 .call (po 32 (.call 64 [30, 31])) 64 qgq]) (.cond 32 (.reg [ao 33 (.mv 7),
 ao 34 (.load true 8 9),
 ao 35 (.bsl 8 [34]),
 ao 36 (.app 8 80 33 35),
 ao 7 (.mv 36)]) (.skip))))) (.seq (.reg [ao 37 (.bin .add 25 (.c (.int .i64 1))),
 ao 25 (.mv 37)]) (.view [.sel [3, 7, 23, 24, 25] [0, 1]]))))
theorem qbjg : AC.ok Try.prog (TIof Try.prog) 41 0 (kret [.t 4] (decF true 4)) qja := qm (zA (qd.ok ql7) trivial)
theorem qbg5 (v23 : List AV) (v24 v25 : Int) (Ai : Bool) (Aj Ak Al : Int) (a1 : List AV) (K : Ex → Env → Mem → Option (List AV)) : den 0 (kret [.t 4] (decF true 4)) qja (qug v23 v24 v25 Ai Aj Ak Al a1) (quh v23 v24 v25 Ai Aj Ak Al a1) K = qi9 v23 v24 v25 Ai Aj Ak Al a1 (fun z_v25 z_a1 => K .norm (qug v23 v24 z_v25 Ai Aj Ak Al z_a1) (quh v23 v24 z_v25 Ai Aj Ak Al z_a1)) (qn2 Ai Aj Ak Al K) := by kernel_rfl
theorem qbns (v23 : List AV) (v24 : Int) (Ai : Bool) (Aj Ak Al : Int) (K : Ex → Env → Mem → Option (List AV)) : ∀ (n : Nat) (v25 : Int) (a1 : List AV), qe5 (den 0 (kret [.t 4] (decF true 4)) qja) n (qug v23 v24 v25 Ai Aj Ak Al a1) (quh v23 v24 v25 Ai Aj Ak Al a1) K = qou v23 v24 Ai Aj Ak Al (qn2 Ai Aj Ak Al K) n v25 a1 := by
  rw [q4o]
  intro n
  induction n with
  | zero => intros; rfl
  | succ n ih =>
 intro v25 a1
 exact (qbg5 v23 v24 v25 Ai Aj Ak Al a1 (itK (den 0 (kret [.t 4] (decF true 4)) qja) n K)).trans (congrArg (fun q => qi9 v23 v24 v25 Ai Aj Ak Al a1 q (qn2 Ai Aj Ak Al K)) (funext fun v25 => funext fun a1 => ih v25 a1))
def q6s := subE (R := (List AV)) qbg4 fun t m K => qe (bxC (m.s 0)) (qou (gL [t 23] 0) (gI [t 24] 0)) (qn2 (gB (bxC (m.s 0)) 0) (gI (bxC (m.s 0)) 1) (gI (bxC (m.s 0)) 2) (gI (bxC (m.s 0)) 3) K) FU (gI [t 25] 0) (arL (m.s 1))
theorem qbnt : qca Try.prog (TIof Try.prog) 41 0 (kret [.t 4] (decF true 4)) (.loop (scOf qja)) (q6s) :=
  qen tabOk follows (qbjg) (qn (by kernel_rfl)) fun t m K => qbns _ _ _ _ _ _ K FU _ _
def qbs0 : Shp := ⟨[(0, .one (.l (.sl 8))), (1, .st (lk qf))], []⟩
def q5s (v0 : List AV) (Aq : Bool) (Ar As At : Int) : Option (List AV) :=
  (oB (qpb v0 Aq Ar As At) fun r1 => (bif ((!r1.2) || ((gI r1.1.cells 4) != (1 : Int))) then (bif hd ([] : List AV) (([] : List AV).length) then (some ([] : List AV)) else none) else (bif (hd ([] : List AV) (([] : List AV).length) && true) then (qou v0 (v0.length : Int) Aq Ar As At (fun a1q2 => (bif hd a1q2 a1q2.length then (oB (bif (hd ([] : List AV) (([] : List AV).length) && true) then (q3i ([] : List AV) a1q2 Aq Ar As At) else none) fun r3 => (bif hd r3 r3.length then (some r3) else none)) else none)) FU (0 : Int) ([] : List AV)) else none)))
def qsb := hull q5s
theorem qbcd : qsb = q5s := qj _
def q5t : AC (List AV) :=
  .seq (.reg [ao 3 (.box 1),
 ao 4 (.mv (.c .nils))]) (.seq (.seq (.reg [ao 11 (.mv 0),
 ao 12 (.load true 4 3),
 .call (po 13 (.call 24 [11, 12])) 24 qte,
 ao 10 (.mv 13),
 ao 14 (.ext 10 0),
 ao 15 (.ext 10 1),
 ao 5 (.alloc [(.bool false), (.int .u64 0), (.int .u64 0), (.int .i64 0), (.int .i64 0), (.str []), (.str []), (.int .i64 0)]),
 an (.store 8 5 14),
 ao 6 (.mv 15)]) (.seq (.reg [ao 16 (.mv 6),
 ao 17 (.un .not 16),
 ao 18 (.mv 17),
 .grp 18 false [(pg 19 18 false (.fa 4 5)), (pg 20 18 false (.load false 1 19)), (pg 21 18 false (.bin .neq 20 (.c (.int .i64 1))))] 22 21]) (.cond 22 (.seq (.reg [ao 4 (.mv (.c .nils))]) (.seq (.view [.own 4 4]) (.ret))) (.skip)))) (.seq (.reg [ao 7 (.mv (.c .nils))]) (.seq (.seq (.reg [ao 23 (.mv 0),
 ao 24 (.len false 23),
 ao 25 (.mv (.c (.int .i64 0)))]) (.block 0 (.seq (.view [.own 7 8, .sel [3, 7, 23, 24, 25] [0, 2]]) (.sub (.loop (scOf qja)) q6s)))) (.seq (.reg [ao 38 (.mv 7),
 ao 39 (.load true 4 3),
 .st (.snap 38),
 .callr (po 40 (.call 69 [(.c .nils), 38, 39])) 69 (qbuc 4 (qf6 q3i)),
 ao 4 (.mv 40)]) (.ret)))))
theorem qbvx : AC.ok Try.prog (TIof Try.prog) 41 0 (kret [.t 4] (decF true 4)) q5t := qm (zA (qd.ok q5o) (zA qbnt (zA (qbxj qbyu) trivial)))
theorem qbyv (v0 : List AV) (Aq : Bool) (Ar As At : Int) : den 0 (kret [.t 4] (decF true 4)) q5t (qh [(0, (.sl 8 v0)), (1, .agg (qa Aq Ar As At))]) (qg []) (kend (kret [.t 4] (decF true 4))) = qsb v0 Aq Ar As At := by
  rw [qbcd]; kernel_rfl
theorem qbyw : cFn (TIof Try.prog) Try.f33 = some ⟨41, [.t 4], scOf q5t⟩ := by kernel_rfl
def qbyx (xs : List AV) : Option (List AV) := qe ((qk xs) 1).cells (qsb (gL [(qk xs) 0] 0))
def q92 {R : Type} : List AV → (AV → Option R) → Option R := entF qbs0 qbyx (AV.fr true 4)
theorem qbyy {R : Type} : qd Try.prog 33 (q92 (R := R)) :=
  qz tabOk follows Try.func33 (by kernel_rfl) qbyw hdeF qbvx (qn (by kernel_rfl)) fun xs => qbyv _ _ _ _ _
def qlx  (K : Ex → Env → Mem → Option Bool) := (fun (_ : Unit) => K (.exit 0) (qh []) (qg []))
def qbce : Shp := ⟨[(0, .one (.l (.sl 8))), (1, .one (.l (.sl 8))), (12, .one (.l (.i .i64))), (13, .one (.l (.i .i64)))], []⟩
def qrh (v0 v1 : List AV) (v12 v13 : Int) : Env := qh [(0, (.sl 8 v0)), (1, (.sl 8 v1)), (12, (.int .i64 v12)), (13, (.int .i64 v13))]
def qri (v0 v1 : List AV) (v12 v13 : Int) : Mem := qg []
def qgw  (v0 v1 : List AV) (v12 v13 : Int) (next : Int → Option Bool) (kx0 : Unit → Option Bool) : Option Bool :=
  (bif (decide (v13 < v12)) then (oB (ixB v0 v13) fun y1 => (bif fitC qb y1.cells then (oB (ixB v1 v13) fun y2 => (bif fitC qb y2.cells then (bif (!(((gB y1.cells 0) == (gB y2.cells 0)) && (((gI y1.cells 1) == (gI y2.cells 1)) && (((gI y1.cells 2) == (gI y2.cells 2)) && (((gI y1.cells 3) == (gI y2.cells 3)) && (((gI y1.cells 4) == (gI y2.cells 4)) && (((gS y1.cells 5) == (gS y2.cells 5)) && (((gS y1.cells 6) == (gS y2.cells 6)) && (((gI y1.cells 7) == (gI y2.cells 7)) && true))))))))) then (some false) else (next (IntKind.i64.wrap (v13 + (1 : Int))))) else none)) else none)) else (kx0 ()))
def qn3  (v0 v1 : List AV) (v12 : Int) (kx0 : Unit → Option Bool) : Nat → Int → Option Bool
  | 0 => (fun _ => none)
  | n + 1 => (fun v13 => qgw v0 v1 v12 v13 (qn3 v0 v1 v12 kx0 n) kx0)
def qpy := hull (qn3)
theorem qz6 : qpy = qn3 := qj _
def qgx : AC Bool :=
  .seq (.reg [ao 14 (.bin .lss 13 12)]) (.seq (.cond 14 (.skip) (.seq (.view [.sel [] []]) (.exit 0))) (.seq (.block 1 (.seq (.reg [ao 15 (.mv 13),
 ao 5 (.mv 15)]) (.seq (.draw [] [ao 16 (.mv 0),
 ao 17 (.mv 5),
 ao 18 (.ia 8 16 17),
 .et 18 qb,
 ao 19 (.load true 8 18),
 ao 20 (.mv 1),
 ao 21 (.mv 5),
 ao 22 (.ia 8 20 21),
 .et 22 qb,
 ao 23 (.load true 8 22)] [ao 24 (.eq true true [.b, (.i .u64), (.i .u64), (.i .i64), (.i .i64), .s, .s, (.i .i64)] 19 23)]) (.cond 24 (.seq (.reg [ao 4 (.mv (.c (.bool false)))]) (.ret)) (.skip))))) (.seq (.reg [ao 25 (.bin .add 13 (.c (.int .i64 1))),
 ao 13 (.mv 25)]) (.view [.sel [0, 1, 12, 13] []]))))
theorem qbed : AC.ok Try.prog (TIof Try.prog) 26 0 (kret [.t 4] decB) qgx := qm (zA rfl trivial)
theorem qbcf (v0 v1 : List AV) (v12 v13 : Int) (K : Ex → Env → Mem → Option Bool) : den 0 (kret [.t 4] decB) qgx (qrh v0 v1 v12 v13) (qri v0 v1 v12 v13) K = qgw v0 v1 v12 v13 (fun z_v13 => K .norm (qrh v0 v1 v12 z_v13) (qri v0 v1 v12 z_v13)) (qlx K) := by kernel_rfl
theorem qbg6 (v0 v1 : List AV) (v12 : Int) (K : Ex → Env → Mem → Option Bool) : ∀ (n : Nat) (v13 : Int), qe5 (den 0 (kret [.t 4] decB) qgx) n (qrh v0 v1 v12 v13) (qri v0 v1 v12 v13) K = qpy v0 v1 v12 (qlx K) n v13 := by
  rw [qz6]
  intro n
  induction n with
  | zero => intros; rfl
  | succ n ih =>
 intro v13
 exact (qbcf v0 v1 v12 v13 (itK (den 0 (kret [.t 4] decB) qgx) n K)).trans (congrArg (fun q => qgw v0 v1 v12 v13 q (qlx K)) (funext fun v13 => ih v13))
def q1q := subE (R := Bool) qbce fun t m K => qpy (gL [t 0] 0) (gL [t 1] 0) (gI [t 12] 0) (qlx K) FU (gI [t 13] 0)
theorem qbg7 : qca Try.prog (TIof Try.prog) 26 0 (kret [.t 4] decB) (.loop (scOf qgx)) (q1q) :=
  qen tabOk follows (qbed) (qn (by kernel_rfl)) fun t m K => qbg6 _ _ _ K FU _
def qbnu : Shp := ⟨[(0, .one (.l (.sl 8))), (1, .one (.l (.sl 8)))], []⟩
def qz7 (v0 v1 : List AV) : Option Bool :=
  (bif ((v0.length : Int) != (v1.length : Int)) then (some false) else (qpy v0 v1 (v0.length : Int) (fun (_ : Unit) => (some true)) FU (0 : Int)))
def qdf := hull qz7
theorem q8g : qdf = qz7 := qj _
def qz8 : AC Bool :=
  .seq (.reg [ao 4 (.mv (.c (.bool false)))]) (.seq (.seq (.reg [ao 6 (.mv 0),
 ao 7 (.len false 6),
 ao 8 (.mv 1),
 ao 9 (.len false 8),
 ao 10 (.bin .neq 7 9)]) (.cond 10 (.seq (.reg [ao 4 (.mv (.c (.bool false)))]) (.ret)) (.skip))) (.seq (.seq (.reg [ao 11 (.mv 0),
 ao 12 (.len false 11),
 ao 13 (.mv (.c (.int .i64 0)))]) (.block 0 (.seq (.view [.sel [0, 1, 12, 13] []]) (.sub (.loop (scOf qgx)) q1q)))) (.seq (.reg [ao 4 (.mv (.c (.bool true)))]) (.ret))))
theorem qbqm : AC.ok Try.prog (TIof Try.prog) 26 0 (kret [.t 4] decB) qz8 := qm (zA qbg7 trivial)
theorem qbs1 (v0 v1 : List AV) : den 0 (kret [.t 4] decB) qz8 (qh [(0, (.sl 8 v0)), (1, (.sl 8 v1))]) (qg []) (kend (kret [.t 4] decB)) = qdf v0 v1 := by
  rw [q8g]; kernel_rfl
theorem qbs2 : cFn (TIof Try.prog) Try.f19 = some ⟨26, [.t 4], scOf qz8⟩ := by kernel_rfl
def qbs3 (xs : List AV) : Option Bool := qdf (gL [(qk xs) 0] 0) (gL [(qk xs) 1] 0)
def qjb {R : Type} : List AV → (AV → Option R) → Option R := entF qbnu qbs3 AV.bool
theorem qov {R : Type} : qd Try.prog 19 (qjb (R := R)) :=
  qz tabOk follows Try.func19 (by kernel_rfl) qbs2 hdeB qbqm (qn (by kernel_rfl)) fun xs => qbs1 _ _
def qyl  (v1 : List AV) (v11 v13 : Bool) (v14 v15 : List AV) (Ai : Bool) (Aj Ak Al Am : Int) (An Ao : List UInt8) (Ap : Int) (Au : Bool) (Av Aw Ax Bv : Int) (Bw Bx : List UInt8) (By : Int) (K : Ex → Env → Mem → Option Bool) := (fun z_v125 => K .norm (qh [(1, (.sl 8 v1)), (10, (.ptr 0 0)), (11, (.bool v11)), (12, (.ptr 1 0)), (13, (.bool v13)), (14, (.sl 8 v14)), (15, (.sl 4 v15)), (125, (.bool z_v125))]) (qg [(some (.box true (qc Ai Aj Ak Al Am An Ao Ap))), (some (.box true (qc Au Av Aw Ax Bv Bw Bx By)))]))
def qba8 : Shp := ⟨[(1, .one (.l (.sl 8))), (3, .one (.l (.i .i64))), (4, .one (.l (.sl 8))), (5, .one (.l (.i .i64))), (6, .one (.l (.sl 8))), (7, .one (.l (.i .i64))), (8, .one (.l (.sl 8))), (9, .one (.l (.i .i64))), (10, .one (.ptr 0 0)), (11, .one (.l .b)), (12, .one (.ptr 1 0)), (13, .one (.l .b)), (14, .one (.l (.sl 8))), (15, .one (.l (.sl 4)))], [.box true (lk qb), .box true (lk qb)]⟩
def qrj  (v1 : List AV) (v3 : Int) (v4 : List AV) (v5 : Int) (v6 : List AV) (v7 : Int) (v8 : List AV) (v9 : Int) (v11 v13 : Bool) (v14 v15 : List AV) (Ai : Bool) (Aj Ak Al Am : Int) (An Ao : List UInt8) (Ap : Int) (Au : Bool) (Av Aw Ax Bv : Int) (Bw Bx : List UInt8) (By : Int) (kn : Bool → Option Bool) : Option Bool :=
  (oB (qnh v1) fun r1 => (bif (r1 != (0 : Int)) then (kn true) else (bif (v3 != (25 : Int)) then (kn true) else (bif (v5 != (0 : Int)) then (kn true) else (bif ((v4.length : Int) != (4 : Int)) then (kn true) else (oB (ixB v4 (3 : Int)) fun y2 => (bif fitC qb y2.cells then (bif (!((gS y2.cells 5) == ([120] : List UInt8))) then (kn true) else (bif (v7 != (0 : Int)) then (kn true) else (bif ((v6.length : Int) != (5 : Int)) then (kn true) else (oB (ixB v6 (3 : Int)) fun y3 => (bif fitC qb y3.cells then (bif (!((gS y3.cells 5) == ([120, 45, 48] : List UInt8))) then (kn true) else (oB (ixB v6 (4 : Int)) fun y4 => (bif fitC qb y4.cells then (oB (qg4 (167870464 : Int) (17 : Int)) fun r5 => (bif (!(((gB y4.cells 0) == (gB r5.cells 0)) && (((gI y4.cells 1) == (gI r5.cells 1)) && (((gI y4.cells 2) == (gI r5.cells 2)) && (((gI y4.cells 3) == (gI r5.cells 3)) && true))))) then (kn true) else (bif (v9 != (0 : Int)) then (kn true) else (oB (qdf v8 v4) fun r6 => (kn (!r6)))))) else none))) else none))))) else none)))))))
def qow := hull (qrj)
theorem qym : qow = qrj := qj _
def qmw : AC Bool :=
  .seq (.draw [] [ao 69 (.mv 1),
 .call (po 70 (.call 11 [69])) 11 qxb,
 ao 71 (.bin .neq 70 (.c (.int .i64 0))),
 ao 72 (.mv 71),
 ag 73 72 false (.mv 3),
 ag 74 72 false (.bin .neq 73 (.c (.int .i64 25))),
 ao 75 (.pick 72 (.c (.bool true)) 74),
 ao 76 (.mv 75),
 ag 77 76 false (.mv 5),
 ag 78 76 false (.bin .neq 77 (.c (.int .i64 0))),
 ao 79 (.pick 76 (.c (.bool true)) 78),
 ao 80 (.mv 79),
 ag 81 80 false (.mv 4),
 ag 82 80 false (.len false 81),
 ag 83 80 false (.bin .neq 82 (.c (.int .i64 4))),
 ao 84 (.pick 80 (.c (.bool true)) 83),
 ao 85 (.mv 84),
 ag 86 85 false (.mv 4),
 ag 87 85 false (.ia 8 86 (.c (.int .i64 3))),
 .et 87 qb,
 ag 88 85 false (.fa 5 87),
 ag 89 85 false (.load false 1 88),
 ag 90 85 false (.bin .neq 89 (.c (.str [120]))),
 ao 91 (.pick 85 (.c (.bool true)) 90),
 ao 92 (.mv 91),
 ag 93 92 false (.mv 7),
 ag 94 92 false (.bin .neq 93 (.c (.int .i64 0))),
 ao 95 (.pick 92 (.c (.bool true)) 94),
 ao 96 (.mv 95),
 ag 97 96 false (.mv 6),
 ag 98 96 false (.len false 97),
 ag 99 96 false (.bin .neq 98 (.c (.int .i64 5))),
 ao 100 (.pick 96 (.c (.bool true)) 99),
 ao 101 (.mv 100),
 ag 102 101 false (.mv 6),
 ag 103 101 false (.ia 8 102 (.c (.int .i64 3))),
 .et 103 qb,
 ag 104 101 false (.fa 5 103),
 ag 105 101 false (.load false 1 104),
 ag 106 101 false (.bin .neq 105 (.c (.str [120, 45, 48]))),
 ao 107 (.pick 101 (.c (.bool true)) 106),
 ao 108 (.mv 107),
 ag 109 108 false (.mv 6),
 ag 110 108 false (.ia 8 109 (.c (.int .i64 4))),
 .et 110 qb,
 ag 111 108 false (.fa 0 110),
 ag 112 108 false (.load true 4 111),
 .call (pg 113 108 false (.call 50 [(.c (.int .u64 167870464)), (.c (.int .i64 17))])) 50 qgr,
 ag 114 108 false (.eq true true [.b, (.i .u64), (.i .u64), (.i .i64)] 112 113),
 ao 115 (.pick 108 (.c (.bool true)) 114),
 ao 116 (.mv 115),
 ag 117 116 false (.mv 9),
 ag 118 116 false (.bin .neq 117 (.c (.int .i64 0))),
 ao 119 (.pick 116 (.c (.bool true)) 118),
 ao 120 (.mv 119),
 ag 121 120 false (.mv 8),
 ag 122 120 false (.mv 4)] [.call (pg 123 120 false (.call 19 [121, 122])) 19 qjb,
 ag 124 120 false (.un .not 123),
 ao 125 (.pick 120 (.c (.bool true)) 124)]) (.view [.sel [1, 10, 11, 12, 13, 14, 15, 125] [0, 1]])
theorem qbcg : AC.ok Try.prog (TIof Try.prog) 177 0 (kret [.t 0] decB) qmw := qm (zA (qd.ok qbbn) (zA (qd.ok qma) (zA (qd.ok qov) (zA rfl trivial))))
theorem qbee (v1 : List AV) (v3 : Int) (v4 : List AV) (v5 : Int) (v6 : List AV) (v7 : Int) (v8 : List AV) (v9 : Int) (v11 v13 : Bool) (v14 v15 : List AV) (Ai : Bool) (Aj Ak Al Am : Int) (An Ao : List UInt8) (Ap : Int) (Au : Bool) (Av Aw Ax Bv : Int) (Bw Bx : List UInt8) (By : Int) (K : Ex → Env → Mem → Option Bool) : den 0 (kret [.t 0] decB) qmw (qh [(1, (.sl 8 v1)), (3, (.int .i64 v3)), (4, (.sl 8 v4)), (5, (.int .i64 v5)), (6, (.sl 8 v6)), (7, (.int .i64 v7)), (8, (.sl 8 v8)), (9, (.int .i64 v9)), (10, (.ptr 0 0)), (11, (.bool v11)), (12, (.ptr 1 0)), (13, (.bool v13)), (14, (.sl 8 v14)), (15, (.sl 4 v15))]) (qg [(some (.box true (qc Ai Aj Ak Al Am An Ao Ap))), (some (.box true (qc Au Av Aw Ax Bv Bw Bx By)))]) K = qow v1 v3 v4 v5 v6 v7 v8 v9 v11 v13 v14 v15 Ai Aj Ak Al Am An Ao Ap Au Av Aw Ax Bv Bw Bx By (qyl v1 v11 v13 v14 v15 Ai Aj Ak Al Am An Ao Ap Au Av Aw Ax Bv Bw Bx By K) := by
  rw [qym]; kernel_rfl
def qz9 := subE (R := Bool) qba8 fun t m K => qi (bxC (m.s 1)) (qi (bxC (m.s 0)) (qow (gL [t 1] 0) (gI [t 3] 0) (gL [t 4] 0) (gI [t 5] 0) (gL [t 6] 0) (gI [t 7] 0) (gL [t 8] 0) (gI [t 9] 0) (gB [t 11] 0) (gB [t 13] 0) (gL [t 14] 0) (gL [t 15] 0))) (qyl (gL [t 1] 0) (gB [t 11] 0) (gB [t 13] 0) (gL [t 14] 0) (gL [t 15] 0) (gB (bxC (m.s 0)) 0) (gI (bxC (m.s 0)) 1) (gI (bxC (m.s 0)) 2) (gI (bxC (m.s 0)) 3) (gI (bxC (m.s 0)) 4) (gS (bxC (m.s 0)) 5) (gS (bxC (m.s 0)) 6) (gI (bxC (m.s 0)) 7) (gB (bxC (m.s 1)) 0) (gI (bxC (m.s 1)) 1) (gI (bxC (m.s 1)) 2) (gI (bxC (m.s 1)) 3) (gI (bxC (m.s 1)) 4) (gS (bxC (m.s 1)) 5) (gS (bxC (m.s 1)) 6) (gI (bxC (m.s 1)) 7) K)
theorem qbef : qca Try.prog (TIof Try.prog) 177 0 (kret [.t 0] decB) (scOf qmw) (qz9) :=
  qet tabOk follows (qbcg) (qn (by kernel_rfl)) fun t m K => qbee _ _ _ _ _ _ _ _ _ _ _ _ _ _ _ _ _ _ _ _ _ _ _ _ _ _ _ _ K
def qbjh : Shp := ⟨[], []⟩
def qxw : Option Bool :=
  (oB (qnn) fun r1 => (oB (ixB r1 (1 : Int)) fun y2 => (bif fitC qb y2.cells then (oB (ql9 r1 (gB y2.cells 0) (gI y2.cells 1) (gI y2.cells 2) (gI y2.cells 3)) fun r3 => (oB (qg4 (167837696 : Int) (16 : Int)) fun r4 => (oB (qrb r1 (gB r4.cells 0) (gI r4.cells 1) (gI r4.cells 2) (gI r4.cells 3) (2 : Int) ([120] : List UInt8) ([] : List UInt8) (0 : Int)) fun r5 => (oB (qg4 (167837696 : Int) (16 : Int)) fun r6 => (oB (qno r5.1 (gB r6.cells 0) (gI r6.cells 1) (gI r6.cells 2) (gI r6.cells 3)) fun r7 => (oB (qg4 (167837696 : Int) (16 : Int)) fun r8 => (oB (qpc r7.1 (gB r8.cells 0) (gI r8.cells 1) (gI r8.cells 2) (gI r8.cells 3)) fun r9 => (oB (qg4 (167772166 : Int) (32 : Int)) fun r10 => (oB (qoc r1 (gB r10.cells 0) (gI r10.cells 1) (gI r10.cells 2) (gI r10.cells 3)) fun r11 => (oB (qod r1 false (0 : Int) (168361984 : Int)) fun r12 => (oB (ixB r1 (0 : Int)) fun y13 => (bif fitC qb y13.cells then (oB (qlw r1 (gB y13.cells 0) (gI y13.cells 1) (gI y13.cells 2) (gI y13.cells 3)) fun r14 => (oB (ixB r1 (0 : Int)) fun y15 => (bif fitC qb y15.cells then (oB (qsb r1 (gB y15.cells 0) (gI y15.cells 1) (gI y15.cells 2) (gI y15.cells 3)) fun r16 => (qow r1 r3.2 r5.1 r5.2 r7.1 r7.2 r9.1 r9.2 r11.2 r12.2 r14 r16 (gB r11.1.cells 0) (gI r11.1.cells 1) (gI r11.1.cells 2) (gI r11.1.cells 3) (gI r11.1.cells 4) (gS r11.1.cells 5) (gS r11.1.cells 6) (gI r11.1.cells 7) (gB r12.1.cells 0) (gI r12.1.cells 1) (gI r12.1.cells 2) (gI r12.1.cells 3) (gI r12.1.cells 4) (gS r12.1.cells 5) (gS r12.1.cells 6) (gI r12.1.cells 7) (fun v125q17 => (bif v125q17 then (some false) else (bif r11.2 then (oB (ixB r1 (1 : Int)) fun y18 => (bif fitC qb y18.cells then (bif (((gB r11.1.cells 0) == (gB y18.cells 0)) && (((gI r11.1.cells 1) == (gI y18.cells 1)) && (((gI r11.1.cells 2) == (gI y18.cells 2)) && (((gI r11.1.cells 3) == (gI y18.cells 3)) && (((gI r11.1.cells 4) == (gI y18.cells 4)) && (((gS r11.1.cells 5) == (gS y18.cells 5)) && (((gS r11.1.cells 6) == (gS y18.cells 6)) && (((gI r11.1.cells 7) == (gI y18.cells 7)) && true)))))))) then (bif r12.2 then (oB (ixB r1 (0 : Int)) fun y19 => (bif fitC qb y19.cells then (bif (((gB r12.1.cells 0) == (gB y19.cells 0)) && (((gI r12.1.cells 1) == (gI y19.cells 1)) && (((gI r12.1.cells 2) == (gI y19.cells 2)) && (((gI r12.1.cells 3) == (gI y19.cells 3)) && (((gI r12.1.cells 4) == (gI y19.cells 4)) && (((gS r12.1.cells 5) == (gS y19.cells 5)) && (((gS r12.1.cells 6) == (gS y19.cells 6)) && (((gI r12.1.cells 7) == (gI y19.cells 7)) && true)))))))) then (bif ((r14.length : Int) == (1 : Int)) then (oB (ixB r14 (0 : Int)) fun y20 => (bif fitC qb y20.cells then (oB (ixB r1 (1 : Int)) fun y21 => (bif fitC qb y21.cells then (bif (((gB y20.cells 0) == (gB y21.cells 0)) && (((gI y20.cells 1) == (gI y21.cells 1)) && (((gI y20.cells 2) == (gI y21.cells 2)) && (((gI y20.cells 3) == (gI y21.cells 3)) && (((gI y20.cells 4) == (gI y21.cells 4)) && (((gS y20.cells 5) == (gS y21.cells 5)) && (((gS y20.cells 6) == (gS y21.cells 6)) && (((gI y20.cells 7) == (gI y21.cells 7)) && true)))))))) then (bif ((r16.length : Int) == (16 : Int)) then (oB (ixB r16 (0 : Int)) fun y22 => (bif fitC qf y22.cells then (oB (qg4 (167772416 : Int) (24 : Int)) fun r23 => (bif (((gB y22.cells 0) == (gB r23.cells 0)) && (((gI y22.cells 1) == (gI r23.cells 1)) && (((gI y22.cells 2) == (gI r23.cells 2)) && (((gI y22.cells 3) == (gI r23.cells 3)) && true)))) then (oB (ixB r16 (15 : Int)) fun y24 => (bif fitC qf y24.cells then (oB (qg4 (176160768 : Int) (9 : Int)) fun r25 => (some (((gB y24.cells 0) == (gB r25.cells 0)) && (((gI y24.cells 1) == (gI r25.cells 1)) && (((gI y24.cells 2) == (gI r25.cells 2)) && (((gI y24.cells 3) == (gI r25.cells 3)) && true)))))) else none)) else (some false))) else none)) else (some false)) else (some false)) else none)) else none)) else (some false)) else (some false)) else none)) else (some false)) else (some false)) else none)) else (some false)))))) else none))) else none)))))))))))) else none)))
def qnc := hull qxw
theorem q6t : qnc = qxw := qj _
def qxx : AC Bool :=
  .seq (.reg [ao 0 (.mv (.c (.bool false)))]) (.seq (.reg [.callc (po 16 (.call 49 [])) 49 qzn,
 ao 1 (.mv 16)]) (.seq (.reg [ao 18 (.mv 1),
 ao 19 (.mv 1),
 ao 20 (.ia 8 19 (.c (.int .i64 1))),
 .st (.etac 20 qb),
 ao 21 (.fa 0 20),
 ao 22 (.load true 4 21),
 .callc (po 23 (.call 17 [18, 22])) 17 qvt,
 ao 17 (.mv 23),
 ao 24 (.ext 17 0),
 ao 25 (.ext 17 1),
 ao 2 (.mv 24),
 ao 3 (.mv 25)]) (.seq (.reg [ao 27 (.mv 1),
 .call (po 28 (.call 50 [(.c (.int .u64 167837696)), (.c (.int .i64 16))])) 50 qgr,
 ao 29 (.build [(.bool false), (.int .u64 0), (.int .u64 0), (.int .i64 0), (.int .i64 0), (.str []), (.str []), (.int .i64 0)] [(0, (4, 28)), (4, (1, (.c (.int .i64 2)))), (5, (1, (.c (.str [120]))))]),
 .callc (po 30 (.call 15 [27, 29])) 15 q2q,
 ao 26 (.mv 30),
 ao 31 (.ext 26 0),
 ao 32 (.ext 26 1),
 ao 4 (.mv 31),
 ao 5 (.mv 32)]) (.seq (.reg [ao 34 (.mv 4),
 .call (po 35 (.call 50 [(.c (.int .u64 167837696)), (.c (.int .i64 16))])) 50 qgr,
 .callc (po 36 (.call 20 [34, 35])) 20 qxt,
 ao 33 (.mv 36),
 ao 37 (.ext 33 0),
 ao 38 (.ext 33 1),
 ao 6 (.mv 37),
 ao 7 (.mv 38)]) (.seq (.reg [ao 40 (.mv 6),
 .call (po 41 (.call 50 [(.c (.int .u64 167837696)), (.c (.int .i64 16))])) 50 qgr,
 .callc (po 42 (.call 22 [40, 41])) 22 qzz,
 ao 39 (.mv 42),
 ao 43 (.ext 39 0),
 ao 44 (.ext 39 1),
 ao 8 (.mv 43),
 ao 9 (.mv 44)]) (.seq (.reg [ao 46 (.mv 1),
 .call (po 47 (.call 50 [(.c (.int .u64 167772166)), (.c (.int .i64 32))])) 50 qgr,
 .call (po 48 (.call 26 [46, 47])) 26 q6n,
 ao 45 (.mv 48),
 ao 49 (.ext 45 0),
 ao 50 (.ext 45 1),
 ao 10 (.alloc [(.bool false), (.int .u64 0), (.int .u64 0), (.int .i64 0), (.int .i64 0), (.str []), (.str []), (.int .i64 0)]),
 an (.store 8 10 49),
 ao 11 (.mv 50)]) (.seq (.reg [ao 52 (.mv 1),
 ao 53 (.build [(.bool false), (.int .u64 0), (.int .u64 0)] [(2, (1, (.c (.int .u64 168361984))))]),
 .call (po 54 (.call 28 [52, 53])) 28 q6p,
 ao 51 (.mv 54),
 ao 55 (.ext 51 0),
 ao 56 (.ext 51 1),
 ao 12 (.alloc [(.bool false), (.int .u64 0), (.int .u64 0), (.int .i64 0), (.int .i64 0), (.str []), (.str []), (.int .i64 0)]),
 an (.store 8 12 55),
 ao 13 (.mv 56)]) (.seq (.reg [ao 57 (.mv 1),
 ao 58 (.mv 1),
 ao 59 (.ia 8 58 (.c (.int .i64 0))),
 .st (.etac 59 qb),
 ao 60 (.fa 0 59),
 ao 61 (.load true 4 60),
 .callc (po 62 (.call 30 [57, 61])) 30 q1p,
 ao 14 (.mv 62)]) (.seq (.reg [ao 63 (.mv 1),
 ao 64 (.mv 1),
 ao 65 (.ia 8 64 (.c (.int .i64 0))),
 .st (.etac 65 qb),
 ao 66 (.fa 0 65),
 ao 67 (.load true 4 66),
 .callc (po 68 (.call 33 [63, 67])) 33 q92,
 ao 15 (.mv 68)]) (.seq (.seq (.seq (.view [.sel [1, 3, 4, 5, 6, 7, 8, 9, 10, 11, 12, 13, 14, 15] [0, 1]]) (.sub (scOf qmw) qz9)) (.cond 125 (.seq (.reg [ao 0 (.mv (.c (.bool false)))]) (.ret)) (.skip))) (.seq (.draw [] [ao 126 (.mv 11),
 ao 127 (.mv 126),
 ag 128 127 true (.load true 8 10),
 ag 129 127 true (.mv 1),
 ag 130 127 true (.ia 8 129 (.c (.int .i64 1))),
 .et 130 qb,
 ag 131 127 true (.load true 8 130),
 ag 132 127 true (.eq false true [.b, (.i .u64), (.i .u64), (.i .i64), (.i .i64), .s, .s, (.i .i64)] 128 131),
 ao 133 (.pick 127 132 (.c (.bool false))),
 ao 134 (.mv 133),
 ag 135 134 true (.mv 13),
 ao 136 (.pick 134 135 (.c (.bool false))),
 ao 137 (.mv 136),
 ag 138 137 true (.load true 8 12),
 ag 139 137 true (.mv 1),
 ag 140 137 true (.ia 8 139 (.c (.int .i64 0))),
 .et 140 qb,
 ag 141 137 true (.load true 8 140),
 ag 142 137 true (.eq false true [.b, (.i .u64), (.i .u64), (.i .i64), (.i .i64), .s, .s, (.i .i64)] 138 141),
 ao 143 (.pick 137 142 (.c (.bool false))),
 ao 144 (.mv 143),
 ag 145 144 true (.mv 14),
 ag 146 144 true (.len false 145),
 ag 147 144 true (.bin .eql 146 (.c (.int .i64 1))),
 ao 148 (.pick 144 147 (.c (.bool false))),
 ao 149 (.mv 148),
 ag 150 149 true (.mv 14),
 ag 151 149 true (.ia 8 150 (.c (.int .i64 0))),
 .et 151 qb,
 ag 152 149 true (.load true 8 151),
 ag 153 149 true (.mv 1),
 ag 154 149 true (.ia 8 153 (.c (.int .i64 1))),
 .et 154 qb,
 ag 155 149 true (.load true 8 154),
 ag 156 149 true (.eq false true [.b, (.i .u64), (.i .u64), (.i .i64), (.i .i64), .s, .s, (.i .i64)] 152 155),
 ao 157 (.pick 149 156 (.c (.bool false))),
 ao 158 (.mv 157),
 ag 159 158 true (.mv 15),
 ag 160 158 true (.len false 159),
 ag 161 158 true (.bin .eql 160 (.c (.int .i64 16))),
 ao 162 (.pick 158 161 (.c (.bool false))),
 ao 163 (.mv 162),
 ag 164 163 true (.mv 15),
 ag 165 163 true (.ia 4 164 (.c (.int .i64 0))),
 .et 165 qf,
 ag 166 163 true (.load true 4 165),
 .call (pg 167 163 true (.call 50 [(.c (.int .u64 167772416)), (.c (.int .i64 24))])) 50 qgr,
 ag 168 163 true (.eq false true [.b, (.i .u64), (.i .u64), (.i .i64)] 166 167),
 ao 169 (.pick 163 168 (.c (.bool false))),
 ao 170 (.mv 169),
 ag 171 170 true (.mv 15),
 ag 172 170 true (.ia 4 171 (.c (.int .i64 15))),
 .et 172 qf,
 ag 173 170 true (.load true 4 172),
 .call (pg 174 170 true (.call 50 [(.c (.int .u64 176160768)), (.c (.int .i64 9))])) 50 qgr] [ag 175 170 true (.eq false true [.b, (.i .u64), (.i .u64), (.i .i64)] 173 174),
 ao 176 (.pick 170 175 (.c (.bool false))),
 ao 0 (.mv 176)]) (.ret))))))))))))
theorem qbnv : AC.ok Try.prog (TIof Try.prog) 177 0 (kret [.t 0] decB) qxx := qm (zA (qd.ok qbit) (zA (qd.ok q90) (zA (qd.ok qma) (zA (qd.ok qbi3) (zA (qd.ok qma) (zA (qd.ok qbb0) (zA (qd.ok qma) (zA (qd.ok qbfy) (zA (qd.ok qma) (zA (qd.ok qbsv) (zA (qd.ok qbsz) (zA (qd.ok qbnp) (zA (qd.ok qbyy) (zA qbef (zA (qd.ok qma) (zA (qd.ok qma) (zA rfl trivial)))))))))))))))))
theorem qbqn : den 0 (kret [.t 0] decB) qxx (qh []) (qg []) (kend (kret [.t 0] decB)) = qnc := by
  rw [q6t]; kernel_rfl
theorem qbqo : cFn (TIof Try.prog) Try.f13 = some ⟨177, [.t 0], scOf qxx⟩ := by kernel_rfl
def qbqp (xs : List AV) : Option Bool := qnc
def qui {R : Type} : List AV → (AV → Option R) → Option R := entF qbjh qbqp AV.bool
theorem q8h {R : Type} : qd Try.prog 13 (qui (R := R)) :=
  qz tabOk follows Try.func13 (by kernel_rfl) qbqo hdeB qbnv (qn (by kernel_rfl)) fun xs => qbqn
def qbqq : Shp := ⟨[(0, .st (lk qb))], []⟩
def q2u (Aa : Bool) (Ab Ac Ad Ae : Int) (Af Ag : List UInt8) (Ah : Int) : Option AV :=
  (oB (cutI Af none (some (if (100 : Int) < (Af.length : Int) then (100 : Int) else (Af.length : Int)))) fun s1 => (oB (cutI Ag none (some (if (100 : Int) < (Ag.length : Int) then (100 : Int) else (Ag.length : Int)))) fun s2 => (some (.agg [(.bool Aa), (.int .u64 Ab), (.int .u64 Ac), (.int .i64 Ad), (.int .i64 Ae), (.str s1), (.str s2), (.int .i64 Ah)]))))
def quj := hull q2u
theorem q93 : quj = q2u := qj _
def q2v : AC AV :=
  .seq (.reg [ao 1 (.box 0),
 ao 2 (.alloc [(.bool false), (.int .u64 0), (.int .u64 0), (.int .i64 0), (.int .i64 0), (.str []), (.str []), (.int .i64 0)])]) (.seq (.reg [ao 3 (.fa 5 1),
 ao 4 (.load false 1 3),
 ao 5 (.fa 5 1),
 ao 6 (.load false 1 5),
 ao 7 (.len true 6),
 ao 8 (.mm false 7 [(.c (.int .i64 100))]),
 ao 9 (.slcs 4 none (some 8)),
 ao 10 (.fa 5 1),
 an (.store 1 10 9)]) (.seq (.reg [ao 11 (.fa 6 1),
 ao 12 (.load false 1 11),
 ao 13 (.fa 6 1),
 ao 14 (.load false 1 13),
 ao 15 (.len true 14),
 ao 16 (.mm false 15 [(.c (.int .i64 100))]),
 ao 17 (.slcs 12 none (some 16)),
 ao 18 (.fa 6 1),
 an (.store 1 18 17)]) (.seq (.reg [ao 19 (.load true 8 1),
 an (.store 8 2 19)]) (.ret))))
theorem qbs4 : AC.ok Try.prog (TIof Try.prog) 20 0 (kret [(.cell 2 true 8)] (decT [.b, (.i .u64), (.i .u64), (.i .i64), (.i .i64), .s, .s, (.i .i64)])) q2v := qm trivial
theorem qbvy (Aa : Bool) (Ab Ac Ad Ae : Int) (Af Ag : List UInt8) (Ah : Int) : den 0 (kret [(.cell 2 true 8)] (decT [.b, (.i .u64), (.i .u64), (.i .i64), (.i .i64), .s, .s, (.i .i64)])) q2v (qh [(0, .agg (qc Aa Ab Ac Ad Ae Af Ag Ah))]) (qg []) (kend (kret [(.cell 2 true 8)] (decT [.b, (.i .u64), (.i .u64), (.i .i64), (.i .i64), .s, .s, (.i .i64)]))) = quj Aa Ab Ac Ad Ae Af Ag Ah := by
  rw [q93]; kernel_rfl
theorem qbvz : cFn (TIof Try.prog) Try.f14 = some ⟨20, [(.cell 2 true 8)], scOf q2v⟩ := by kernel_rfl
def qbv0 (xs : List AV) : Option AV := qi ((qk xs) 0).cells (quj)
def q8i {R : Type} : List AV → (AV → Option R) → Option R := entF qbqq qbv0 (ql5 (.st [.b, (.i .u64), (.i .u64), (.i .i64), (.i .i64), .s, .s, (.i .i64)]))
theorem qbv1 {R : Type} : qd Try.prog 14 (q8i (R := R)) :=
  qz tabOk follows Try.func14 (by kernel_rfl) qbvz hdeT qbs4 (qn (by kernel_rfl)) fun xs => qbvy _ _ _ _ _ _ _ _
def qfg (z : AV) : Option (AV × Bool) := cond (qgm [(.st [.b, (.i .u64), (.i .u64), (.i .i64), (.i .i64), .s, .s, (.i .i64)]), (.one .b)] z) (some ((gC (tpL z) 0), aB (gC (tpL z) 1))) none
def qbnw (r : AV × Bool) : AV := .tup [ql5 (.st [.b, (.i .u64), (.i .u64), (.i .i64), (.i .i64), .s, .s, (.i .i64)]) r.1, .bool r.2]
def qmx  (Au : Bool) (Av Aw Ax Bv : Int) (Bw Bx : List UInt8) (By : Int) (K : Ex → Env → Mem → Option (AV × Bool)) := (fun (_ : Unit) => K (.exit 0) (qh [(4, (.ptr 0 0))]) (qg [(some (.box true (qc Au Av Aw Ax Bv Bw Bx By)))]))
def qbeg : Shp := ⟨[(0, .one (.l (.sl 8))), (3, .one (.ptr 0 0)), (4, .one (.ptr 1 0)), (6, .one (.l (.i .i64)))], [.box true (lk qf), .box true (lk qb)]⟩
def qsu (v0 : List AV) (v6 : Int) (Ai : Bool) (Aj Ak Al : Int) (Au : Bool) (Av Aw Ax Bv : Int) (Bw Bx : List UInt8) (By : Int) : Env := qh [(0, (.sl 8 v0)), (3, (.ptr 0 0)), (4, (.ptr 1 0)), (6, (.int .i64 v6))]
def qsv (v0 : List AV) (v6 : Int) (Ai : Bool) (Aj Ak Al : Int) (Au : Bool) (Av Aw Ax Bv : Int) (Bw Bx : List UInt8) (By : Int) : Mem := qg [(some (.box true (qa Ai Aj Ak Al))), (some (.box true (qc Au Av Aw Ax Bv Bw Bx By)))]
def qhr  (v0 : List AV) (v6 : Int) (Ai : Bool) (Aj Ak Al : Int) (Au : Bool) (Av Aw Ax Bv : Int) (Bw Bx : List UInt8) (By : Int) (next : Int → Option (AV × Bool)) (kx0 : Unit → Option (AV × Bool)) : Option (AV × Bool) :=
  (bif (decide (v6 < (v0.length : Int))) then (oB (ixB v0 v6) fun y1 => (bif fitC qb y1.cells then (bif (((gB y1.cells 0) == Ai) && (((gI y1.cells 1) == Aj) && (((gI y1.cells 2) == Ak) && (((gI y1.cells 3) == Al) && true)))) then (oB (ixB v0 v6) fun y2 => (bif fitC qb y2.cells then (some ((.agg [(.bool (gB y2.cells 0)), (.int .u64 (gI y2.cells 1)), (.int .u64 (gI y2.cells 2)), (.int .i64 (gI y2.cells 3)), (.int .i64 (gI y2.cells 4)), (.str (gS y2.cells 5)), (.str (gS y2.cells 6)), (.int .i64 (gI y2.cells 7))]), true)) else none)) else (next (IntKind.i64.wrap (v6 + (1 : Int))))) else none)) else (kx0 ()))
def qox  (v0 : List AV) (Ai : Bool) (Aj Ak Al : Int) (Au : Bool) (Av Aw Ax Bv : Int) (Bw Bx : List UInt8) (By : Int) (kx0 : Unit → Option (AV × Bool)) : Nat → Int → Option (AV × Bool)
  | 0 => (fun _ => none)
  | n + 1 => (fun v6 => qhr v0 v6 Ai Aj Ak Al Au Av Aw Ax Bv Bw Bx By (qox v0 Ai Aj Ak Al Au Av Aw Ax Bv Bw Bx By kx0 n) kx0)
def qnr := hull (qox)
theorem q1r : qnr = qox := qj _
def qhs : AC (AV × Bool) :=
  .seq (.seq (.reg [ao 7 (.mv 6),
 ao 8 (.mv 0),
 ao 9 (.len false 8),
 ao 10 (.bin .lss 7 9)]) (.cond 10 (.skip) (.seq (.view [.sel [4] [1]]) (.exit 0)))) (.seq (.block 1 (.seq (.draw [] [ao 13 (.mv 0),
 ao 14 (.mv 6),
 ao 15 (.ia 8 13 14),
 .et 15 qb,
 ao 16 (.fa 0 15),
 ao 17 (.load true 4 16),
 ao 18 (.load true 4 3)] [ao 19 (.eq false true [.b, (.i .u64), (.i .u64), (.i .i64)] 17 18)]) (.cond 19 (.seq (.reg [ao 20 (.mv 0),
 ao 21 (.mv 6),
 ao 22 (.ia 8 20 21),
 .st (.etac 22 qb),
 ao 23 (.load true 8 22),
 an (.store 8 4 23),
 ao 5 (.mv (.c (.bool true)))]) (.ret)) (.skip)))) (.seq (.reg [ao 11 (.mv 6),
 ao 12 (.bin .add 11 (.c (.int .i64 1))),
 ao 6 (.mv 12)]) (.view [.sel [0, 3, 4, 6] [0, 1]])))
theorem qbg8 : AC.ok Try.prog (TIof Try.prog) 25 0 (kret [(.cell 4 true 8), .t 5] qfg) qhs := qm (zA rfl trivial)
theorem qbeh (v0 : List AV) (v6 : Int) (Ai : Bool) (Aj Ak Al : Int) (Au : Bool) (Av Aw Ax Bv : Int) (Bw Bx : List UInt8) (By : Int) (K : Ex → Env → Mem → Option (AV × Bool)) : den 0 (kret [(.cell 4 true 8), .t 5] qfg) qhs (qsu v0 v6 Ai Aj Ak Al Au Av Aw Ax Bv Bw Bx By) (qsv v0 v6 Ai Aj Ak Al Au Av Aw Ax Bv Bw Bx By) K = qhr v0 v6 Ai Aj Ak Al Au Av Aw Ax Bv Bw Bx By (fun z_v6 => K .norm (qsu v0 z_v6 Ai Aj Ak Al Au Av Aw Ax Bv Bw Bx By) (qsv v0 z_v6 Ai Aj Ak Al Au Av Aw Ax Bv Bw Bx By)) (qmx Au Av Aw Ax Bv Bw Bx By K) := by kernel_rfl
theorem qbji (v0 : List AV) (Ai : Bool) (Aj Ak Al : Int) (Au : Bool) (Av Aw Ax Bv : Int) (Bw Bx : List UInt8) (By : Int) (K : Ex → Env → Mem → Option (AV × Bool)) : ∀ (n : Nat) (v6 : Int), qe5 (den 0 (kret [(.cell 4 true 8), .t 5] qfg) qhs) n (qsu v0 v6 Ai Aj Ak Al Au Av Aw Ax Bv Bw Bx By) (qsv v0 v6 Ai Aj Ak Al Au Av Aw Ax Bv Bw Bx By) K = qnr v0 Ai Aj Ak Al Au Av Aw Ax Bv Bw Bx By (qmx Au Av Aw Ax Bv Bw Bx By K) n v6 := by
  rw [q1r]
  intro n
  induction n with
  | zero => intros; rfl
  | succ n ih =>
 intro v6
 exact (qbeh v0 v6 Ai Aj Ak Al Au Av Aw Ax Bv Bw Bx By (itK (den 0 (kret [(.cell 4 true 8), .t 5] qfg) qhs) n K)).trans (congrArg (fun q => qhr v0 v6 Ai Aj Ak Al Au Av Aw Ax Bv Bw Bx By q (qmx Au Av Aw Ax Bv Bw Bx By K)) (funext fun v6 => ih v6))
def q4p := subE (R := AV × Bool) qbeg fun t m K => qi (bxC (m.s 1)) (qe (bxC (m.s 0)) (qnr (gL [t 0] 0))) (qmx (gB (bxC (m.s 1)) 0) (gI (bxC (m.s 1)) 1) (gI (bxC (m.s 1)) 2) (gI (bxC (m.s 1)) 3) (gI (bxC (m.s 1)) 4) (gS (bxC (m.s 1)) 5) (gS (bxC (m.s 1)) 6) (gI (bxC (m.s 1)) 7) K) FU (gI [t 6] 0)
theorem qbjj : qca Try.prog (TIof Try.prog) 25 0 (kret [(.cell 4 true 8), .t 5] qfg) (.loop (scOf qhs)) (q4p) :=
  qen tabOk follows (qbg8) (qn (by kernel_rfl)) fun t m K => qbji _ _ _ _ _ _ _ _ _ _ _ _ _ K FU _
def qbnx : Shp := ⟨[(0, .one (.l (.sl 8))), (1, .st (lk qf))], []⟩
def q0a (v0 : List AV) (Aq : Bool) (Ar As At : Int) : Option (AV × Bool) :=
  (qnr v0 Aq Ar As At false (0 : Int) (0 : Int) (0 : Int) (0 : Int) ([] : List UInt8) ([] : List UInt8) (0 : Int) (fun (_ : Unit) => (some ((.agg [(.bool false), (.int .u64 (0 : Int)), (.int .u64 (0 : Int)), (.int .i64 (0 : Int)), (.int .i64 (0 : Int)), (.str ([] : List UInt8)), (.str ([] : List UInt8)), (.int .i64 (0 : Int))]), false))) FU (0 : Int))
def qf7 := hull q0a
theorem q8j : qf7 = q0a := qj _
def q0b : AC (AV × Bool) :=
  .seq (.reg [ao 3 (.box 1),
 ao 4 (.alloc [(.bool false), (.int .u64 0), (.int .u64 0), (.int .i64 0), (.int .i64 0), (.str []), (.str []), (.int .i64 0)]),
 ao 5 (.mv (.c (.bool false)))]) (.seq (.seq (.reg [ao 6 (.mv (.c (.int .i64 0)))]) (.block 0 (.seq (.view [.sel [0, 3, 4, 6] [0, 1]]) (.sub (.loop (scOf qhs)) q4p)))) (.seq (.reg [ao 24 (.build [(.bool false), (.int .u64 0), (.int .u64 0), (.int .i64 0), (.int .i64 0), (.str []), (.str []), (.int .i64 0)] []),
 an (.store 8 4 24),
 ao 5 (.mv (.c (.bool false)))]) (.ret)))
theorem qbqr : AC.ok Try.prog (TIof Try.prog) 25 0 (kret [(.cell 4 true 8), .t 5] qfg) q0b := qm (zA qbjj trivial)
theorem qbs5 (v0 : List AV) (Aq : Bool) (Ar As At : Int) : den 0 (kret [(.cell 4 true 8), .t 5] qfg) q0b (qh [(0, (.sl 8 v0)), (1, .agg (qa Aq Ar As At))]) (qg []) (kend (kret [(.cell 4 true 8), .t 5] qfg)) = qf7 v0 Aq Ar As At := by
  rw [q8j]; kernel_rfl
theorem qbs6 : cFn (TIof Try.prog) Try.f25 = some ⟨25, [(.cell 4 true 8), .t 5], scOf q0b⟩ := by kernel_rfl
def qbs7 (xs : List AV) : Option (AV × Bool) := qe ((qk xs) 1).cells (qf7 (gL [(qk xs) 0] 0))
def qgp {R : Type} : List AV → (AV → Option R) → Option R := entF qbnx qbs7 qbnw
theorem qly {R : Type} : qd Try.prog 25 (qgp (R := R)) :=
  qz tabOk follows Try.func25 (by kernel_rfl) qbs6 (fun z r h => by
 obtain ⟨h1, h2⟩ := qo h
 cases h2
 exact (qds h1).symm) qbqr (qn (by kernel_rfl)) fun xs => qbs5 _ _ _ _ _
end
end Go.Proofs.Ytmjdngnagiloeaa.Dn
