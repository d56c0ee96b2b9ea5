import Derived.Test.YtmjdngnagiloeaaProg
import Derived.Test.YtmjdngnagiloeaaBlLibD
import Derived.Test.YtmjdngnagiloeaaBlDn46x1
set_option linter.all false
namespace Go.Proofs.Ytmjdngnagiloeaa.Dn
open Go Go.Pev
set_option linter.unusedVariables false
set_option linter.unusedSimpArgs false
set_option maxRecDepth 100000
set_option maxHeartbeats 4000000
def qdk (z : AV) : Option (AV × Bool) := cond (qmv [(.st [.b, (.i .u64), (.i .u64), (.i .i64)]), (.one .b)] z) (some ((gC (tpL z) 0), aB (gC (tpL z) 1))) none
def qbgu (r : AV × Bool) : AV := .tup [qoa (.st [.b, (.i .u64), (.i .u64), (.i .i64)]) r.1, .bool r.2]
def q0o  (v1 v2 : Int) (Ai : Bool) (Aj Ak Al : Int) (Au : Bool) (Av Aw Ax : Int) (K : Ex → Env → Mem → Option (AV × Bool)) := (fun z_v28 => K .norm (qk [(1, (.int .i64 v1)), (2, (.int .u64 v2)), (3, (.ptr 0 0)), (6, (.ptr 1 0)), (28, (.bool z_v28))]) (qi [(some (.box true (qc Ai Aj Ak Al))), (some (.box true (qc Au Av Aw Ax)))]))
def q90 : Shp := ⟨[(1, .one (.l (.i .i64))), (2, .one (.l (.i .u64))), (3, .one (.ptr 0 0)), (6, .one (.ptr 1 0))], [.box true (lk qe), .box true (lk qe)]⟩
noncomputable section
def qt1  (v1 v2 : Int) (Ai : Bool) (Aj Ak Al : Int) (Au : Bool) (Av Aw Ax : Int) (kn : Bool → Option (AV × Bool)) : Option (AV × Bool) :=
  (oB (qfu Ai Aj Ak Al) fun r1 => (bif ((!r1) || (decide (v1 < Al))) then (kn true) else (oB (qjf Ai Aj Ak) fun r2 => (kn (decide (v1 > r2))))))
def qof := hull (qt1)
theorem q0p : qof = qt1 := ql _
def qo3 : AC (AV × Bool) :=
  .seq (.reg [ao 13 (.load true 4 3),
 .call (po 14 (.call 71 [13])) 71 qfv,
 ao 15 (.un .not 14),
 ao 16 (.mv 15),
 .grp 16 false [(pg 17 16 false (.mv 1)), (pg 18 16 false (.fa 3 3)), (pg 19 16 false (.load false 1 18)), (pg 20 16 false (.bin .lss 17 19))] 21 20,
 ao 22 (.mv 21),
 ag 23 22 false (.mv 1),
 ag 24 22 false (.fa 0 3),
 ag 25 22 false (.load true 3 24),
 .call (pg 26 22 false (.call 76 [25])) 76 qlx,
 ag 27 22 false (.bin .gtr 23 26),
 ao 28 (.pick 22 (.c (.bool true)) 27)]) (.view [.sel [1, 2, 3, 6, 28] [0, 1]])
theorem qbcp : AC.ok Try.prog (TIof Try.prog) 81 0 (kret [(.cell 6 true 4), .t 7] qdk) qo3 := qp (zA (qd.ok qj9) (zA (qd.ok qqj) trivial))
theorem qbe0 (v1 v2 : Int) (Ai : Bool) (Aj Ak Al : Int) (Au : Bool) (Av Aw Ax : Int) (K : Ex → Env → Mem → Option (AV × Bool)) : den 0 (kret [(.cell 6 true 4), .t 7] qdk) qo3 (qk [(1, (.int .i64 v1)), (2, (.int .u64 v2)), (3, (.ptr 0 0)), (6, (.ptr 1 0))]) (qi [(some (.box true (qc Ai Aj Ak Al))), (some (.box true (qc Au Av Aw Ax)))]) K = qof v1 v2 Ai Aj Ak Al Au Av Aw Ax (q0o v1 v2 Ai Aj Ak Al Au Av Aw Ax K) := by
  rw [q0p]; kernel_rfl
def q2f := subE (R := AV × Bool) q90 fun t m K => qh (bxC (m.s 1)) (qh (bxC (m.s 0)) (qof (gI [t 1] 0) (gI [t 2] 0))) (q0o (gI [t 1] 0) (gI [t 2] 0) (gB (bxC (m.s 0)) 0) (gI (bxC (m.s 0)) 1) (gI (bxC (m.s 0)) 2) (gI (bxC (m.s 0)) 3) (gB (bxC (m.s 1)) 0) (gI (bxC (m.s 1)) 1) (gI (bxC (m.s 1)) 2) (gI (bxC (m.s 1)) 3) K)
theorem qbe1 : qdb Try.prog (TIof Try.prog) 81 0 (kret [(.cell 6 true 4), .t 7] qdk) (scOf qo3) (q2f) :=
  qis tabOk follows (qbcp) (qy (by kernel_rfl)) fun t m K => qbe0 _ _ _ _ _ _ _ _ _ _ K
def qyl  (v1 v2 : Int) (Ai : Bool) (Aj Ak Al : Int) (Au : Bool) (Av Aw Ax : Int) (K : Ex → Env → Mem → Option (AV × Bool)) := (fun z_v42 => K .norm (qk [(1, (.int .i64 v1)), (2, (.int .u64 v2)), (3, (.ptr 0 0)), (6, (.ptr 1 0)), (42, (.bool z_v42))]) (qi [(some (.box true (qc Ai Aj Ak Al))), (some (.box true (qc Au Av Aw Ax)))]))
def q8v : Shp := ⟨[(1, .one (.l (.i .i64))), (2, .one (.l (.i .u64))), (3, .one (.ptr 0 0)), (6, .one (.ptr 1 0)), (8, .one (.l (.i .i64)))], [.box true (lk qe), .box true (lk qe)]⟩
def qn0  (v1 v2 v8 : Int) (Ai : Bool) (Aj Ak Al : Int) (Au : Bool) (Av Aw Ax : Int) (kn : Bool → Option (AV × Bool)) : Option (AV × Bool) :=
  (bif (decide (v8 < (64 : Int))) then (bif decide ((IntKind.u64.wrap v8) < 0) then none else (kn ((v2.fdiv (2 ^ min (IntKind.u64.wrap v8).toNat IntKind.u64.bits)) != (0 : Int)))) else (kn false))
def qqn := hull (qn0)
theorem qro : qqn = qn0 := ql _
def qn1 : AC (AV × Bool) :=
  .seq (.reg [ao 34 (.mv 8),
 ao 35 (.bin .lss 34 (.c (.int .i64 64))),
 ao 36 (.mv 35),
 ag 37 36 true (.mv 2),
 ag 38 36 true (.mv 8),
 ag 39 36 true (.conv (.int .u64) 38),
 ag 40 36 true (.bin .shr 37 39),
 ag 41 36 true (.bin .neq 40 (.c (.int .u64 0))),
 ao 42 (.pick 36 41 (.c (.bool false)))]) (.view [.sel [1, 2, 3, 6, 42] [0, 1]])
theorem q91 : AC.ok Try.prog (TIof Try.prog) 81 0 (kret [(.cell 6 true 4), .t 7] qdk) qn1 := qp trivial
theorem qbcq (v1 v2 v8 : Int) (Ai : Bool) (Aj Ak Al : Int) (Au : Bool) (Av Aw Ax : Int) (K : Ex → Env → Mem → Option (AV × Bool)) : den 0 (kret [(.cell 6 true 4), .t 7] qdk) qn1 (qk [(1, (.int .i64 v1)), (2, (.int .u64 v2)), (3, (.ptr 0 0)), (6, (.ptr 1 0)), (8, (.int .i64 v8))]) (qi [(some (.box true (qc Ai Aj Ak Al))), (some (.box true (qc Au Av Aw Ax)))]) K = qqn v1 v2 v8 Ai Aj Ak Al Au Av Aw Ax (qyl v1 v2 Ai Aj Ak Al Au Av Aw Ax K) := by
  rw [qro]; kernel_rfl
def q0q := subE (R := AV × Bool) q8v fun t m K => qh (bxC (m.s 1)) (qh (bxC (m.s 0)) (qqn (gI [t 1] 0) (gI [t 2] 0) (gI [t 8] 0))) (qyl (gI [t 1] 0) (gI [t 2] 0) (gB (bxC (m.s 0)) 0) (gI (bxC (m.s 0)) 1) (gI (bxC (m.s 0)) 2) (gI (bxC (m.s 0)) 3) (gB (bxC (m.s 1)) 0) (gI (bxC (m.s 1)) 1) (gI (bxC (m.s 1)) 2) (gI (bxC (m.s 1)) 3) K)
theorem qbcr : qdb Try.prog (TIof Try.prog) 81 0 (kret [(.cell 6 true 4), .t 7] qdk) (scOf qn1) (q0q) :=
  qis tabOk follows (q91) (qy (by kernel_rfl)) fun t m K => qbcq _ _ _ _ _ _ _ _ _ _ _ K
def qym  (v1 : Int) (Ai : Bool) (Aj Ak Al : Int) (Au : Bool) (Av Aw Ax : Int) (K : Ex → Env → Mem → Option (AV × Bool)) := (fun z_v10 z_v11 => K .norm (qk [(1, (.int .i64 v1)), (3, (.ptr 0 0)), (6, (.ptr 1 0)), (10, (.int .u64 z_v10)), (11, (.int .u64 z_v11))]) (qi [(some (.box true (qc Ai Aj Ak Al))), (some (.box true (qc Au Av Aw Ax)))]))
def q8w : Shp := ⟨[(1, .one (.l (.i .i64))), (2, .one (.l (.i .u64))), (3, .one (.ptr 0 0)), (6, .one (.ptr 1 0)), (9, .one (.l (.i .u64))), (10, .one (.l (.i .u64))), (11, .one (.l (.i .u64)))], [.box true (lk qe), .box true (lk qe)]⟩
def qn2  (v1 v2 v9 v10 v11 : Int) (Ai : Bool) (Aj Ak Al : Int) (Au : Bool) (Av Aw Ax : Int) (kn : Int → Int → Option (AV × Bool)) : Option (AV × Bool) :=
  (bif (decide (v9 ≥ (64 : Int))) then (bif decide ((IntKind.u64.wrap (v9 - (64 : Int))) < 0) then none else (kn (IntKind.u64.wrap (v2 * 2 ^ min (IntKind.u64.wrap (v9 - (64 : Int))).toNat IntKind.u64.bits)) (0 : Int))) else (bif (decide (v9 > (0 : Int))) then (bif decide ((IntKind.u64.wrap ((64 : Int) - v9)) < 0) then none else (bif decide (v9 < 0) then none else (kn (v2.fdiv (2 ^ min (IntKind.u64.wrap ((64 : Int) - v9)).toNat IntKind.u64.bits)) (IntKind.u64.wrap (v2 * 2 ^ min v9.toNat IntKind.u64.bits))))) else (kn v10 v11)))
def qip := hull (qn2)
theorem qrp : qip = qn2 := ql _
def qn3 : AC (AV × Bool) :=
  .seq (.reg [ao 51 (.mv 9),
 ao 52 (.bin .geq 51 (.c (.int .u64 64)))]) (.cond 52 (.seq (.reg [ao 53 (.mv 2),
 ao 54 (.mv 9),
 ao 55 (.bin .sub 54 (.c (.int .u64 64))),
 ao 56 (.bin .shl 53 55),
 ao 10 (.mv 56),
 ao 11 (.mv (.c (.int .u64 0)))]) (.view [.sel [1, 3, 6, 10, 11] [0, 1]])) (.seq (.reg [ao 57 (.mv 9),
 ao 58 (.bin .gtr 57 (.c (.int .u64 0)))]) (.cond 58 (.seq (.reg [ao 59 (.mv 2),
 ao 60 (.mv 9),
 ao 61 (.bin .sub (.c (.int .u64 64)) 60),
 ao 62 (.bin .shr 59 61),
 ao 63 (.mv 2),
 ao 64 (.mv 9),
 ao 65 (.bin .shl 63 64),
 ao 10 (.mv 62),
 ao 11 (.mv 65)]) (.view [.sel [1, 3, 6, 10, 11] [0, 1]])) (.seq (.skip) (.view [.sel [1, 3, 6, 10, 11] [0, 1]])))))
theorem q92 : AC.ok Try.prog (TIof Try.prog) 81 0 (kret [(.cell 6 true 4), .t 7] qdk) qn3 := qp trivial
theorem qbcs (v1 v2 v9 v10 v11 : Int) (Ai : Bool) (Aj Ak Al : Int) (Au : Bool) (Av Aw Ax : Int) (K : Ex → Env → Mem → Option (AV × Bool)) : den 0 (kret [(.cell 6 true 4), .t 7] qdk) qn3 (qk [(1, (.int .i64 v1)), (2, (.int .u64 v2)), (3, (.ptr 0 0)), (6, (.ptr 1 0)), (9, (.int .u64 v9)), (10, (.int .u64 v10)), (11, (.int .u64 v11))]) (qi [(some (.box true (qc Ai Aj Ak Al))), (some (.box true (qc Au Av Aw Ax)))]) K = qip v1 v2 v9 v10 v11 Ai Aj Ak Al Au Av Aw Ax (qym v1 Ai Aj Ak Al Au Av Aw Ax K) := by
  rw [qrp]; kernel_rfl
def q0r := subE (R := AV × Bool) q8w fun t m K => qh (bxC (m.s 1)) (qh (bxC (m.s 0)) (qip (gI [t 1] 0) (gI [t 2] 0) (gI [t 9] 0) (gI [t 10] 0) (gI [t 11] 0))) (qym (gI [t 1] 0) (gB (bxC (m.s 0)) 0) (gI (bxC (m.s 0)) 1) (gI (bxC (m.s 0)) 2) (gI (bxC (m.s 0)) 3) (gB (bxC (m.s 1)) 0) (gI (bxC (m.s 1)) 1) (gI (bxC (m.s 1)) 2) (gI (bxC (m.s 1)) 3) K)
theorem qbct : qdb Try.prog (TIof Try.prog) 81 0 (kret [(.cell 6 true 4), .t 7] qdk) (scOf qn3) (q0r) :=
  qis tabOk follows (q92) (qy (by kernel_rfl)) fun t m K => qbcs _ _ _ _ _ _ _ _ _ _ _ _ _ K
def qbgv : Shp := ⟨[(0, .st (lk qe)), (1, .one (.l (.i .i64))), (2, .one (.l (.i .u64)))], []⟩
def qtf (Aa : Bool) (Ab Ac Ad v1 v2 : Int) : Option (AV × Bool) :=
  (qof v1 v2 Aa Ab Ac Ad false (0 : Int) (0 : Int) (0 : Int) (fun v28q1 => (bif v28q1 then (some ((.agg [(.bool false), (.int .u64 (0 : Int)), (.int .u64 (0 : Int)), (.int .i64 (0 : Int))]), false)) else (qqn v1 v2 (IntKind.i64.wrap (v1 - Ad)) Aa Ab Ac Ad false (0 : Int) (0 : Int) (0 : Int) (fun v42q2 => (bif v42q2 then (some ((.agg [(.bool false), (.int .u64 (0 : Int)), (.int .u64 (0 : Int)), (.int .i64 (0 : Int))]), false)) else (oB (qjf Aa Ab Ac) fun r3 => (qip v1 v2 (IntKind.u64.wrap (IntKind.i64.wrap (r3 - v1))) (0 : Int) v2 Aa Ab Ac Ad false (0 : Int) (0 : Int) (0 : Int) (fun v10q4 v11q5 => (some ((.agg [(.bool Aa), (.int .u64 (qcg .or .u64 Ab v10q4)), (.int .u64 (qcg .or .u64 Ac v11q5)), (.int .i64 v1)]), true)))))))))))
def qns := hull qtf
theorem qxb : qns = qtf := ql _
def qzq : AC (AV × Bool) :=
  .seq (.reg [ao 3 (.box 0),
 ao 6 (.alloc [(.bool false), (.int .u64 0), (.int .u64 0), (.int .i64 0)]),
 ao 7 (.mv (.c (.bool false)))]) (.seq (.seq (.seq (.view [.sel [1, 2, 3, 6] [0, 1]]) (.sub (scOf qo3) q2f)) (.cond 28 (.seq (.reg [ao 29 (.build [(.bool false), (.int .u64 0), (.int .u64 0), (.int .i64 0)] []),
 an (.store 4 6 29),
 ao 7 (.mv (.c (.bool false)))]) (.ret)) (.skip))) (.seq (.seq (.reg [ao 30 (.mv 1),
 ao 31 (.fa 3 3),
 ao 32 (.load false 1 31),
 ao 33 (.bin .sub 30 32),
 ao 8 (.mv 33)]) (.seq (.seq (.view [.sel [1, 2, 3, 6, 8] [0, 1]]) (.sub (scOf qn1) q0q)) (.cond 42 (.seq (.reg [ao 43 (.build [(.bool false), (.int .u64 0), (.int .u64 0), (.int .i64 0)] []),
 an (.store 4 6 43),
 ao 7 (.mv (.c (.bool false)))]) (.ret)) (.skip)))) (.seq (.reg [ao 44 (.fa 0 3),
 ao 45 (.load true 3 44),
 .call (po 46 (.call 76 [45])) 76 qlx,
 ao 47 (.mv 1),
 ao 48 (.bin .sub 46 47),
 ao 49 (.conv (.int .u64) 48),
 ao 9 (.mv 49)]) (.seq (.reg [ao 50 (.mv 2),
 ao 10 (.mv (.c (.int .u64 0))),
 ao 11 (.mv 50)]) (.seq (.seq (.view [.sel [1, 2, 3, 6, 9, 10, 11] [0, 1]]) (.sub (scOf qn3) q0r)) (.seq (.reg [ao 66 (.fa 0 3),
 ao 67 (.load true 3 66),
 ao 12 (.alloc [(.bool false), (.int .u64 0), (.int .u64 0)]),
 an (.store 3 12 67)]) (.seq (.reg [ao 68 (.fa 1 12),
 ao 69 (.load false 1 68),
 ao 70 (.mv 10),
 ao 71 (.bin .or 69 70),
 ao 72 (.fa 1 12),
 an (.store 1 72 71)]) (.seq (.reg [ao 73 (.fa 2 12),
 ao 74 (.load false 1 73),
 ao 75 (.mv 11),
 ao 76 (.bin .or 74 75),
 ao 77 (.fa 2 12),
 an (.store 1 77 76)]) (.seq (.reg [ao 78 (.load true 3 12),
 ao 79 (.mv 1),
 ao 80 (.build [(.bool false), (.int .u64 0), (.int .u64 0), (.int .i64 0)] [(0, (3, 78)), (3, (1, 79))]),
 an (.store 4 6 80),
 ao 7 (.mv (.c (.bool true)))]) (.ret))))))))))
theorem qbjs : AC.ok Try.prog (TIof Try.prog) 81 0 (kret [(.cell 6 true 4), .t 7] qdk) qzq := qp (zA qbe1 (zA qbcr (zA (qd.ok qqj) (zA qbct trivial))))
theorem qbl9 (Aa : Bool) (Ab Ac Ad v1 v2 : Int) : den 0 (kret [(.cell 6 true 4), .t 7] qdk) qzq (qk [(0, .agg (qc Aa Ab Ac Ad)), (1, (.int .i64 v1)), (2, (.int .u64 v2))]) (qi []) (kend (kret [(.cell 6 true 4), .t 7] qdk)) = qns Aa Ab Ac Ad v1 v2 := by
  rw [qxb]; kernel_rfl
theorem qbma : cFn (TIof Try.prog) Try.f96 = some ⟨81, [(.cell 6 true 4), .t 7], scOf qzq⟩ := by kernel_rfl
def qbmb (xs : List AV) : Option (AV × Bool) := qh ((qm xs) 0).cells (qns) (gI [(qm xs) 1] 0) (gI [(qm xs) 2] 0)
def qvg {R : Type} : List AV → (AV → Option R) → Option R := entF qbgv qbmb qbgu
theorem q77 {R : Type} : qd Try.prog 96 (qvg (R := R)) :=
  qce tabOk follows Try.func96 (by kernel_rfl) qbma (fun z r h => by
 obtain ⟨h1, h2⟩ := qo h
 cases h2
 exact (qhm h1).symm) qbjs (qy (by kernel_rfl)) fun xs => qbl9 _ _ _ _ _ _
def qiz (z : AV) : Option (AV × AV × Bool) := cond (qmv [(.st [.b, (.i .u64), (.i .u64), (.i .i64)]), (.st [.b, (.i .u64), (.i .u64), (.i .i64)]), (.one .b)] z) (some ((gC (tpL z) 0), (gC (tpL z) 1), aB (gC (tpL z) 2))) none
def qbcu (r : AV × AV × Bool) : AV := .tup [qoa (.st [.b, (.i .u64), (.i .u64), (.i .i64)]) r.1, qoa (.st [.b, (.i .u64), (.i .u64), (.i .i64)]) r.2.1, .bool r.2.2]
def qwr  (Ai : Bool) (Aj Ak Al : Int) (Au : Bool) (Av Aw Ax : Int) (A2 : Bool) (A3 A4 A5 : Int) (A6 : Bool) (A7 A8 A9 : Int) (K : Ex → Env → Mem → Option (AV × AV × Bool)) := (fun z_v22 => K .norm (qk [(1, (.ptr 0 0)), (2, (.ptr 1 0)), (3, (.ptr 2 0)), (5, (.ptr 3 0)), (22, (.bool z_v22))]) (qi [(some (.box true (qc Ai Aj Ak Al))), (some (.box true (qc Au Av Aw Ax))), (some (.box true (qc A2 A3 A4 A5))), (some (.box true (qc A6 A7 A8 A9)))]))
def q6q : Shp := ⟨[(1, .one (.ptr 0 0)), (2, .one (.ptr 1 0)), (3, .one (.ptr 2 0)), (5, .one (.ptr 3 0)), (6, .one (.l .b))], [.box true (lk qe), .box true (lk qe), .box true (lk qe), .box true (lk qe)]⟩
def qrq  (v6 Ai : Bool) (Aj Ak Al : Int) (Au : Bool) (Av Aw Ax : Int) (A2 : Bool) (A3 A4 A5 : Int) (A6 : Bool) (A7 A8 A9 : Int) (kn : Bool → Option (AV × AV × Bool)) : Option (AV × AV × Bool) :=
  (bif (!v6) then (kn true) else (oB (qfu Ai Aj Ak Al) fun r1 => (kn (!r1))))
def qo4 := hull (qrq)
theorem qws : qo4 = qrq := ql _
def qnh : AC (AV × AV × Bool) :=
  .seq (.reg [ao 16 (.mv 6),
 ao 17 (.un .not 16),
 ao 18 (.mv 17),
 ag 19 18 false (.load true 4 1),
 .call (pg 20 18 false (.call 71 [19])) 71 qfv,
 ag 21 18 false (.un .not 20),
 ao 22 (.pick 18 (.c (.bool true)) 21)]) (.view [.sel [1, 2, 3, 5, 22] [0, 1, 2, 3]])
theorem q8x : AC.ok Try.prog (TIof Try.prog) 36 0 (kret [(.cell 2 true 4), (.cell 3 true 4), .t 4] qiz) qnh := qp (zA (qd.ok qj9) trivial)
theorem q93 (v6 Ai : Bool) (Aj Ak Al : Int) (Au : Bool) (Av Aw Ax : Int) (A2 : Bool) (A3 A4 A5 : Int) (A6 : Bool) (A7 A8 A9 : Int) (K : Ex → Env → Mem → Option (AV × AV × Bool)) : den 0 (kret [(.cell 2 true 4), (.cell 3 true 4), .t 4] qiz) qnh (qk [(1, (.ptr 0 0)), (2, (.ptr 1 0)), (3, (.ptr 2 0)), (5, (.ptr 3 0)), (6, (.bool v6))]) (qi [(some (.box true (qc Ai Aj Ak Al))), (some (.box true (qc Au Av Aw Ax))), (some (.box true (qc A2 A3 A4 A5))), (some (.box true (qc A6 A7 A8 A9)))]) K = qo4 v6 Ai Aj Ak Al Au Av Aw Ax A2 A3 A4 A5 A6 A7 A8 A9 (qwr Ai Aj Ak Al Au Av Aw Ax A2 A3 A4 A5 A6 A7 A8 A9 K) := by
  rw [qws]; kernel_rfl
def qyn := subE (R := AV × AV × Bool) q6q fun t m K => qh (bxC (m.s 3)) (qh (bxC (m.s 2)) (qh (bxC (m.s 1)) (qh (bxC (m.s 0)) (qo4 (gB [t 6] 0))))) (qwr (gB (bxC (m.s 0)) 0) (gI (bxC (m.s 0)) 1) (gI (bxC (m.s 0)) 2) (gI (bxC (m.s 0)) 3) (gB (bxC (m.s 1)) 0) (gI (bxC (m.s 1)) 1) (gI (bxC (m.s 1)) 2) (gI (bxC (m.s 1)) 3) (gB (bxC (m.s 2)) 0) (gI (bxC (m.s 2)) 1) (gI (bxC (m.s 2)) 2) (gI (bxC (m.s 2)) 3) (gB (bxC (m.s 3)) 0) (gI (bxC (m.s 3)) 1) (gI (bxC (m.s 3)) 2) (gI (bxC (m.s 3)) 3) K)
theorem q94 : qdb Try.prog (TIof Try.prog) 36 0 (kret [(.cell 2 true 4), (.cell 3 true 4), .t 4] qiz) (scOf qnh) (qyn) :=
  qis tabOk follows (q8x) (qy (by kernel_rfl)) fun t m K => q93 _ _ _ _ _ _ _ _ _ _ _ _ _ _ _ _ _ K
def qbcv : Shp := ⟨[(0, .st (lk qe))], []⟩
def qvh (Aa : Bool) (Ab Ac Ad : Int) : Option (AV × AV × Bool) :=
  (oB (qns Aa Ab Ac Ad (IntKind.i64.wrap (Ad + (1 : Int))) (0 : Int)) fun r1 => (qo4 r1.2 Aa Ab Ac Ad false (0 : Int) (0 : Int) (0 : Int) false (0 : Int) (0 : Int) (0 : Int) (gB r1.1.cells 0) (gI r1.1.cells 1) (gI r1.1.cells 2) (gI r1.1.cells 3) (fun v22q2 => (bif v22q2 then (some ((.agg [(.bool false), (.int .u64 (0 : Int)), (.int .u64 (0 : Int)), (.int .i64 (0 : Int))]), (.agg [(.bool false), (.int .u64 (0 : Int)), (.int .u64 (0 : Int)), (.int .i64 (0 : Int))]), false)) else (oB (qns Aa Ab Ac Ad (IntKind.i64.wrap (Ad + (1 : Int))) (1 : Int)) fun r3 => (some ((.agg [(.bool (gB r1.1.cells 0)), (.int .u64 (gI r1.1.cells 1)), (.int .u64 (gI r1.1.cells 2)), (.int .i64 (gI r1.1.cells 3))]), (.agg [(.bool (gB r3.1.cells 0)), (.int .u64 (gI r3.1.cells 1)), (.int .u64 (gI r3.1.cells 2)), (.int .i64 (gI r3.1.cells 3))]), r3.2)))))))
def qln := hull qvh
theorem q2g : qln = qvh := ql _
def qvi : AC (AV × AV × Bool) :=
  .seq (.reg [ao 1 (.box 0),
 ao 2 (.alloc [(.bool false), (.int .u64 0), (.int .u64 0), (.int .i64 0)]),
 ao 3 (.alloc [(.bool false), (.int .u64 0), (.int .u64 0), (.int .i64 0)]),
 ao 4 (.mv (.c (.bool false)))]) (.seq (.reg [ao 9 (.load true 4 1),
 ao 10 (.fa 3 1),
 ao 11 (.load false 1 10),
 ao 12 (.bin .add 11 (.c (.int .i64 1))),
 .call (po 13 (.call 96 [9, 12, (.c (.int .u64 0))])) 96 qvg,
 ao 8 (.mv 13),
 ao 14 (.ext 8 0),
 ao 15 (.ext 8 1),
 ao 5 (.alloc [(.bool false), (.int .u64 0), (.int .u64 0), (.int .i64 0)]),
 an (.store 4 5 14),
 ao 6 (.mv 15)]) (.seq (.seq (.seq (.view [.sel [1, 2, 3, 5, 6] [0, 1, 2, 3]]) (.sub (scOf qnh) qyn)) (.cond 22 (.seq (.reg [ao 23 (.build [(.bool false), (.int .u64 0), (.int .u64 0), (.int .i64 0)] []),
 ao 24 (.build [(.bool false), (.int .u64 0), (.int .u64 0), (.int .i64 0)] []),
 an (.store 4 2 23),
 an (.store 4 3 24),
 ao 4 (.mv (.c (.bool false)))]) (.ret)) (.skip))) (.seq (.reg [ao 26 (.load true 4 1),
 ao 27 (.fa 3 1),
 ao 28 (.load false 1 27),
 ao 29 (.bin .add 28 (.c (.int .i64 1))),
 .call (po 30 (.call 96 [26, 29, (.c (.int .u64 1))])) 96 qvg,
 ao 25 (.mv 30),
 ao 31 (.ext 25 0),
 ao 32 (.ext 25 1),
 ao 7 (.alloc [(.bool false), (.int .u64 0), (.int .u64 0), (.int .i64 0)]),
 an (.store 4 7 31),
 ao 6 (.mv 32)]) (.seq (.draw [] [ao 33 (.load true 4 5),
 ao 34 (.load true 4 7),
 ao 35 (.mv 6),
 an (.held [6] [((.c (.bool true)), 7), (2, 7), (3, 7)])] [an (.store 4 2 33),
 an (.store 4 3 34),
 ao 4 (.mv 35)]) (.ret)))))
theorem qbe2 : AC.ok Try.prog (TIof Try.prog) 36 0 (kret [(.cell 2 true 4), (.cell 3 true 4), .t 4] qiz) qvi := qp (zA (qd.ok q77) (zA q94 (zA (qd.ok q77) (zA rfl trivial))))
theorem qbgw (Aa : Bool) (Ab Ac Ad : Int) : den 0 (kret [(.cell 2 true 4), (.cell 3 true 4), .t 4] qiz) qvi (qk [(0, .agg (qc Aa Ab Ac Ad))]) (qi []) (kend (kret [(.cell 2 true 4), (.cell 3 true 4), .t 4] qiz)) = qln Aa Ab Ac Ad := by
  rw [q2g]; kernel_rfl
theorem qbgx : cFn (TIof Try.prog) Try.f59 = some ⟨36, [(.cell 2 true 4), (.cell 3 true 4), .t 4], scOf qvi⟩ := by kernel_rfl
def qbgy (xs : List AV) : Option (AV × AV × Bool) := qh ((qm xs) 0).cells (qln)
def qn4 {R : Type} : List AV → (AV → Option R) → Option R := entF qbcv qbgy qbcu
theorem qvj {R : Type} : qd Try.prog 59 (qn4 (R := R)) :=
  qce tabOk follows Try.func59 (by kernel_rfl) qbgx (fun z r h => by
 obtain ⟨h1, h2⟩ := qo h
 cases h2
 exact (qhm h1).symm) qbe2 (qy (by kernel_rfl)) fun xs => qbgw _ _ _ _
def qt2 (z : AV) : Option ((List AV) × Int) := cond (qmv [(.one (.sl 8)), (.one (.i .i64))] z) (some (aL (gC (tpL z) 0), aI (gC (tpL z) 1))) none
def qbe3 (r : (List AV) × Int) : AV := .tup [.sl 8 r.1, .int .i64 r.2]
def qbe4 : Shp := ⟨[(0, .one (.l (.sl 8))), (1, .st (lk qe))], []⟩
def qxc (v0 : List AV) (Aq : Bool) (Ar As At : Int) : Option ((List AV) × Int) :=
  (oB (qfw v0 Aq Ar As At) fun r1 => (bif (decide (r1 < (0 : Int))) then (some (([] : List AV), (11 : Int))) else (oB (qln Aq Ar As At) fun r2 => (bif (!r2.2.2) then (some (([] : List AV), (21 : Int))) else (oB (qim v0 Aq Ar As At) fun r3 => (bif r3 then (some (([] : List AV), (25 : Int))) else (oB (ixB v0 r1) fun y4 => (bif fitC qa y4.cells then (bif (decide (((gS y4.cells 5).length : Int) > (61 : Int))) then (some (([] : List AV), (1 : Int))) else (bif (decide ((v0.length : Int) ≥ (512 : Int))) then (some (([] : List AV), (9 : Int))) else (bif decide ((gS y4.cells 5).length + ([45, 48] : List UInt8).length ≤ 9223372036854775807) then (bif decide ((gS y4.cells 5).length + ([45, 49] : List UInt8).length ≤ 9223372036854775807) then (oB (qf7 v0 r1) fun r5 => (oB (qg4 r5 (gB r2.1.cells 0) (gI r2.1.cells 1) (gI r2.1.cells 2) (gI r2.1.cells 3) (gI y4.cells 4) ((gS y4.cells 5) ++ ([45, 48] : List UInt8)) (gS y4.cells 6) (gI y4.cells 7)) fun r6 => (oB (qg4 r6 (gB r2.2.1.cells 0) (gI r2.2.1.cells 1) (gI r2.2.1.cells 2) (gI r2.2.1.cells 3) (gI y4.cells 4) ((gS y4.cells 5) ++ ([45, 49] : List UInt8)) (gS y4.cells 6) (gI y4.cells 7)) fun r7 => (some (r7, (0 : Int)))))) else none) else none))) else none))))))))
def qog := hull qxc
theorem q3u : qog = qxc := ql _
def qxd : AC ((List AV) × Int) :=
  .seq (.reg [ao 3 (.box 1),
 ao 4 (.mv (.c .nils)),
 ao 5 (.mv (.c (.int .i64 0)))]) (.seq (.reg [ao 12 (.mv 0),
 ao 13 (.load true 4 3),
 .call (po 14 (.call 51 [12, 13])) 51 qfx,
 ao 6 (.mv 14)]) (.seq (.seq (.reg [ao 15 (.mv 6),
 ao 16 (.bin .lss 15 (.c (.int .i64 0)))]) (.cond 16 (.seq (.reg [ao 4 (.mv (.c .nils)),
 ao 5 (.mv (.c (.int .i64 11)))]) (.seq (.view [.eta 4 (.one (.sl 8))]) (.ret))) (.skip))) (.seq (.reg [ao 18 (.load true 4 3),
 .call (po 19 (.call 59 [18])) 59 qn4,
 ao 17 (.mv 19),
 ao 20 (.ext 17 0),
 ao 21 (.ext 17 1),
 ao 22 (.ext 17 2),
 ao 7 (.alloc [(.bool false), (.int .u64 0), (.int .u64 0), (.int .i64 0)]),
 ao 8 (.alloc [(.bool false), (.int .u64 0), (.int .u64 0), (.int .i64 0)]),
 an (.store 4 7 20),
 an (.store 4 8 21),
 ao 9 (.mv 22)]) (.seq (.seq (.reg [ao 23 (.mv 9),
 ao 24 (.un .not 23)]) (.cond 24 (.seq (.reg [ao 4 (.mv (.c .nils)),
 ao 5 (.mv (.c (.int .i64 21)))]) (.seq (.view [.eta 4 (.one (.sl 8))]) (.ret))) (.skip))) (.seq (.seq (.reg [ao 25 (.mv 0),
 ao 26 (.load true 4 3),
 .call (po 27 (.call 52 [25, 26])) 52 qmx]) (.cond 27 (.seq (.reg [ao 4 (.mv (.c .nils)),
 ao 5 (.mv (.c (.int .i64 25)))]) (.seq (.view [.eta 4 (.one (.sl 8))]) (.ret))) (.skip))) (.seq (.reg [ao 28 (.mv 0),
 ao 29 (.mv 6),
 ao 30 (.ia 8 28 29),
 .st (.etac 30 qa),
 ao 31 (.load true 8 30),
 ao 10 (.alloc [(.bool false), (.int .u64 0), (.int .u64 0), (.int .i64 0), (.int .i64 0), (.str []), (.str []), (.int .i64 0)]),
 an (.store 8 10 31)]) (.seq (.seq (.reg [ao 32 (.fa 5 10),
 ao 33 (.load false 1 32),
 ao 34 (.len true 33),
 ao 35 (.bin .gtr 34 (.c (.int .i64 61)))]) (.cond 35 (.seq (.reg [ao 4 (.mv (.c .nils)),
 ao 5 (.mv (.c (.int .i64 1)))]) (.seq (.view [.eta 4 (.one (.sl 8))]) (.ret))) (.skip))) (.seq (.seq (.reg [ao 36 (.mv 0),
 ao 37 (.len false 36),
 ao 38 (.bin .geq 37 (.c (.int .i64 512)))]) (.cond 38 (.seq (.reg [ao 4 (.mv (.c .nils)),
 ao 5 (.mv (.c (.int .i64 9)))]) (.seq (.view [.eta 4 (.one (.sl 8))]) (.ret))) (.skip))) (.seq (.reg [ao 39 (.load true 8 10),
 ao 11 (.alloc [(.bool false), (.int .u64 0), (.int .u64 0), (.int .i64 0), (.int .i64 0), (.str []), (.str []), (.int .i64 0)]),
 an (.store 8 11 39)]) (.seq (.reg [ao 40 (.load true 4 7),
 ao 41 (.fa 5 10),
 ao 42 (.load false 1 41),
 ao 43 (.bin .add 42 (.c (.str [45, 48]))),
 ao 44 (.fa 0 10),
 an (.store 4 44 40),
 ao 45 (.fa 5 10),
 an (.store 1 45 43)]) (.seq (.reg [ao 46 (.load true 4 8),
 ao 47 (.fa 5 11),
 ao 48 (.load false 1 47),
 ao 49 (.bin .add 48 (.c (.str [45, 49]))),
 ao 50 (.fa 0 11),
 an (.store 4 50 46),
 ao 51 (.fa 5 11),
 an (.store 1 51 49)]) (.seq (.draw [] [ao 52 (.mv 0),
 ao 53 (.mv 6),
 .call (po 54 (.call 56 [52, 53])) 56 qk6,
 ao 55 (.load true 8 10),
 .call (po 56 (.call 53 [54, 55])) 53 qlz,
 ao 57 (.load true 8 11)] [.callc (po 58 (.call 53 [56, 57])) 53 qlz,
 ao 4 (.mv 58),
 ao 5 (.mv (.c (.int .i64 0)))]) (.ret)))))))))))))
theorem qbgz : AC.ok Try.prog (TIof Try.prog) 59 0 (kret [.t 4, .t 5] qt2) qxd := qp (zA (qd.ok qkd) (zA (qd.ok qvj) (zA (qd.ok qsh) (zA (qd.ok qo0) (zA (qd.ok qqm) (zA (qd.ok qqm) (zA rfl trivial)))))))
theorem qbjt (v0 : List AV) (Aq : Bool) (Ar As At : Int) : den 0 (kret [.t 4, .t 5] qt2) qxd (qk [(0, (.sl 8 v0)), (1, .agg (qc Aq Ar As At))]) (qi []) (kend (kret [.t 4, .t 5] qt2)) = qog v0 Aq Ar As At := by
  rw [q3u]; kernel_rfl
theorem qbju : cFn (TIof Try.prog) Try.f20 = some ⟨59, [.t 4, .t 5], scOf qxd⟩ := by kernel_rfl
def qbjv (xs : List AV) : Option ((List AV) × Int) := qh ((qm xs) 1).cells (qog (gL [(qm xs) 0] 0))
def q2h {R : Type} : List AV → (AV → Option R) → Option R := entF qbe4 qbjv qbe3
theorem qbjw {R : Type} : qd Try.prog 20 (q2h (R := R)) :=
  qce tabOk follows Try.func20 (by kernel_rfl) qbju (fun z r h => by
 obtain ⟨h1, h2⟩ := qo h
 cases h2
 exact (qhm h1).symm) qbgz (qy (by kernel_rfl)) fun xs => qbjt _ _ _ _ _
def qvk (z : AV) : Option (AV × Bool) := cond (qmv [(.st [.b, (.i .u64), (.i .u64), (.i .i64), (.i .i64), .s, .s, (.i .i64)]), (.one .b)] z) (some ((gC (tpL z) 0), aB (gC (tpL z) 1))) none
def qbg0 (r : AV × Bool) : AV := .tup [qoa (.st [.b, (.i .u64), (.i .u64), (.i .i64), (.i .i64), .s, .s, (.i .i64)]) r.1, .bool r.2]
def qbg1 : Shp := ⟨[(0, .one (.l (.sl 8))), (1, .st (lk qe))], []⟩
def qzr (v0 : List AV) (Aq : Bool) (Ar As At : Int) : Option (AV × Bool) :=
  (oB (qfw v0 Aq Ar As At) fun r1 => (bif (decide (r1 ≥ (0 : Int))) then (oB (ixB v0 r1) fun y2 => (bif fitC qa y2.cells then (some ((.agg [(.bool (gB y2.cells 0)), (.int .u64 (gI y2.cells 1)), (.int .u64 (gI y2.cells 2)), (.int .i64 (gI y2.cells 3)), (.int .i64 (gI y2.cells 4)), (.str (gS y2.cells 5)), (.str (gS y2.cells 6)), (.int .i64 (gI y2.cells 7))]), true)) else none)) else (some ((.agg [(.bool false), (.int .u64 (0 : Int)), (.int .u64 (0 : Int)), (.int .i64 (0 : Int)), (.int .i64 (0 : Int)), (.str ([] : List UInt8)), (.str ([] : List UInt8)), (.int .i64 (0 : Int))]), false))))
def qnt := hull qzr
theorem q47 : qnt = qzr := ql _
def qzs : AC (AV × Bool) :=
  .seq (.reg [ao 3 (.box 1),
 ao 4 (.alloc [(.bool false), (.int .u64 0), (.int .u64 0), (.int .i64 0), (.int .i64 0), (.str []), (.str []), (.int .i64 0)]),
 ao 5 (.mv (.c (.bool false)))]) (.seq (.seq (.reg [ao 7 (.mv 0),
 ao 8 (.load true 4 3),
 .call (po 9 (.call 51 [7, 8])) 51 qfx,
 ao 6 (.mv 9)]) (.seq (.reg [ao 10 (.mv 6),
 ao 11 (.bin .geq 10 (.c (.int .i64 0)))]) (.cond 11 (.seq (.reg [ao 12 (.mv 0),
 ao 13 (.mv 6),
 ao 14 (.ia 8 12 13),
 .st (.etac 14 qa),
 ao 15 (.load true 8 14),
 an (.store 8 4 15),
 ao 5 (.mv (.c (.bool true)))]) (.ret)) (.skip)))) (.seq (.reg [ao 16 (.build [(.bool false), (.int .u64 0), (.int .u64 0), (.int .i64 0), (.int .i64 0), (.str []), (.str []), (.int .i64 0)] []),
 an (.store 8 4 16),
 ao 5 (.mv (.c (.bool false)))]) (.ret)))
theorem qbjx : AC.ok Try.prog (TIof Try.prog) 17 0 (kret [(.cell 4 true 8), .t 5] qvk) qzs := qp (zA (qd.ok qkd) trivial)
theorem qbmc (v0 : List AV) (Aq : Bool) (Ar As At : Int) : den 0 (kret [(.cell 4 true 8), .t 5] qvk) qzs (qk [(0, (.sl 8 v0)), (1, .agg (qc Aq Ar As At))]) (qi []) (kend (kret [(.cell 4 true 8), .t 5] qvk)) = qnt v0 Aq Ar As At := by
  rw [q47]; kernel_rfl
theorem qbmd : cFn (TIof Try.prog) Try.f24 = some ⟨17, [(.cell 4 true 8), .t 5], scOf qzs⟩ := by kernel_rfl
def qbme (xs : List AV) : Option (AV × Bool) := qh ((qm xs) 1).cells (qnt (gL [(qm xs) 0] 0))
def qqo {R : Type} : List AV → (AV → Option R) → Option R := entF qbg1 qbme qbg0
theorem qzt {R : Type} : qd Try.prog 24 (qqo (R := R)) :=
  qce tabOk follows Try.func24 (by kernel_rfl) qbmd (fun z r h => by
 obtain ⟨h1, h2⟩ := qo h
 cases h2
 exact (qhm h1).symm) qbjx (qy (by kernel_rfl)) fun xs => qbmc _ _ _ _ _
def q03 : Shp := ⟨[(0, .one (.l .s)), (1, .one (.l .s))], []⟩
def qm2 (v0 v1 : List UInt8) : Option Bool :=
  (bif (decide ((v0.length : Int) ≥ (v1.length : Int))) then (oB (cutI v0 (some (IntKind.i64.wrap ((v0.length : Int) - (v1.length : Int)))) none) fun s1 => (some (s1 == v1))) else (some false))
def qle := hull qm2
theorem qrr : qle = qm2 := ql _
def qm3 : AC Bool :=
  .seq (.reg [ao 4 (.mv (.c (.bool false)))]) (.seq (.reg [ao 5 (.mv 0),
 ao 6 (.len true 5),
 ao 7 (.mv 1),
 ao 8 (.len true 7),
 ao 9 (.bin .geq 6 8),
 ao 10 (.mv 9),
 ag 11 10 true (.mv 0),
 ag 12 10 true (.mv 0),
 ag 13 10 true (.len true 12),
 ag 14 10 true (.mv 1),
 ag 15 10 true (.len true 14),
 ag 16 10 true (.bin .sub 13 15),
 ag 17 10 true (.slcs 11 (some 16) none),
 ag 18 10 true (.mv 1),
 ag 19 10 true (.bin .eql 17 18),
 ao 20 (.pick 10 19 (.c (.bool false))),
 ao 4 (.mv 20)]) (.ret))
theorem q2i : AC.ok Try.prog (TIof Try.prog) 21 0 (kret [.t 4] decB) qm3 := qp trivial
theorem q3d (v0 v1 : List UInt8) : den 0 (kret [.t 4] decB) qm3 (qk [(0, (.str v0)), (1, (.str v1))]) (qi []) (kend (kret [.t 4] decB)) = qle v0 v1 := by
  rw [qrr]; kernel_rfl
theorem q3e : cFn (TIof Try.prog) Try.f104 = some ⟨21, [.t 4], scOf qm3⟩ := by kernel_rfl
def q3f (xs : List AV) : Option Bool := qle (gS [(qm xs) 0] 0) (gS [(qm xs) 1] 0)
def qqp {R : Type} : List AV → (AV → Option R) → Option R := entF q03 q3f AV.bool
theorem q3g {R : Type} : qd Try.prog 104 (qqp (R := R)) :=
  qce tabOk follows Try.func104 (by kernel_rfl) q3e hdeB q2i (qy (by kernel_rfl)) fun xs => q3d _ _
def qzu : Shp := ⟨[(0, .one (.l .s)), (1, .one (.l .s))], []⟩
def qms (v0 v1 : List UInt8) : Option (List UInt8) :=
  (oB (qle v0 v1) fun r1 => (bif r1 then (oB (cutI v0 none (some (IntKind.i64.wrap ((v0.length : Int) - (v1.length : Int))))) fun s2 => (some s2)) else (some v0)))
def qkv := hull qms
theorem qqq : qkv = qms := ql _
def qmt : AC (List UInt8) :=
  .seq (.reg [ao 4 (.mv (.c (.str [])))]) (.seq (.seq (.reg [ao 5 (.mv 0),
 ao 6 (.mv 1),
 .call (po 7 (.call 104 [5, 6])) 104 qqp]) (.cond 7 (.seq (.reg [ao 8 (.mv 0),
 ao 9 (.mv 0),
 ao 10 (.len true 9),
 ao 11 (.mv 1),
 ao 12 (.len true 11),
 ao 13 (.bin .sub 10 12),
 ao 14 (.slcs 8 none (some 13)),
 ao 4 (.mv 14)]) (.ret)) (.skip))) (.seq (.reg [ao 15 (.mv 0),
 ao 4 (.mv 15)]) (.ret)))
theorem q04 : AC.ok Try.prog (TIof Try.prog) 16 0 (kret [.t 4] decS) qmt := qp (zA (qd.ok q3g) trivial)
theorem q2j (v0 v1 : List UInt8) : den 0 (kret [.t 4] decS) qmt (qk [(0, (.str v0)), (1, (.str v1))]) (qi []) (kend (kret [.t 4] decS)) = qkv v0 v1 := by
  rw [qqq]; kernel_rfl
theorem q2k : cFn (TIof Try.prog) Try.f98 = some ⟨16, [.t 4], scOf qmt⟩ := by kernel_rfl
def q2l (xs : List AV) : Option (List UInt8) := qkv (gS [(qm xs) 0] 0) (gS [(qm xs) 1] 0)
def qpk {R : Type} : List AV → (AV → Option R) → Option R := entF qzu q2l AV.str
theorem q2m {R : Type} : qd Try.prog 98 (qpk (R := R)) :=
  qce tabOk follows Try.func98 (by kernel_rfl) q2k hdeS q04 (qy (by kernel_rfl)) fun xs => q2j _ _
def q4k : Shp := ⟨[(0, .one (.l .s)), (1, .one (.l .s))], []⟩
def qo5 (v0 v1 : List UInt8) : Option (List UInt8) :=
  (oB (qkv v0 v1) fun r1 => (some r1))
def qk7 := hull qo5
theorem qug : qk7 = qo5 := ql _
def qo6 : AC (List UInt8) :=
  .seq (.reg [ao 4 (.mv (.c (.str [])))]) (.seq (.reg [ao 5 (.mv 0),
 ao 6 (.mv 1),
 .call (po 7 (.call 98 [5, 6])) 98 qpk,
 ao 4 (.mv 7)]) (.ret))
theorem q48 : AC.ok Try.prog (TIof Try.prog) 8 0 (kret [.t 4] decS) qo6 := qp (zA (qd.ok q2m) trivial)
theorem q6r (v0 v1 : List UInt8) : den 0 (kret [.t 4] decS) qo6 (qk [(0, (.str v0)), (1, (.str v1))]) (qi []) (kend (kret [.t 4] decS)) = qk7 v0 v1 := by
  rw [qug]; kernel_rfl
theorem q6s : cFn (TIof Try.prog) Try.f61 = some ⟨8, [.t 4], scOf qo6⟩ := by kernel_rfl
def q6t (xs : List AV) : Option (List UInt8) := qk7 (gS [(qm xs) 0] 0) (gS [(qm xs) 1] 0)
def qsy {R : Type} : List AV → (AV → Option R) → Option R := entF q4k q6t AV.str
theorem q6u {R : Type} : qd Try.prog 61 (qsy (R := R)) :=
  qce tabOk follows Try.func61 (by kernel_rfl) q6s hdeS q48 (qy (by kernel_rfl)) fun xs => q6r _ _
def qlf (z : AV) : Option ((List AV) × Int) := cond (qmv [(.one (.sl 8)), (.one (.i .i64))] z) (some (aL (gC (tpL z) 0), aI (gC (tpL z) 1))) none
def qbg2 (r : (List AV) × Int) : AV := .tup [.sl 8 r.1, .int .i64 r.2]
def qyo  (v0 : List AV) (Ai : Bool) (Aj Ak Al : Int) (Au : Bool) (Av Aw Ax : Int) (A2 : Bool) (A3 A4 A5 : Int) (A6 : Bool) (A7 A8 A9 Ba : Int) (Bb : List UInt8) (Bc : Int) (K : Ex → Env → Mem → Option ((List AV) × Int)) := (fun z_b3_5 => K .norm (qk [(0, (.sl 8 v0)), (3, (.ptr 0 0)), (6, (.ptr 1 0)), (7, (.ptr 2 0)), (9, (.ptr 3 0))]) (qi [(some (.box true (qc Ai Aj Ak Al))), (some (.box true (qc Au Av Aw Ax))), (some (.box true (qc A2 A3 A4 A5))), (some (.box true (qb A6 A7 A8 A9 Ba z_b3_5 Bb Bc)))]))
def q8y : Shp := ⟨[(0, .one (.l (.sl 8))), (3, .one (.ptr 0 0)), (6, .one (.ptr 1 0)), (7, .one (.ptr 2 0)), (9, .one (.ptr 3 0))], [.box true (lk qe), .box true (lk qe), .box true (lk qe), .box true (lk qa)]⟩
def qsk  (v0 : List AV) (Ai : Bool) (Aj Ak Al : Int) (Au : Bool) (Av Aw Ax : Int) (A2 : Bool) (A3 A4 A5 : Int) (A6 : Bool) (A7 A8 A9 Ba : Int) (Bd Bb : List UInt8) (Bc : Int) (kn : (List UInt8) → Option ((List AV) × Int)) : Option ((List AV) × Int) :=
  (oB (qk7 Bd ([45, 48] : List UInt8)) fun r1 => (bif (!(r1 == ([] : List UInt8))) then (kn r1) else (kn Bd)))
def qni := hull (qsk)
theorem qyp : qni = qsk := ql _
def qn5 : AC ((List AV) × Int) :=
  .seq (.reg [ao 69 (.fa 5 9),
 ao 70 (.load false 1 69),
 .call (po 71 (.call 61 [70, (.c (.str [45, 48]))])) 61 qsy,
 ao 13 (.mv 71)]) (.seq (.reg [ao 72 (.mv 13),
 ao 73 (.bin .neq 72 (.c (.str [])))]) (.cond 73 (.seq (.reg [ao 74 (.mv 13),
 ao 75 (.fa 5 9),
 an (.store 1 75 74)]) (.view [.sel [0, 3, 6, 7, 9] [0, 1, 2, 3]])) (.seq (.skip) (.view [.sel [0, 3, 6, 7, 9] [0, 1, 2, 3]]))))
theorem q95 : AC.ok Try.prog (TIof Try.prog) 91 0 (kret [.t 4, .t 5] qlf) qn5 := qp (zA (qd.ok q6u) trivial)
theorem qbcw (v0 : List AV) (Ai : Bool) (Aj Ak Al : Int) (Au : Bool) (Av Aw Ax : Int) (A2 : Bool) (A3 A4 A5 : Int) (A6 : Bool) (A7 A8 A9 Ba : Int) (Bd Bb : List UInt8) (Bc : Int) (K : Ex → Env → Mem → Option ((List AV) × Int)) : den 0 (kret [.t 4, .t 5] qlf) qn5 (qk [(0, (.sl 8 v0)), (3, (.ptr 0 0)), (6, (.ptr 1 0)), (7, (.ptr 2 0)), (9, (.ptr 3 0))]) (qi [(some (.box true (qc Ai Aj Ak Al))), (some (.box true (qc Au Av Aw Ax))), (some (.box true (qc A2 A3 A4 A5))), (some (.box true (qb A6 A7 A8 A9 Ba Bd Bb Bc)))]) K = qni v0 Ai Aj Ak Al Au Av Aw Ax A2 A3 A4 A5 A6 A7 A8 A9 Ba Bd Bb Bc (qyo v0 Ai Aj Ak Al Au Av Aw Ax A2 A3 A4 A5 A6 A7 A8 A9 Ba Bb Bc K) := by
  rw [qyp]; kernel_rfl
def q0s := subE (R := (List AV) × Int) q8y fun t m K => qf (bxC (m.s 3)) (qh (bxC (m.s 2)) (qh (bxC (m.s 1)) (qh (bxC (m.s 0)) (qni (gL [t 0] 0))))) (qyo (gL [t 0] 0) (gB (bxC (m.s 0)) 0) (gI (bxC (m.s 0)) 1) (gI (bxC (m.s 0)) 2) (gI (bxC (m.s 0)) 3) (gB (bxC (m.s 1)) 0) (gI (bxC (m.s 1)) 1) (gI (bxC (m.s 1)) 2) (gI (bxC (m.s 1)) 3) (gB (bxC (m.s 2)) 0) (gI (bxC (m.s 2)) 1) (gI (bxC (m.s 2)) 2) (gI (bxC (m.s 2)) 3) (gB (bxC (m.s 3)) 0) (gI (bxC (m.s 3)) 1) (gI (bxC (m.s 3)) 2) (gI (bxC (m.s 3)) 3) (gI (bxC (m.s 3)) 4) (gS (bxC (m.s 3)) 6) (gI (bxC (m.s 3)) 7) K)
theorem qbcx : qdb Try.prog (TIof Try.prog) 91 0 (kret [.t 4, .t 5] qlf) (scOf qn5) (q0s) :=
  qis tabOk follows (q95) (qy (by kernel_rfl)) fun t m K => qbcw _ _ _ _ _ _ _ _ _ _ _ _ _ _ _ _ _ _ _ _ _ K
def qbg3 : Shp := ⟨[(0, .one (.l (.sl 8))), (1, .st (lk qe))], []⟩
def qzv (v0 : List AV) (Aq : Bool) (Ar As At : Int) : Option ((List AV) × Int) :=
  (oB (qln Aq Ar As At) fun r1 => (bif (!r1.2.2) then (some (([] : List AV), (11 : Int))) else (oB (qnt v0 (gB r1.1.cells 0) (gI r1.1.cells 1) (gI r1.1.cells 2) (gI r1.1.cells 3)) fun r2 => (oB (qnt v0 (gB r1.2.1.cells 0) (gI r1.2.1.cells 1) (gI r1.2.1.cells 2) (gI r1.2.1.cells 3)) fun r3 => (bif ((!r2.2) || (!r3.2)) then (some (([] : List AV), (11 : Int))) else (oB (qfw v0 Aq Ar As At) fun r4 => (bif (decide (r4 ≥ (0 : Int))) then (some (([] : List AV), (12 : Int))) else (bif (((((gI r2.1.cells 4) != (gI r3.1.cells 4)) || (!((gS r2.1.cells 6) == (gS r3.1.cells 6)))) || ((gI r2.1.cells 7) != (gI r3.1.cells 7))) || ((gI r2.1.cells 4) == (3 : Int))) then (some (([] : List AV), (21 : Int))) else (qni v0 Aq Ar As At (gB r1.1.cells 0) (gI r1.1.cells 1) (gI r1.1.cells 2) (gI r1.1.cells 3) (gB r1.2.1.cells 0) (gI r1.2.1.cells 1) (gI r1.2.1.cells 2) (gI r1.2.1.cells 3) (gB r2.1.cells 0) (gI r2.1.cells 1) (gI r2.1.cells 2) (gI r2.1.cells 3) (gI r2.1.cells 4) (gS r2.1.cells 5) (gS r2.1.cells 6) (gI r2.1.cells 7) (fun b3_5q5 => (oB (qfw v0 (gB r1.1.cells 0) (gI r1.1.cells 1) (gI r1.1.cells 2) (gI r1.1.cells 3)) fun r6 => (oB (qf7 v0 r6) fun r7 => (oB (qfw r7 (gB r1.2.1.cells 0) (gI r1.2.1.cells 1) (gI r1.2.1.cells 2) (gI r1.2.1.cells 3)) fun r8 => (oB (qf7 r7 r8) fun r9 => (oB (qg4 r9 Aq Ar As At (gI r2.1.cells 4) b3_5q5 (gS r2.1.cells 6) (gI r2.1.cells 7)) fun r10 => (some (r10, (0 : Int))))))))))))))))))
def qp6 := hull qzv
theorem q49 : qp6 = qzv := ql _
def qzw : AC ((List AV) × Int) :=
  .seq (.reg [ao 3 (.box 1),
 ao 4 (.mv (.c .nils)),
 ao 5 (.mv (.c (.int .i64 0)))]) (.seq (.reg [ao 16 (.load true 4 3),
 .call (po 17 (.call 59 [16])) 59 qn4,
 ao 15 (.mv 17),
 ao 18 (.ext 15 0),
 ao 19 (.ext 15 1),
 ao 20 (.ext 15 2),
 ao 6 (.alloc [(.bool false), (.int .u64 0), (.int .u64 0), (.int .i64 0)]),
 ao 7 (.alloc [(.bool false), (.int .u64 0), (.int .u64 0), (.int .i64 0)]),
 an (.store 4 6 18),
 an (.store 4 7 19),
 ao 8 (.mv 20)]) (.seq (.seq (.reg [ao 21 (.mv 8),
 ao 22 (.un .not 21)]) (.cond 22 (.seq (.reg [ao 4 (.mv (.c .nils)),
 ao 5 (.mv (.c (.int .i64 11)))]) (.seq (.view [.eta 4 (.one (.sl 8))]) (.ret))) (.skip))) (.seq (.reg [ao 24 (.mv 0),
 ao 25 (.load true 4 6),
 .call (po 26 (.call 24 [24, 25])) 24 qqo,
 ao 23 (.mv 26),
 ao 27 (.ext 23 0),
 ao 28 (.ext 23 1),
 ao 9 (.alloc [(.bool false), (.int .u64 0), (.int .u64 0), (.int .i64 0), (.int .i64 0), (.str []), (.str []), (.int .i64 0)]),
 an (.store 8 9 27),
 ao 10 (.mv 28)]) (.seq (.reg [ao 30 (.mv 0),
 ao 31 (.load true 4 7),
 .call (po 32 (.call 24 [30, 31])) 24 qqo,
 ao 29 (.mv 32),
 ao 33 (.ext 29 0),
 ao 34 (.ext 29 1),
 ao 11 (.alloc [(.bool false), (.int .u64 0), (.int .u64 0), (.int .i64 0), (.int .i64 0), (.str []), (.str []), (.int .i64 0)]),
 an (.store 8 11 33),
 ao 12 (.mv 34)]) (.seq (.seq (.reg [ao 35 (.mv 10),
 ao 36 (.un .not 35),
 ao 37 (.mv 36),
 .grp 37 false [(pg 38 37 false (.mv 12)), (pg 39 37 false (.un .not 38))] 40 39]) (.cond 40 (.seq (.reg [ao 4 (.mv (.c .nils)),
 ao 5 (.mv (.c (.int .i64 11)))]) (.seq (.view [.eta 4 (.one (.sl 8))]) (.ret))) (.skip))) (.seq (.seq (.reg [ao 41 (.mv 0),
 ao 42 (.load true 4 3),
 .call (po 43 (.call 51 [41, 42])) 51 qfx,
 ao 44 (.bin .geq 43 (.c (.int .i64 0)))]) (.cond 44 (.seq (.reg [ao 4 (.mv (.c .nils)),
 ao 5 (.mv (.c (.int .i64 12)))]) (.seq (.view [.eta 4 (.one (.sl 8))]) (.ret))) (.skip))) (.seq (.seq (.reg [ao 45 (.fa 4 9),
 ao 46 (.load false 1 45),
 ao 47 (.fa 4 11),
 ao 48 (.load false 1 47),
 ao 49 (.bin .neq 46 48),
 ao 50 (.mv 49),
 .grp 50 false [(pg 51 50 false (.fa 6 9)), (pg 52 50 false (.load false 1 51)), (pg 53 50 false (.fa 6 11)), (pg 54 50 false (.load false 1 53)), (pg 55 50 false (.bin .neq 52 54))] 56 55,
 ao 57 (.mv 56),
 .grp 57 false [(pg 58 57 false (.fa 7 9)), (pg 59 57 false (.load false 1 58)), (pg 60 57 false (.fa 7 11)), (pg 61 57 false (.load false 1 60)), (pg 62 57 false (.bin .neq 59 61))] 63 62,
 ao 64 (.mv 63),
 .grp 64 false [(pg 65 64 false (.fa 4 9)), (pg 66 64 false (.load false 1 65)), (pg 67 64 false (.bin .eql 66 (.c (.int .i64 3))))] 68 67]) (.cond 68 (.seq (.reg [ao 4 (.mv (.c .nils)),
 ao 5 (.mv (.c (.int .i64 21)))]) (.seq (.view [.eta 4 (.one (.sl 8))]) (.ret))) (.skip))) (.seq (.seq (.view [.sel [0, 3, 6, 7, 9] [0, 1, 2, 3]]) (.sub (scOf qn5) q0s)) (.seq (.reg [ao 76 (.load true 4 3),
 ao 77 (.fa 0 9),
 an (.store 4 77 76)]) (.seq (.reg [ao 78 (.mv 0),
 ao 79 (.mv 0),
 ao 80 (.load true 4 6),
 .call (po 81 (.call 51 [79, 80])) 51 qfx,
 .callc (po 82 (.call 56 [78, 81])) 56 qk6,
 ao 14 (.mv 82)]) (.seq (.reg [ao 83 (.mv 14),
 ao 84 (.mv 14),
 ao 85 (.load true 4 7),
 .call (po 86 (.call 51 [84, 85])) 51 qfx,
 .callc (po 87 (.call 56 [83, 86])) 56 qk6,
 ao 14 (.mv 87)]) (.seq (.reg [ao 88 (.mv 14),
 ao 89 (.load true 8 9),
 .callc (po 90 (.call 53 [88, 89])) 53 qlz,
 ao 4 (.mv 90),
 ao 5 (.mv (.c (.int .i64 0)))]) (.ret)))))))))))))
theorem qbjy : AC.ok Try.prog (TIof Try.prog) 91 0 (kret [.t 4, .t 5] qlf) qzw := qp (zA (qd.ok qvj) (zA (qd.ok qzt) (zA (qd.ok qzt) (zA (qd.ok qkd) (zA qbcx (zA (qd.ok qkd) (zA (qd.ok qo0) (zA (qd.ok qkd) (zA (qd.ok qo0) (zA (qd.ok qqm) trivial))))))))))
theorem qbmf (v0 : List AV) (Aq : Bool) (Ar As At : Int) : den 0 (kret [.t 4, .t 5] qlf) qzw (qk [(0, (.sl 8 v0)), (1, .agg (qc Aq Ar As At))]) (qi []) (kend (kret [.t 4, .t 5] qlf)) = qp6 v0 Aq Ar As At := by
  rw [q49]; kernel_rfl
theorem qbmg : cFn (TIof Try.prog) Try.f22 = some ⟨91, [.t 4, .t 5], scOf qzw⟩ := by kernel_rfl
def qbmh (xs : List AV) : Option ((List AV) × Int) := qh ((qm xs) 1).cells (qp6 (gL [(qm xs) 0] 0))
def q3v {R : Type} : List AV → (AV → Option R) → Option R := entF qbg3 qbmh qbg2
theorem qbmi {R : Type} : qd Try.prog 22 (q3v (R := R)) :=
  qce tabOk follows Try.func22 (by kernel_rfl) qbmg (fun z r h => by
 obtain ⟨h1, h2⟩ := qo h
 cases h2
 exact (qhm h1).symm) qbjy (qy (by kernel_rfl)) fun xs => qbmf _ _ _ _ _
def q8z : Shp := ⟨[(0, .st (lk qa)), (1, .one (.ptr 1 0))], [.box true (lk qa), .box true (lk qe), .box true (lk qa), .box true (lk qa), .box true (lk qa)]⟩
def qyq {R : Type} (KK : AV → Mem → Option R) := (fun v3 Ai Aj Ak Al Am An Ao Ap Au Av Aw Ax A2 A3 A4 A5 Be Bf Bg Bh A6 A7 A8 A9 Ba Bd Bb Bc Bi Bj Bl Bm Bn Bo Bp Bq => KK (.bool v3) (qi [(some (.box true [(.bool Ai), (.int .u64 Aj), (.int .u64 Ak), (.int .i64 Al), (.int .i64 Am), (.str An), (.str Ao), (.int .i64 Ap)])), (some (.box true [(.bool Au), (.int .u64 Av), (.int .u64 Aw), (.int .i64 Ax)])), (some (.box true [(.bool A2), (.int .u64 A3), (.int .u64 A4), (.int .i64 A5), (.int .i64 Be), (.str Bf), (.str Bg), (.int .i64 Bh)])), (some (.box true [(.bool A6), (.int .u64 A7), (.int .u64 A8), (.int .i64 A9), (.int .i64 Ba), (.str Bd), (.str Bb), (.int .i64 Bc)])), (some (.box true [(.bool Bi), (.int .u64 Bj), (.int .u64 Bl), (.int .i64 Bm), (.int .i64 Bn), (.str Bo), (.str Bp), (.int .i64 Bq)]))]))
def qsl {R : Type}  (Aa : Bool) (Ab Ac Ad Ae : Int) (Af Ag : List UInt8) (Ah : Int) (Ai : Bool) (Aj Ak Al Am : Int) (An Ao : List UInt8) (Ap : Int) (Au : Bool) (Av Aw Ax : Int) (A2 : Bool) (A3 A4 A5 Be : Int) (Bf Bg : List UInt8) (Bh : Int) (A6 : Bool) (A7 A8 A9 Ba : Int) (Bd Bb : List UInt8) (Bc : Int) (Bi : Bool) (Bj Bl Bm Bn : Int) (Bo Bp : List UInt8) (Bq : Int) (kr : Bool → Bool → Int → Int → Int → Int → (List UInt8) → (List UInt8) → Int → Bool → Int → Int → Int → Bool → Int → Int → Int → Int → (List UInt8) → (List UInt8) → Int → Bool → Int → Int → Int → Int → (List UInt8) → (List UInt8) → Int → Bool → Int → Int → Int → Int → (List UInt8) → (List UInt8) → Int → Option R) : Option R :=
  (oB (qgy Au Av Aw Ax Aa Ab Ac Ad) fun r1 => (kr r1 Ai Aj Ak Al Am An Ao Ap Au Av Aw Ax A2 A3 A4 A5 Be Bf Bg Bh A6 A7 A8 A9 Ba Bd Bb Bc Bi Bj Bl Bm Bn Bo Bp Bq))
def qqr {R : Type} := hull (qsl (R := R))
theorem qyr {R : Type} : qqr (R := R) = qsl := ql _
def qi0 {R : Type} (KK : AV → Mem → Option R) : AC R :=
  .seq (.reg [ao 2 (.box 0),
 ao 3 (.mv (.c (.bool false)))]) (.seq (.reg [ao 4 (.load true 4 1),
 ao 5 (.fa 0 2),
 ao 6 (.load true 4 5),
 .call (po 7 (.call 64 [4, 6])) 64 qgn,
 ao 3 (.mv 7)]) (.seq (.view [.sel [3] [0, 1, 2, 3, 4]]) (.ret)))
theorem q96 {R : Type} (KK : AV → Mem → Option R) : AC.ok Try.prog (TIof Try.prog) 8 5 (qn [.t 3] KK) (qi0 KK) := qp (zA (qd.ok qll) trivial)
theorem qbcy {R : Type} (KK : AV → Mem → Option R) (Aa : Bool) (Ab Ac Ad Ae : Int) (Af Ag : List UInt8) (Ah : Int) (Ai : Bool) (Aj Ak Al Am : Int) (An Ao : List UInt8) (Ap : Int) (Au : Bool) (Av Aw Ax : Int) (A2 : Bool) (A3 A4 A5 Be : Int) (Bf Bg : List UInt8) (Bh : Int) (A6 : Bool) (A7 A8 A9 Ba : Int) (Bd Bb : List UInt8) (Bc : Int) (Bi : Bool) (Bj Bl Bm Bn : Int) (Bo Bp : List UInt8) (Bq : Int) : den 5 (qn [.t 3] KK) (qi0 KK) (qk [(0, .agg (qb Aa Ab Ac Ad Ae Af Ag Ah)), (1, (.ptr 1 0))]) (qi [(some (.box true (qb Ai Aj Ak Al Am An Ao Ap))), (some (.box true (qc Au Av Aw Ax))), (some (.box true (qb A2 A3 A4 A5 Be Bf Bg Bh))), (some (.box true (qb A6 A7 A8 A9 Ba Bd Bb Bc))), (some (.box true (qb Bi Bj Bl Bm Bn Bo Bp Bq)))]) (kend (qn [.t 3] KK)) = qqr Aa Ab Ac Ad Ae Af Ag Ah Ai Aj Ak Al Am An Ao Ap Au Av Aw Ax A2 A3 A4 A5 Be Bf Bg Bh A6 A7 A8 A9 Ba Bd Bb Bc Bi Bj Bl Bm Bn Bo Bp Bq (qyq KK) := by
  rw [qyr]; kernel_rfl
theorem qbcz : cFn (TIof Try.prog) Try.f63 = some ⟨8, [.t 3], scOf (qi0 (R := Unit) (fun _ _ => none))⟩ := by kernel_rfl
theorem qbc0 {R : Type} (KK : AV → Mem → Option R) : (qi0 KK).er = some (scOf (qi0 (R := Unit) (fun _ _ => none))) := by kernel_rfl
def q0t {R : Type} : List AV → Mem → (AV → Mem → Option R) → Option R := refE q8z fun xs m KK => qf (bxC (m.s 4)) (qf (bxC (m.s 3)) (qf (bxC (m.s 2)) (qh (bxC (m.s 1)) (qf (bxC (m.s 0)) (qf ((qm xs) 0).cells (qqr)))))) (qyq KK)
theorem qbc1 {R : Type} : qfp Try.prog 63 (q0t (R := R)) :=
  qld (ac := fun KK => qi0 KK) tabOk follows Try.func63 (by kernel_rfl) qbcz (fun KK => q96 KK) (fun KK => qbc0 KK) rfl fun xs m KK => qbcy KK _ _ _ _ _ _ _ _ _ _ _ _ _ _ _ _ _ _ _ _ _ _ _ _ _ _ _ _ _ _ _ _ _ _ _ _ _ _ _ _ _ _ _ _
def qj0 {R : Type}  (v7 : Bool) (v10 : List AV) (v11 v12 : Int) (K : Ex → Env → Mem → Option R) := (fun z_v31 z_b0_0 z_b0_1 z_b0_2 z_b0_3 z_b0_4 z_b0_5 z_b0_6 z_b0_7 z_b1_0 z_b1_1 z_b1_2 z_b1_3 z_b2_0 z_b2_1 z_b2_2 z_b2_3 z_b2_4 z_b2_5 z_b2_6 z_b2_7 z_b3_0 z_b3_1 z_b3_2 z_b3_3 z_b3_4 z_b3_5 z_b3_6 z_b3_7 z_b4_0 z_b4_1 z_b4_2 z_b4_3 z_b4_4 z_b4_5 z_b4_6 z_b4_7 => K .norm (qk [(1, (.func 63 [(.ptr 1 0)])), (4, (.ptr 2 0)), (6, (.ptr 3 0)), (7, (.bool v7)), (9, (.ptr 4 0)), (10, (.sl 8 v10)), (11, (.int .i64 v11)), (12, (.int .i64 v12)), (31, (.bool z_v31))]) (qi [(some (.box true (qb z_b0_0 z_b0_1 z_b0_2 z_b0_3 z_b0_4 z_b0_5 z_b0_6 z_b0_7))), (some (.box true (qc z_b1_0 z_b1_1 z_b1_2 z_b1_3))), (some (.box true (qb z_b2_0 z_b2_1 z_b2_2 z_b2_3 z_b2_4 z_b2_5 z_b2_6 z_b2_7))), (some (.box true (qb z_b3_0 z_b3_1 z_b3_2 z_b3_3 z_b3_4 z_b3_5 z_b3_6 z_b3_7))), (some (.box true (qb z_b4_0 z_b4_1 z_b4_2 z_b4_3 z_b4_4 z_b4_5 z_b4_6 z_b4_7)))]))
def qpl : Shp := ⟨[(1, .one (.fn 63 [(1, 0)])), (4, .one (.ptr 2 0)), (6, .one (.ptr 3 0)), (7, .one (.l .b)), (9, .one (.ptr 4 0)), (10, .one (.l (.sl 8))), (11, .one (.l (.i .i64))), (12, .one (.l (.i .i64)))], [.box true (lk qa), .box true (lk qe), .box true (lk qa), .box true (lk qa), .box true (lk qa)]⟩
def qfr {R : Type}  (v7 : Bool) (v10 : List AV) (v11 v12 : Int) (Ai : Bool) (Aj Ak Al Am : Int) (An Ao : List UInt8) (Ap : Int) (Au : Bool) (Av Aw Ax : Int) (A2 : Bool) (A3 A4 A5 Be : Int) (Bf Bg : List UInt8) (Bh : Int) (A6 : Bool) (A7 A8 A9 Ba : Int) (Bd Bb : List UInt8) (Bc : Int) (Bi : Bool) (Bj Bl Bm Bn : Int) (Bo Bp : List UInt8) (Bq : Int) (kn : Bool → Bool → Int → Int → Int → Int → (List UInt8) → (List UInt8) → Int → Bool → Int → Int → Int → Bool → Int → Int → Int → Int → (List UInt8) → (List UInt8) → Int → Bool → Int → Int → Int → Int → (List UInt8) → (List UInt8) → Int → Bool → Int → Int → Int → Int → (List UInt8) → (List UInt8) → Int → Option R) : Option R :=
  (qqr Bi Bj Bl Bm Bn Bo Bp Bq Ai Aj Ak Al Am An Ao Ap Au Av Aw Ax A2 A3 A4 A5 Be Bf Bg Bh A6 A7 A8 A9 Ba Bd Bb Bc Bi Bj Bl Bm Bn Bo Bp Bq fun v3q1 b0_0q2 b0_1q3 b0_2q4 b0_3q5 b0_4q6 b0_5q7 b0_6q8 b0_7q9 b1_0q10 b1_1q11 b1_2q12 b1_3q13 b2_0q14 b2_1q15 b2_2q16 b2_3q17 b2_4q18 b2_5q19 b2_6q20 b2_7q21 b3_0q22 b3_1q23 b3_2q24 b3_3q25 b3_4q26 b3_5q27 b3_6q28 b3_7q29 b4_0q30 b4_1q31 b4_2q32 b4_3q33 b4_4q34 b4_5q35 b4_6q36 b4_7q37 => (bif v3q1 then (bif (!v7) then (kn true b0_0q2 b0_1q3 b0_2q4 b0_3q5 b0_4q6 b0_5q7 b0_6q8 b0_7q9 b1_0q10 b1_1q11 b1_2q12 b1_3q13 b2_0q14 b2_1q15 b2_2q16 b2_3q17 b2_4q18 b2_5q19 b2_6q20 b2_7q21 b3_0q22 b3_1q23 b3_2q24 b3_3q25 b3_4q26 b3_5q27 b3_6q28 b3_7q29 b4_0q30 b4_1q31 b4_2q32 b4_3q33 b4_4q34 b4_5q35 b4_6q36 b4_7q37) else (kn (decide (b4_3q33 > b3_3q25)) b0_0q2 b0_1q3 b0_2q4 b0_3q5 b0_4q6 b0_5q7 b0_6q8 b0_7q9 b1_0q10 b1_1q11 b1_2q12 b1_3q13 b2_0q14 b2_1q15 b2_2q16 b2_3q17 b2_4q18 b2_5q19 b2_6q20 b2_7q21 b3_0q22 b3_1q23 b3_2q24 b3_3q25 b3_4q26 b3_5q27 b3_6q28 b3_7q29 b4_0q30 b4_1q31 b4_2q32 b4_3q33 b4_4q34 b4_5q35 b4_6q36 b4_7q37)) else (kn false b0_0q2 b0_1q3 b0_2q4 b0_3q5 b0_4q6 b0_5q7 b0_6q8 b0_7q9 b1_0q10 b1_1q11 b1_2q12 b1_3q13 b2_0q14 b2_1q15 b2_2q16 b2_3q17 b2_4q18 b2_5q19 b2_6q20 b2_7q21 b3_0q22 b3_1q23 b3_2q24 b3_3q25 b3_4q26 b3_5q27 b3_6q28 b3_7q29 b4_0q30 b4_1q31 b4_2q32 b4_3q33 b4_4q34 b4_5q35 b4_6q36 b4_7q37)))
def qel {R : Type} := hull (qfr (R := R))
theorem qj1 {R : Type} : qel (R := R) = qfr := ql _
def qdx {R : Type} (KK : AV → Mem → Option R) : AC R :=
  .seq (.reg [ao 16 (.mv 1),
 ao 17 (.load true 8 9),
 .st (.sel [1, 4, 6, 7, 9, 10, 11, 12, 16, 17] [0, 1, 2, 3, 4]),
 .callr (po 18 (.callv 16 [17])) 63 q0t,
 ao 19 (.mv 18),
 ag 20 19 true (.mv 7),
 ag 21 19 true (.un .not 20),
 ag 22 19 true (.mv 21),
 ag 23 22 false (.fa 0 9),
 ag 24 22 false (.fa 3 23),
 ag 25 22 false (.load false 1 24),
 ag 26 22 false (.fa 0 6),
 ag 27 22 false (.fa 3 26),
 ag 28 22 false (.load false 1 27),
 ag 29 22 false (.bin .gtr 25 28),
 ag 30 19 true (.pick 22 (.c (.bool true)) 29),
 ao 31 (.pick 19 30 (.c (.bool false)))]) (.view [.sel [1, 4, 6, 7, 9, 10, 11, 12, 31] [0, 1, 2, 3, 4]])
theorem qqe {R : Type} (KK : AV → Mem → Option R) : AC.ok Try.prog (TIof Try.prog) 36 2 (qn [(.cell 4 true 8), .t 5] KK) (qdx KK) := qp (zA qbc1 trivial)
theorem qq2 {R : Type} (KK : AV → Mem → Option R) (v7 : Bool) (v10 : List AV) (v11 v12 : Int) (Ai : Bool) (Aj Ak Al Am : Int) (An Ao : List UInt8) (Ap : Int) (Au : Bool) (Av Aw Ax : Int) (A2 : Bool) (A3 A4 A5 Be : Int) (Bf Bg : List UInt8) (Bh : Int) (A6 : Bool) (A7 A8 A9 Ba : Int) (Bd Bb : List UInt8) (Bc : Int) (Bi : Bool) (Bj Bl Bm Bn : Int) (Bo Bp : List UInt8) (Bq : Int) (K : Ex → Env → Mem → Option R) : den 2 (qn [(.cell 4 true 8), .t 5] KK) (qdx KK) (qk [(1, (.func 63 [(.ptr 1 0)])), (4, (.ptr 2 0)), (6, (.ptr 3 0)), (7, (.bool v7)), (9, (.ptr 4 0)), (10, (.sl 8 v10)), (11, (.int .i64 v11)), (12, (.int .i64 v12))]) (qi [(some (.box true (qb Ai Aj Ak Al Am An Ao Ap))), (some (.box true (qc Au Av Aw Ax))), (some (.box true (qb A2 A3 A4 A5 Be Bf Bg Bh))), (some (.box true (qb A6 A7 A8 A9 Ba Bd Bb Bc))), (some (.box true (qb Bi Bj Bl Bm Bn Bo Bp Bq)))]) K = qel v7 v10 v11 v12 Ai Aj Ak Al Am An Ao Ap Au Av Aw Ax A2 A3 A4 A5 Be Bf Bg Bh A6 A7 A8 A9 Ba Bd Bb Bc Bi Bj Bl Bm Bn Bo Bp Bq (qj0 v7 v10 v11 v12 K) := by
  rw [qj1]; kernel_rfl
def qkl {R : Type} (KK : AV → Mem → Option R) := subE (R := R) qpl fun t m K => qf (bxC (m.s 4)) (qf (bxC (m.s 3)) (qf (bxC (m.s 2)) (qh (bxC (m.s 1)) (qf (bxC (m.s 0)) (qel (gB [t 7] 0) (gL [t 10] 0) (gI [t 11] 0) (gI [t 12] 0)))))) (qj0 (gB [t 7] 0) (gL [t 10] 0) (gI [t 11] 0) (gI [t 12] 0) K)
theorem qq3 {R : Type} (KK : AV → Mem → Option R) : qdb Try.prog (TIof Try.prog) 36 2 (qn [(.cell 4 true 8), .t 5] KK) (scOf (qdx KK)) (qkl KK) :=
  qis tabOk follows (qqe KK) (qy (by kernel_rfl)) fun t m K => qq2 KK _ _ _ _ _ _ _ _ _ _ _ _ _ _ _ _ _ _ _ _ _ _ _ _ _ _ _ _ _ _ _ _ _ _ _ _ _ _ _ _ K
def qdl {R : Type}  (K : Ex → Env → Mem → Option R) := (fun z_v7 z_b0_0 z_b0_1 z_b0_2 z_b0_3 z_b0_4 z_b0_5 z_b0_6 z_b0_7 z_b1_0 z_b1_1 z_b1_2 z_b1_3 z_b2_0 z_b2_1 z_b2_2 z_b2_3 z_b2_4 z_b2_5 z_b2_6 z_b2_7 z_b3_0 z_b3_1 z_b3_2 z_b3_3 z_b3_4 z_b3_5 z_b3_6 z_b3_7 => K (.exit 0) (qk [(4, (.ptr 2 0)), (6, (.ptr 3 0)), (7, (.bool z_v7))]) (qi [(some (.box true (qb z_b0_0 z_b0_1 z_b0_2 z_b0_3 z_b0_4 z_b0_5 z_b0_6 z_b0_7))), (some (.box true (qc z_b1_0 z_b1_1 z_b1_2 z_b1_3))), (some (.box true (qb z_b2_0 z_b2_1 z_b2_2 z_b2_3 z_b2_4 z_b2_5 z_b2_6 z_b2_7))), (some (.box true (qb z_b3_0 z_b3_1 z_b3_2 z_b3_3 z_b3_4 z_b3_5 z_b3_6 z_b3_7)))]))
def qpm : Shp := ⟨[(1, .one (.fn 63 [(1, 0)])), (4, .one (.ptr 2 0)), (6, .one (.ptr 3 0)), (7, .one (.l .b)), (10, .one (.l (.sl 8))), (11, .one (.l (.i .i64))), (12, .one (.l (.i .i64)))], [.box true (lk qa), .box true (lk qe), .box true (lk qa), .box true (lk qa)]⟩
def qfk (v7 : Bool) (v10 : List AV) (v11 v12 : Int) (Ai : Bool) (Aj Ak Al Am : Int) (An Ao : List UInt8) (Ap : Int) (Au : Bool) (Av Aw Ax : Int) (A2 : Bool) (A3 A4 A5 Be : Int) (Bf Bg : List UInt8) (Bh : Int) (A6 : Bool) (A7 A8 A9 Ba : Int) (Bd Bb : List UInt8) (Bc : Int) : Env := qk [(1, (.func 63 [(.ptr 1 0)])), (4, (.ptr 2 0)), (6, (.ptr 3 0)), (7, (.bool v7)), (10, (.sl 8 v10)), (11, (.int .i64 v11)), (12, (.int .i64 v12))]
def qfl (v7 : Bool) (v10 : List AV) (v11 v12 : Int) (Ai : Bool) (Aj Ak Al Am : Int) (An Ao : List UInt8) (Ap : Int) (Au : Bool) (Av Aw Ax : Int) (A2 : Bool) (A3 A4 A5 Be : Int) (Bf Bg : List UInt8) (Bh : Int) (A6 : Bool) (A7 A8 A9 Ba : Int) (Bd Bb : List UInt8) (Bc : Int) : Mem := qi [(some (.box true (qb Ai Aj Ak Al Am An Ao Ap))), (some (.box true (qc Au Av Aw Ax))), (some (.box true (qb A2 A3 A4 A5 Be Bf Bg Bh))), (some (.box true (qb A6 A7 A8 A9 Ba Bd Bb Bc)))]
def qcl {R : Type}  (v7 : Bool) (v10 : List AV) (v11 v12 : Int) (Ai : Bool) (Aj Ak Al Am : Int) (An Ao : List UInt8) (Ap : Int) (Au : Bool) (Av Aw Ax : Int) (A2 : Bool) (A3 A4 A5 Be : Int) (Bf Bg : List UInt8) (Bh : Int) (A6 : Bool) (A7 A8 A9 Ba : Int) (Bd Bb : List UInt8) (Bc : Int) (next : Bool → Int → Bool → Int → Int → Int → Int → (List UInt8) → (List UInt8) → Int → Bool → Int → Int → Int → Bool → Int → Int → Int → Int → (List UInt8) → (List UInt8) → Int → Bool → Int → Int → Int → Int → (List UInt8) → (List UInt8) → Int → Option R) (kx0 : Bool → Bool → Int → Int → Int → Int → (List UInt8) → (List UInt8) → Int → Bool → Int → Int → Int → Bool → Int → Int → Int → Int → (List UInt8) → (List UInt8) → Int → Bool → Int → Int → Int → Int → (List UInt8) → (List UInt8) → Int → Option R) : Option R :=
  (bif (decide (v12 < v11)) then (oB (ixB v10 v12) fun y1 => (bif fitC qa y1.cells then (qel v7 v10 v11 v12 Ai Aj Ak Al Am An Ao Ap Au Av Aw Ax A2 A3 A4 A5 Be Bf Bg Bh A6 A7 A8 A9 Ba Bd Bb Bc (gB y1.cells 0) (gI y1.cells 1) (gI y1.cells 2) (gI y1.cells 3) (gI y1.cells 4) (gS y1.cells 5) (gS y1.cells 6) (gI y1.cells 7) (fun v31q2 b0_0q3 b0_1q4 b0_2q5 b0_3q6 b0_4q7 b0_5q8 b0_6q9 b0_7q10 b1_0q11 b1_1q12 b1_2q13 b1_3q14 b2_0q15 b2_1q16 b2_2q17 b2_3q18 b2_4q19 b2_5q20 b2_6q21 b2_7q22 b3_0q23 b3_1q24 b3_2q25 b3_3q26 b3_4q27 b3_5q28 b3_6q29 b3_7q30 b4_0q31 b4_1q32 b4_2q33 b4_3q34 b4_4q35 b4_5q36 b4_6q37 b4_7q38 => (bif v31q2 then (next true (IntKind.i64.wrap (v12 + (1 : Int))) b0_0q3 b0_1q4 b0_2q5 b0_3q6 b0_4q7 b0_5q8 b0_6q9 b0_7q10 b1_0q11 b1_1q12 b1_2q13 b1_3q14 b2_0q15 b2_1q16 b2_2q17 b2_3q18 b2_4q19 b2_5q20 b2_6q21 b2_7q22 b4_0q31 b4_1q32 b4_2q33 b4_3q34 b4_4q35 b4_5q36 b4_6q37 b4_7q38) else (next v7 (IntKind.i64.wrap (v12 + (1 : Int))) b0_0q3 b0_1q4 b0_2q5 b0_3q6 b0_4q7 b0_5q8 b0_6q9 b0_7q10 b1_0q11 b1_1q12 b1_2q13 b1_3q14 b2_0q15 b2_1q16 b2_2q17 b2_3q18 b2_4q19 b2_5q20 b2_6q21 b2_7q22 b3_0q23 b3_1q24 b3_2q25 b3_3q26 b3_4q27 b3_5q28 b3_6q29 b3_7q30)))) else none)) else (kx0 v7 Ai Aj Ak Al Am An Ao Ap Au Av Aw Ax A2 A3 A4 A5 Be Bf Bg Bh A6 A7 A8 A9 Ba Bd Bb Bc))
def qdd {R : Type}  (v10 : List AV) (v11 : Int) (kx0 : Bool → Bool → Int → Int → Int → Int → (List UInt8) → (List UInt8) → Int → Bool → Int → Int → Int → Bool → Int → Int → Int → Int → (List UInt8) → (List UInt8) → Int → Bool → Int → Int → Int → Int → (List UInt8) → (List UInt8) → Int → Option R) : Nat → Bool → Int → Bool → Int → Int → Int → Int → (List UInt8) → (List UInt8) → Int → Bool → Int → Int → Int → Bool → Int → Int → Int → Int → (List UInt8) → (List UInt8) → Int → Bool → Int → Int → Int → Int → (List UInt8) → (List UInt8) → Int → Option R
  | 0 => (fun _ _ _ _ _ _ _ _ _ _ _ _ _ _ _ _ _ _ _ _ _ _ _ _ _ _ _ _ _ _ => none)
  | n + 1 => (fun v7 v12 Ai Aj Ak Al Am An Ao Ap Au Av Aw Ax A2 A3 A4 A5 Be Bf Bg Bh A6 A7 A8 A9 Ba Bd Bb Bc => qcl v7 v10 v11 v12 Ai Aj Ak Al Am An Ao Ap Au Av Aw Ax A2 A3 A4 A5 Be Bf Bg Bh A6 A7 A8 A9 Ba Bd Bb Bc (qdd v10 v11 kx0 n) kx0)
def qem {R : Type} := hull (qdd (R := R))
theorem qj2 {R : Type} : qem (R := R) = qdd := ql _
def qcm {R : Type} (KK : AV → Mem → Option R) : AC R :=
  .seq (.reg [ao 13 (.bin .lss 12 11)]) (.seq (.cond 13 (.skip) (.seq (.view [.sel [4, 6, 7] [0, 1, 2, 3]]) (.exit 0))) (.seq (.block 1 (.seq (.reg [ao 14 (.ia 8 10 12),
 .st (.etac 14 qa),
 ao 15 (.load true 8 14),
 ao 9 (.alloc [(.bool false), (.int .u64 0), (.int .u64 0), (.int .i64 0), (.int .i64 0), (.str []), (.str []), (.int .i64 0)]),
 an (.store 8 9 15)]) (.seq (.seq (.view [.sel [1, 4, 6, 7, 9, 10, 11, 12] [0, 1, 2, 3, 4]]) (.sub (scOf (qdx KK)) (qkl KK))) (.cond 31 (.reg [ao 32 (.load true 8 9),
 an (.store 8 6 32),
 ao 7 (.mv (.c (.bool true)))]) (.skip))))) (.seq (.reg [ao 33 (.bin .add 12 (.c (.int .i64 1))),
 ao 12 (.mv 33)]) (.view [.sel [1, 4, 6, 7, 10, 11, 12] [0, 1, 2, 3]]))))
theorem qqf {R : Type} (KK : AV → Mem → Option R) : AC.ok Try.prog (TIof Try.prog) 36 2 (qn [(.cell 4 true 8), .t 5] KK) (qcm KK) := qp (zA (qq3 KK) trivial)
theorem qpn {R : Type} (KK : AV → Mem → Option R) (v7 : Bool) (v10 : List AV) (v11 v12 : Int) (Ai : Bool) (Aj Ak Al Am : Int) (An Ao : List UInt8) (Ap : Int) (Au : Bool) (Av Aw Ax : Int) (A2 : Bool) (A3 A4 A5 Be : Int) (Bf Bg : List UInt8) (Bh : Int) (A6 : Bool) (A7 A8 A9 Ba : Int) (Bd Bb : List UInt8) (Bc : Int) (K : Ex → Env → Mem → Option R) : den 2 (qn [(.cell 4 true 8), .t 5] KK) (qcm KK) (qfk v7 v10 v11 v12 Ai Aj Ak Al Am An Ao Ap Au Av Aw Ax A2 A3 A4 A5 Be Bf Bg Bh A6 A7 A8 A9 Ba Bd Bb Bc) (qfl v7 v10 v11 v12 Ai Aj Ak Al Am An Ao Ap Au Av Aw Ax A2 A3 A4 A5 Be Bf Bg Bh A6 A7 A8 A9 Ba Bd Bb Bc) K = qcl v7 v10 v11 v12 Ai Aj Ak Al Am An Ao Ap Au Av Aw Ax A2 A3 A4 A5 Be Bf Bg Bh A6 A7 A8 A9 Ba Bd Bb Bc (fun z_v7 z_v12 z_b0_0 z_b0_1 z_b0_2 z_b0_3 z_b0_4 z_b0_5 z_b0_6 z_b0_7 z_b1_0 z_b1_1 z_b1_2 z_b1_3 z_b2_0 z_b2_1 z_b2_2 z_b2_3 z_b2_4 z_b2_5 z_b2_6 z_b2_7 z_b3_0 z_b3_1 z_b3_2 z_b3_3 z_b3_4 z_b3_5 z_b3_6 z_b3_7 => K .norm (qfk z_v7 v10 v11 z_v12 z_b0_0 z_b0_1 z_b0_2 z_b0_3 z_b0_4 z_b0_5 z_b0_6 z_b0_7 z_b1_0 z_b1_1 z_b1_2 z_b1_3 z_b2_0 z_b2_1 z_b2_2 z_b2_3 z_b2_4 z_b2_5 z_b2_6 z_b2_7 z_b3_0 z_b3_1 z_b3_2 z_b3_3 z_b3_4 z_b3_5 z_b3_6 z_b3_7) (qfl z_v7 v10 v11 z_v12 z_b0_0 z_b0_1 z_b0_2 z_b0_3 z_b0_4 z_b0_5 z_b0_6 z_b0_7 z_b1_0 z_b1_1 z_b1_2 z_b1_3 z_b2_0 z_b2_1 z_b2_2 z_b2_3 z_b2_4 z_b2_5 z_b2_6 z_b2_7 z_b3_0 z_b3_1 z_b3_2 z_b3_3 z_b3_4 z_b3_5 z_b3_6 z_b3_7)) (qdl K) := by kernel_rfl
theorem qq4 {R : Type} (KK : AV → Mem → Option R) (v10 : List AV) (v11 : Int) (K : Ex → Env → Mem → Option R) : ∀ (n : Nat) (v7 : Bool) (v12 : Int) (Ai : Bool) (Aj Ak Al Am : Int) (An Ao : List UInt8) (Ap : Int) (Au : Bool) (Av Aw Ax : Int) (A2 : Bool) (A3 A4 A5 Be : Int) (Bf Bg : List UInt8) (Bh : Int) (A6 : Bool) (A7 A8 A9 Ba : Int) (Bd Bb : List UInt8) (Bc : Int), qgc (den 2 (qn [(.cell 4 true 8), .t 5] KK) (qcm KK)) n (qfk v7 v10 v11 v12 Ai Aj Ak Al Am An Ao Ap Au Av Aw Ax A2 A3 A4 A5 Be Bf Bg Bh A6 A7 A8 A9 Ba Bd Bb Bc) (qfl v7 v10 v11 v12 Ai Aj Ak Al Am An Ao Ap Au Av Aw Ax A2 A3 A4 A5 Be Bf Bg Bh A6 A7 A8 A9 Ba Bd Bb Bc) K = qem v10 v11 (qdl K) n v7 v12 Ai Aj Ak Al Am An Ao Ap Au Av Aw Ax A2 A3 A4 A5 Be Bf Bg Bh A6 A7 A8 A9 Ba Bd Bb Bc := by
  rw [qj2]
  intro n
  induction n with
  | zero => intros; rfl
  | succ n ih =>
 intro v7 v12 Ai Aj Ak Al Am An Ao Ap Au Av Aw Ax A2 A3 A4 A5 Be Bf Bg Bh A6 A7 A8 A9 Ba Bd Bb Bc
 exact (qpn KK v7 v10 v11 v12 Ai Aj Ak Al Am An Ao Ap Au Av Aw Ax A2 A3 A4 A5 Be Bf Bg Bh A6 A7 A8 A9 Ba Bd Bb Bc (itK (den 2 (qn [(.cell 4 true 8), .t 5] KK) (qcm KK)) n K)).trans (congrArg (fun q => qcl v7 v10 v11 v12 Ai Aj Ak Al Am An Ao Ap Au Av Aw Ax A2 A3 A4 A5 Be Bf Bg Bh A6 A7 A8 A9 Ba Bd Bb Bc q (qdl K)) (funext fun v7 => funext fun v12 => funext fun Ai => funext fun Aj => funext fun Ak => funext fun Al => funext fun Am => funext fun An => funext fun Ao => funext fun Ap => funext fun Au => funext fun Av => funext fun Aw => funext fun Ax => funext fun A2 => funext fun A3 => funext fun A4 => funext fun A5 => funext fun Be => funext fun Bf => funext fun Bg => funext fun Bh => funext fun A6 => funext fun A7 => funext fun A8 => funext fun A9 => funext fun Ba => funext fun Bd => funext fun Bb => funext fun Bc => ih v7 v12 Ai Aj Ak Al Am An Ao Ap Au Av Aw Ax A2 A3 A4 A5 Be Bf Bg Bh A6 A7 A8 A9 Ba Bd Bb Bc))
def qkm {R : Type} (KK : AV → Mem → Option R) := subE (R := R) qpm fun t m K => qf (bxC (m.s 3)) (qf (bxC (m.s 2)) (qh (bxC (m.s 1)) (qf (bxC (m.s 0)) (qem (gL [t 10] 0) (gI [t 11] 0) (qdl K) FU (gB [t 7] 0) (gI [t 12] 0)))))
theorem qq5 {R : Type} (KK : AV → Mem → Option R) : qdb Try.prog (TIof Try.prog) 36 2 (qn [(.cell 4 true 8), .t 5] KK) (.loop (scOf (qcm KK))) (qkm KK) :=
  qgd tabOk follows (qqf KK) (qy (by kernel_rfl)) fun t m K => qq4 KK _ _ K FU _ _ _ _ _ _ _ _ _ _ _ _ _ _ _ _ _ _ _ _ _ _ _ _ _ _ _ _ _ _
def qr4 : Shp := ⟨[(0, .one (.l (.sl 8))), (1, .one (.fn 63 [(1, 0)]))], [.box true (lk qa), .box true (lk qe)]⟩
def ql0 {R : Type} (KK : AV → Mem → Option R) := (fun v5 Ai Aj Ak Al Am An Ao Ap Au Av Aw Ax A2 A3 A4 A5 Be Bf Bg Bh => KK (.tup [(.agg [(.bool A2), (.int .u64 A3), (.int .u64 A4), (.int .i64 A5), (.int .i64 Be), (.str Bf), (.str Bg), (.int .i64 Bh)]), (.bool v5)]) (qi [(some (.box true [(.bool Ai), (.int .u64 Aj), (.int .u64 Ak), (.int .i64 Al), (.int .i64 Am), (.str An), (.str Ao), (.int .i64 Ap)])), (some (.box true [(.bool Au), (.int .u64 Av), (.int .u64 Aw), (.int .i64 Ax)])), (some (.box true [(.bool A2), (.int .u64 A3), (.int .u64 A4), (.int .i64 A5), (.int .i64 Be), (.str Bf), (.str Bg), (.int .i64 Bh)]))]))
def qg0 {R : Type}  (v0 : List AV) (Ai : Bool) (Aj Ak Al Am : Int) (An Ao : List UInt8) (Ap : Int) (Au : Bool) (Av Aw Ax : Int) (kr : Bool → Bool → Int → Int → Int → Int → (List UInt8) → (List UInt8) → Int → Bool → Int → Int → Int → Bool → Int → Int → Int → Int → (List UInt8) → (List UInt8) → Int → Option R) : Option R :=
  (qem v0 (v0.length : Int) (fun v7q1 b0_0q2 b0_1q3 b0_2q4 b0_3q5 b0_4q6 b0_5q7 b0_6q8 b0_7q9 b1_0q10 b1_1q11 b1_2q12 b1_3q13 b2_0q14 b2_1q15 b2_2q16 b2_3q17 b2_4q18 b2_5q19 b2_6q20 b2_7q21 b3_0q22 b3_1q23 b3_2q24 b3_3q25 b3_4q26 b3_5q27 b3_6q28 b3_7q29 => (kr v7q1 b0_0q2 b0_1q3 b0_2q4 b0_3q5 b0_4q6 b0_5q7 b0_6q8 b0_7q9 b1_0q10 b1_1q11 b1_2q12 b1_3q13 b3_0q22 b3_1q23 b3_2q24 b3_3q25 b3_4q26 b3_5q27 b3_6q28 b3_7q29)) FU false (0 : Int) Ai Aj Ak Al Am An Ao Ap Au Av Aw Ax false (0 : Int) (0 : Int) (0 : Int) (0 : Int) ([] : List UInt8) ([] : List UInt8) (0 : Int) false (0 : Int) (0 : Int) (0 : Int) (0 : Int) ([] : List UInt8) ([] : List UInt8) (0 : Int))
def qfg {R : Type} := hull (qg0 (R := R))
theorem ql1 {R : Type} : qfg (R := R) = qg0 := ql _
def qc7 {R : Type} (KK : AV → Mem → Option R) : AC R :=
  .seq (.reg [ao 4 (.alloc [(.bool false), (.int .u64 0), (.int .u64 0), (.int .i64 0), (.int .i64 0), (.str []), (.str []), (.int .i64 0)]),
 ao 5 (.mv (.c (.bool false)))]) (.seq (.reg [ao 6 (.alloc [(.bool false), (.int .u64 0), (.int .u64 0), (.int .i64 0), (.int .i64 0), (.str []), (.str []), (.int .i64 0)])]) (.seq (.reg [ao 7 (.mv (.c (.bool false)))]) (.seq (.seq (.reg [ao 10 (.mv 0),
 ao 11 (.len false 10),
 ao 12 (.mv (.c (.int .i64 0)))]) (.block 0 (.seq (.view [.sel [1, 4, 6, 7, 10, 11, 12] [0, 1, 2, 3]]) (.sub (.loop (scOf (qcm KK))) (qkm KK))))) (.seq (.reg [ao 34 (.load true 8 6),
 ao 35 (.mv 7),
 an (.store 8 4 34),
 ao 5 (.mv 35)]) (.seq (.view [.sel [4, 5] [0, 1, 2]]) (.ret))))))
theorem qsm {R : Type} (KK : AV → Mem → Option R) : AC.ok Try.prog (TIof Try.prog) 36 2 (qn [(.cell 4 true 8), .t 5] KK) (qc7 KK) := qp (zA (qq5 KK) trivial)
theorem qsz {R : Type} (KK : AV → Mem → Option R) (v0 : List AV) (Ai : Bool) (Aj Ak Al Am : Int) (An Ao : List UInt8) (Ap : Int) (Au : Bool) (Av Aw Ax : Int) : den 2 (qn [(.cell 4 true 8), .t 5] KK) (qc7 KK) (qk [(0, (.sl 8 v0)), (1, (.func 63 [(.ptr 1 0)]))]) (qi [(some (.box true (qb Ai Aj Ak Al Am An Ao Ap))), (some (.box true (qc Au Av Aw Ax)))]) (kend (qn [(.cell 4 true 8), .t 5] KK)) = qfg v0 Ai Aj Ak Al Am An Ao Ap Au Av Aw Ax (ql0 KK) := by
  rw [ql1]; kernel_rfl
theorem qs0 : cFn (TIof Try.prog) Try.f62 = some ⟨36, [(.cell 4 true 8), .t 5], scOf (qc7 (R := Unit) (fun _ _ => none))⟩ := by kernel_rfl
theorem qs1 {R : Type} (KK : AV → Mem → Option R) : (qc7 KK).er = some (scOf (qc7 (R := Unit) (fun _ _ => none))) := by kernel_rfl
def qmh {R : Type} : List AV → Mem → (AV → Mem → Option R) → Option R := refE qr4 fun xs m KK => qh (bxC (m.s 1)) (qf (bxC (m.s 0)) (qfg (gL [(qm xs) 0] 0))) (ql0 KK)
theorem qs2 {R : Type} : qfp Try.prog 62 (qmh (R := R)) :=
  qld (ac := fun KK => qc7 KK) tabOk follows Try.func62 (by kernel_rfl) qs0 (fun KK => qsm KK) (fun KK => qs1 KK) rfl fun xs m KK => qsz KK _ _ _ _ _ _ _ _ _ _ _ _ _
def qsn (z : AV) : Option (AV × Bool) := cond (qmv [(.st [.b, (.i .u64), (.i .u64), (.i .i64), (.i .i64), .s, .s, (.i .i64)]), (.one .b)] z) (some ((gC (tpL z) 0), aB (gC (tpL z) 1))) none
def qbc2 (r : AV × Bool) : AV := .tup [qoa (.st [.b, (.i .u64), (.i .u64), (.i .i64), (.i .i64), .s, .s, (.i .i64)]) r.1, .bool r.2]
def qbc3 : Shp := ⟨[(0, .one (.l (.sl 8))), (1, .st (lk qe))], []⟩
def qvl (v0 : List AV) (Aq : Bool) (Ar As At : Int) : Option (AV × Bool) :=
  (qfg v0 false (0 : Int) (0 : Int) (0 : Int) (0 : Int) ([] : List UInt8) ([] : List UInt8) (0 : Int) Aq Ar As At fun v5q1 b0_0q2 b0_1q3 b0_2q4 b0_3q5 b0_4q6 b0_5q7 b0_6q8 b0_7q9 b1_0q10 b1_1q11 b1_2q12 b1_3q13 b2_0q14 b2_1q15 b2_2q16 b2_3q17 b2_4q18 b2_5q19 b2_6q20 b2_7q21 => (some ((.agg [(.bool b2_0q14), (.int .u64 b2_1q15), (.int .u64 b2_2q16), (.int .i64 b2_3q17), (.int .i64 b2_4q18), (.str b2_5q19), (.str b2_6q20), (.int .i64 b2_7q21)]), v5q1)))
def qm6 := hull qvl
theorem q2n : qm6 = qvl := ql _
def qvm : AC (AV × Bool) :=
  .seq (.reg [ao 3 (.box 1),
 ao 4 (.alloc [(.bool false), (.int .u64 0), (.int .u64 0), (.int .i64 0), (.int .i64 0), (.str []), (.str []), (.int .i64 0)]),
 ao 5 (.mv (.c (.bool false)))]) (.seq (.reg [ao 6 (.mv 0),
 ao 7 (.mkf 63 [3]),
 .st (.sel [4, 6, 7] [1, 0]),
 .callr (po 8 (.call 62 [6, 7])) 62 qmh,
 ao 9 (.ext 8 0),
 ao 10 (.ext 8 1),
 an (.store 8 4 9),
 ao 5 (.mv 10)]) (.ret))
theorem qbe5 : AC.ok Try.prog (TIof Try.prog) 11 0 (kret [(.cell 4 true 8), .t 5] qsn) qvm := qp (zA qs2 trivial)
theorem qbg4 (v0 : List AV) (Aq : Bool) (Ar As At : Int) : den 0 (kret [(.cell 4 true 8), .t 5] qsn) qvm (qk [(0, (.sl 8 v0)), (1, .agg (qc Aq Ar As At))]) (qi []) (kend (kret [(.cell 4 true 8), .t 5] qsn)) = qm6 v0 Aq Ar As At := by
  rw [q2n]; kernel_rfl
theorem qbg5 : cFn (TIof Try.prog) Try.f26 = some ⟨11, [(.cell 4 true 8), .t 5], scOf qvm⟩ := by kernel_rfl
def qbg6 (xs : List AV) : Option (AV × Bool) := qh ((qm xs) 1).cells (qm6 (gL [(qm xs) 0] 0))
def q0u {R : Type} : List AV → (AV → Option R) → Option R := entF qbc3 qbg6 qbc2
theorem qbg7 {R : Type} : qd Try.prog 26 (q0u (R := R)) :=
  qce tabOk follows Try.func26 (by kernel_rfl) qbg5 (fun z r h => by
 obtain ⟨h1, h2⟩ := qo h
 cases h2
 exact (qhm h1).symm) qbe5 (qy (by kernel_rfl)) fun xs => qbg4 _ _ _ _ _
def q80 : Shp := ⟨[(0, .st (lk qa)), (1, .one (.ptr 1 0))], [.box true (lk qa), .box true (lk qdj), .box true (lk qa), .box true (lk qa), .box true (lk qa)]⟩
def qys {R : Type} (KK : AV → Mem → Option R) := (fun v3 Ai Aj Ak Al Am An Ao Ap Au Av Aw A2 A3 A4 A5 Be Bf Bg Bh A6 A7 A8 A9 Ba Bd Bb Bc Bi Bj Bl Bm Bn Bo Bp Bq => KK (.bool v3) (qi [(some (.box true [(.bool Ai), (.int .u64 Aj), (.int .u64 Ak), (.int .i64 Al), (.int .i64 Am), (.str An), (.str Ao), (.int .i64 Ap)])), (some (.box true [(.bool Au), (.int .u64 Av), (.int .u64 Aw)])), (some (.box true [(.bool A2), (.int .u64 A3), (.int .u64 A4), (.int .i64 A5), (.int .i64 Be), (.str Bf), (.str Bg), (.int .i64 Bh)])), (some (.box true [(.bool A6), (.int .u64 A7), (.int .u64 A8), (.int .i64 A9), (.int .i64 Ba), (.str Bd), (.str Bb), (.int .i64 Bc)])), (some (.box true [(.bool Bi), (.int .u64 Bj), (.int .u64 Bl), (.int .i64 Bm), (.int .i64 Bn), (.str Bo), (.str Bp), (.int .i64 Bq)]))]))
def qso {R : Type}  (Aa : Bool) (Ab Ac Ad Ae : Int) (Af Ag : List UInt8) (Ah : Int) (Ai : Bool) (Aj Ak Al Am : Int) (An Ao : List UInt8) (Ap : Int) (Au : Bool) (Av Aw : Int) (A2 : Bool) (A3 A4 A5 Be : Int) (Bf Bg : List UInt8) (Bh : Int) (A6 : Bool) (A7 A8 A9 Ba : Int) (Bd Bb : List UInt8) (Bc : Int) (Bi : Bool) (Bj Bl Bm Bn : Int) (Bo Bp : List UInt8) (Bq : Int) (kr : Bool → Bool → Int → Int → Int → Int → (List UInt8) → (List UInt8) → Int → Bool → Int → Int → Bool → Int → Int → Int → Int → (List UInt8) → (List UInt8) → Int → Bool → Int → Int → Int → Int → (List UInt8) → (List UInt8) → Int → Bool → Int → Int → Int → Int → (List UInt8) → (List UInt8) → Int → Option R) : Option R :=
  (oB (qgm Aa Ab Ac Ad Au Av Aw) fun r1 => (kr r1 Ai Aj Ak Al Am An Ao Ap Au Av Aw A2 A3 A4 A5 Be Bf Bg Bh A6 A7 A8 A9 Ba Bd Bb Bc Bi Bj Bl Bm Bn Bo Bp Bq))
def qqs {R : Type} := hull (qso (R := R))
theorem qyt {R : Type} : qqs (R := R) = qso := ql _
def qi1 {R : Type} (KK : AV → Mem → Option R) : AC R :=
  .seq (.reg [ao 2 (.box 0),
 ao 3 (.mv (.c (.bool false)))]) (.seq (.reg [ao 4 (.fa 0 2),
 ao 5 (.load true 4 4),
 ao 6 (.load true 3 1),
 .call (po 7 (.call 35 [5, 6])) 35 qjs,
 ao 3 (.mv 7)]) (.seq (.view [.sel [3] [0, 1, 2, 3, 4]]) (.ret)))
theorem q97 {R : Type} (KK : AV → Mem → Option R) : AC.ok Try.prog (TIof Try.prog) 8 5 (qn [.t 3] KK) (qi1 KK) := qp (zA (qd.ok qnz) trivial)
theorem qbc4 {R : Type} (KK : AV → Mem → Option R) (Aa : Bool) (Ab Ac Ad Ae : Int) (Af Ag : List UInt8) (Ah : Int) (Ai : Bool) (Aj Ak Al Am : Int) (An Ao : List UInt8) (Ap : Int) (Au : Bool) (Av Aw : Int) (A2 : Bool) (A3 A4 A5 Be : Int) (Bf Bg : List UInt8) (Bh : Int) (A6 : Bool) (A7 A8 A9 Ba : Int) (Bd Bb : List UInt8) (Bc : Int) (Bi : Bool) (Bj Bl Bm Bn : Int) (Bo Bp : List UInt8) (Bq : Int) : den 5 (qn [.t 3] KK) (qi1 KK) (qk [(0, .agg (qb Aa Ab Ac Ad Ae Af Ag Ah)), (1, (.ptr 1 0))]) (qi [(some (.box true (qb Ai Aj Ak Al Am An Ao Ap))), (some (.box true (qbl Au Av Aw))), (some (.box true (qb A2 A3 A4 A5 Be Bf Bg Bh))), (some (.box true (qb A6 A7 A8 A9 Ba Bd Bb Bc))), (some (.box true (qb Bi Bj Bl Bm Bn Bo Bp Bq)))]) (kend (qn [.t 3] KK)) = qqs Aa Ab Ac Ad Ae Af Ag Ah Ai Aj Ak Al Am An Ao Ap Au Av Aw A2 A3 A4 A5 Be Bf Bg Bh A6 A7 A8 A9 Ba Bd Bb Bc Bi Bj Bl Bm Bn Bo Bp Bq (qys KK) := by
  rw [qyt]; kernel_rfl
theorem qbc5 : cFn (TIof Try.prog) Try.f65 = some ⟨8, [.t 3], scOf (qi1 (R := Unit) (fun _ _ => none))⟩ := by kernel_rfl
theorem qbc6 {R : Type} (KK : AV → Mem → Option R) : (qi1 KK).er = some (scOf (qi1 (R := Unit) (fun _ _ => none))) := by kernel_rfl
def q0v {R : Type} : List AV → Mem → (AV → Mem → Option R) → Option R := refE q80 fun xs m KK => qf (bxC (m.s 4)) (qf (bxC (m.s 3)) (qf (bxC (m.s 2)) (qcj (bxC (m.s 1)) (qf (bxC (m.s 0)) (qf ((qm xs) 0).cells (qqs)))))) (qys KK)
theorem qbc7 {R : Type} : qfp Try.prog 65 (q0v (R := R)) :=
  qld (ac := fun KK => qi1 KK) tabOk follows Try.func65 (by kernel_rfl) qbc5 (fun KK => q97 KK) (fun KK => qbc6 KK) rfl fun xs m KK => qbc4 KK _ _ _ _ _ _ _ _ _ _ _ _ _ _ _ _ _ _ _ _ _ _ _ _ _ _ _ _ _ _ _ _ _ _ _ _ _ _ _ _ _ _ _
def qj3 {R : Type}  (v7 : Bool) (v10 : List AV) (v11 v12 : Int) (K : Ex → Env → Mem → Option R) := (fun z_v31 z_b0_0 z_b0_1 z_b0_2 z_b0_3 z_b0_4 z_b0_5 z_b0_6 z_b0_7 z_b1_0 z_b1_1 z_b1_2 z_b2_0 z_b2_1 z_b2_2 z_b2_3 z_b2_4 z_b2_5 z_b2_6 z_b2_7 z_b3_0 z_b3_1 z_b3_2 z_b3_3 z_b3_4 z_b3_5 z_b3_6 z_b3_7 z_b4_0 z_b4_1 z_b4_2 z_b4_3 z_b4_4 z_b4_5 z_b4_6 z_b4_7 => K .norm (qk [(1, (.func 65 [(.ptr 1 0)])), (4, (.ptr 2 0)), (6, (.ptr 3 0)), (7, (.bool v7)), (9, (.ptr 4 0)), (10, (.sl 8 v10)), (11, (.int .i64 v11)), (12, (.int .i64 v12)), (31, (.bool z_v31))]) (qi [(some (.box true (qb z_b0_0 z_b0_1 z_b0_2 z_b0_3 z_b0_4 z_b0_5 z_b0_6 z_b0_7))), (some (.box true (qbl z_b1_0 z_b1_1 z_b1_2))), (some (.box true (qb z_b2_0 z_b2_1 z_b2_2 z_b2_3 z_b2_4 z_b2_5 z_b2_6 z_b2_7))), (some (.box true (qb z_b3_0 z_b3_1 z_b3_2 z_b3_3 z_b3_4 z_b3_5 z_b3_6 z_b3_7))), (some (.box true (qb z_b4_0 z_b4_1 z_b4_2 z_b4_3 z_b4_4 z_b4_5 z_b4_6 z_b4_7)))]))
def qpo : Shp := ⟨[(1, .one (.fn 65 [(1, 0)])), (4, .one (.ptr 2 0)), (6, .one (.ptr 3 0)), (7, .one (.l .b)), (9, .one (.ptr 4 0)), (10, .one (.l (.sl 8))), (11, .one (.l (.i .i64))), (12, .one (.l (.i .i64)))], [.box true (lk qa), .box true (lk qdj), .box true (lk qa), .box true (lk qa), .box true (lk qa)]⟩
def qfs {R : Type}  (v7 : Bool) (v10 : List AV) (v11 v12 : Int) (Ai : Bool) (Aj Ak Al Am : Int) (An Ao : List UInt8) (Ap : Int) (Au : Bool) (Av Aw : Int) (A2 : Bool) (A3 A4 A5 Be : Int) (Bf Bg : List UInt8) (Bh : Int) (A6 : Bool) (A7 A8 A9 Ba : Int) (Bd Bb : List UInt8) (Bc : Int) (Bi : Bool) (Bj Bl Bm Bn : Int) (Bo Bp : List UInt8) (Bq : Int) (kn : Bool → Bool → Int → Int → Int → Int → (List UInt8) → (List UInt8) → Int → Bool → Int → Int → Bool → Int → Int → Int → Int → (List UInt8) → (List UInt8) → Int → Bool → Int → Int → Int → Int → (List UInt8) → (List UInt8) → Int → Bool → Int → Int → Int → Int → (List UInt8) → (List UInt8) → Int → Option R) : Option R :=
  (qqs Bi Bj Bl Bm Bn Bo Bp Bq Ai Aj Ak Al Am An Ao Ap Au Av Aw A2 A3 A4 A5 Be Bf Bg Bh A6 A7 A8 A9 Ba Bd Bb Bc Bi Bj Bl Bm Bn Bo Bp Bq fun v3q1 b0_0q2 b0_1q3 b0_2q4 b0_3q5 b0_4q6 b0_5q7 b0_6q8 b0_7q9 b1_0q10 b1_1q11 b1_2q12 b2_0q13 b2_1q14 b2_2q15 b2_3q16 b2_4q17 b2_5q18 b2_6q19 b2_7q20 b3_0q21 b3_1q22 b3_2q23 b3_3q24 b3_4q25 b3_5q26 b3_6q27 b3_7q28 b4_0q29 b4_1q30 b4_2q31 b4_3q32 b4_4q33 b4_5q34 b4_6q35 b4_7q36 => (bif v3q1 then (bif (!v7) then (kn true b0_0q2 b0_1q3 b0_2q4 b0_3q5 b0_4q6 b0_5q7 b0_6q8 b0_7q9 b1_0q10 b1_1q11 b1_2q12 b2_0q13 b2_1q14 b2_2q15 b2_3q16 b2_4q17 b2_5q18 b2_6q19 b2_7q20 b3_0q21 b3_1q22 b3_2q23 b3_3q24 b3_4q25 b3_5q26 b3_6q27 b3_7q28 b4_0q29 b4_1q30 b4_2q31 b4_3q32 b4_4q33 b4_5q34 b4_6q35 b4_7q36) else (kn (decide (b4_3q32 > b3_3q24)) b0_0q2 b0_1q3 b0_2q4 b0_3q5 b0_4q6 b0_5q7 b0_6q8 b0_7q9 b1_0q10 b1_1q11 b1_2q12 b2_0q13 b2_1q14 b2_2q15 b2_3q16 b2_4q17 b2_5q18 b2_6q19 b2_7q20 b3_0q21 b3_1q22 b3_2q23 b3_3q24 b3_4q25 b3_5q26 b3_6q27 b3_7q28 b4_0q29 b4_1q30 b4_2q31 b4_3q32 b4_4q33 b4_5q34 b4_6q35 b4_7q36)) else (kn false b0_0q2 b0_1q3 b0_2q4 b0_3q5 b0_4q6 b0_5q7 b0_6q8 b0_7q9 b1_0q10 b1_1q11 b1_2q12 b2_0q13 b2_1q14 b2_2q15 b2_3q16 b2_4q17 b2_5q18 b2_6q19 b2_7q20 b3_0q21 b3_1q22 b3_2q23 b3_3q24 b3_4q25 b3_5q26 b3_6q27 b3_7q28 b4_0q29 b4_1q30 b4_2q31 b4_3q32 b4_4q33 b4_5q34 b4_6q35 b4_7q36)))
def qen {R : Type} := hull (qfs (R := R))
theorem qj4 {R : Type} : qen (R := R) = qfs := ql _
def qdy {R : Type} (KK : AV → Mem → Option R) : AC R :=
  .seq (.reg [ao 16 (.mv 1),
 ao 17 (.load true 8 9),
 .st (.sel [1, 4, 6, 7, 9, 10, 11, 12, 16, 17] [0, 1, 2, 3, 4]),
 .callr (po 18 (.callv 16 [17])) 65 q0v,
 ao 19 (.mv 18),
 ag 20 19 true (.mv 7),
 ag 21 19 true (.un .not 20),
 ag 22 19 true (.mv 21),
 ag 23 22 false (.fa 0 9),
 ag 24 22 false (.fa 3 23),
 ag 25 22 false (.load false 1 24),
 ag 26 22 false (.fa 0 6),
 ag 27 22 false (.fa 3 26),
 ag 28 22 false (.load false 1 27),
 ag 29 22 false (.bin .gtr 25 28),
 ag 30 19 true (.pick 22 (.c (.bool true)) 29),
 ao 31 (.pick 19 30 (.c (.bool false)))]) (.view [.sel [1, 4, 6, 7, 9, 10, 11, 12, 31] [0, 1, 2, 3, 4]])
theorem qqg {R : Type} (KK : AV → Mem → Option R) : AC.ok Try.prog (TIof Try.prog) 36 2 (qn [(.cell 4 true 8), .t 5] KK) (qdy KK) := qp (zA qbc7 trivial)
theorem qq6 {R : Type} (KK : AV → Mem → Option R) (v7 : Bool) (v10 : List AV) (v11 v12 : Int) (Ai : Bool) (Aj Ak Al Am : Int) (An Ao : List UInt8) (Ap : Int) (Au : Bool) (Av Aw : Int) (A2 : Bool) (A3 A4 A5 Be : Int) (Bf Bg : List UInt8) (Bh : Int) (A6 : Bool) (A7 A8 A9 Ba : Int) (Bd Bb : List UInt8) (Bc : Int) (Bi : Bool) (Bj Bl Bm Bn : Int) (Bo Bp : List UInt8) (Bq : Int) (K : Ex → Env → Mem → Option R) : den 2 (qn [(.cell 4 true 8), .t 5] KK) (qdy KK) (qk [(1, (.func 65 [(.ptr 1 0)])), (4, (.ptr 2 0)), (6, (.ptr 3 0)), (7, (.bool v7)), (9, (.ptr 4 0)), (10, (.sl 8 v10)), (11, (.int .i64 v11)), (12, (.int .i64 v12))]) (qi [(some (.box true (qb Ai Aj Ak Al Am An Ao Ap))), (some (.box true (qbl Au Av Aw))), (some (.box true (qb A2 A3 A4 A5 Be Bf Bg Bh))), (some (.box true (qb A6 A7 A8 A9 Ba Bd Bb Bc))), (some (.box true (qb Bi Bj Bl Bm Bn Bo Bp Bq)))]) K = qen v7 v10 v11 v12 Ai Aj Ak Al Am An Ao Ap Au Av Aw A2 A3 A4 A5 Be Bf Bg Bh A6 A7 A8 A9 Ba Bd Bb Bc Bi Bj Bl Bm Bn Bo Bp Bq (qj3 v7 v10 v11 v12 K) := by
  rw [qj4]; kernel_rfl
def qkn {R : Type} (KK : AV → Mem → Option R) := subE (R := R) qpo fun t m K => qf (bxC (m.s 4)) (qf (bxC (m.s 3)) (qf (bxC (m.s 2)) (qcj (bxC (m.s 1)) (qf (bxC (m.s 0)) (qen (gB [t 7] 0) (gL [t 10] 0) (gI [t 11] 0) (gI [t 12] 0)))))) (qj3 (gB [t 7] 0) (gL [t 10] 0) (gI [t 11] 0) (gI [t 12] 0) K)
theorem qq7 {R : Type} (KK : AV → Mem → Option R) : qdb Try.prog (TIof Try.prog) 36 2 (qn [(.cell 4 true 8), .t 5] KK) (scOf (qdy KK)) (qkn KK) :=
  qis tabOk follows (qqg KK) (qy (by kernel_rfl)) fun t m K => qq6 KK _ _ _ _ _ _ _ _ _ _ _ _ _ _ _ _ _ _ _ _ _ _ _ _ _ _ _ _ _ _ _ _ _ _ _ _ _ _ _ K
def qdm {R : Type}  (K : Ex → Env → Mem → Option R) := (fun z_v7 z_b0_0 z_b0_1 z_b0_2 z_b0_3 z_b0_4 z_b0_5 z_b0_6 z_b0_7 z_b1_0 z_b1_1 z_b1_2 z_b2_0 z_b2_1 z_b2_2 z_b2_3 z_b2_4 z_b2_5 z_b2_6 z_b2_7 z_b3_0 z_b3_1 z_b3_2 z_b3_3 z_b3_4 z_b3_5 z_b3_6 z_b3_7 => K (.exit 0) (qk [(4, (.ptr 2 0)), (6, (.ptr 3 0)), (7, (.bool z_v7))]) (qi [(some (.box true (qb z_b0_0 z_b0_1 z_b0_2 z_b0_3 z_b0_4 z_b0_5 z_b0_6 z_b0_7))), (some (.box true (qbl z_b1_0 z_b1_1 z_b1_2))), (some (.box true (qb z_b2_0 z_b2_1 z_b2_2 z_b2_3 z_b2_4 z_b2_5 z_b2_6 z_b2_7))), (some (.box true (qb z_b3_0 z_b3_1 z_b3_2 z_b3_3 z_b3_4 z_b3_5 z_b3_6 z_b3_7)))]))
def qpp : Shp := ⟨[(1, .one (.fn 65 [(1, 0)])), (4, .one (.ptr 2 0)), (6, .one (.ptr 3 0)), (7, .one (.l .b)), (10, .one (.l (.sl 8))), (11, .one (.l (.i .i64))), (12, .one (.l (.i .i64)))], [.box true (lk qa), .box true (lk qdj), .box true (lk qa), .box true (lk qa)]⟩
def qfm (v7 : Bool) (v10 : List AV) (v11 v12 : Int) (Ai : Bool) (Aj Ak Al Am : Int) (An Ao : List UInt8) (Ap : Int) (Au : Bool) (Av Aw : Int) (A2 : Bool) (A3 A4 A5 Be : Int) (Bf Bg : List UInt8) (Bh : Int) (A6 : Bool) (A7 A8 A9 Ba : Int) (Bd Bb : List UInt8) (Bc : Int) : Env := qk [(1, (.func 65 [(.ptr 1 0)])), (4, (.ptr 2 0)), (6, (.ptr 3 0)), (7, (.bool v7)), (10, (.sl 8 v10)), (11, (.int .i64 v11)), (12, (.int .i64 v12))]
def qfn (v7 : Bool) (v10 : List AV) (v11 v12 : Int) (Ai : Bool) (Aj Ak Al Am : Int) (An Ao : List UInt8) (Ap : Int) (Au : Bool) (Av Aw : Int) (A2 : Bool) (A3 A4 A5 Be : Int) (Bf Bg : List UInt8) (Bh : Int) (A6 : Bool) (A7 A8 A9 Ba : Int) (Bd Bb : List UInt8) (Bc : Int) : Mem := qi [(some (.box true (qb Ai Aj Ak Al Am An Ao Ap))), (some (.box true (qbl Au Av Aw))), (some (.box true (qb A2 A3 A4 A5 Be Bf Bg Bh))), (some (.box true (qb A6 A7 A8 A9 Ba Bd Bb Bc)))]
def qcn {R : Type}  (v7 : Bool) (v10 : List AV) (v11 v12 : Int) (Ai : Bool) (Aj Ak Al Am : Int) (An Ao : List UInt8) (Ap : Int) (Au : Bool) (Av Aw : Int) (A2 : Bool) (A3 A4 A5 Be : Int) (Bf Bg : List UInt8) (Bh : Int) (A6 : Bool) (A7 A8 A9 Ba : Int) (Bd Bb : List UInt8) (Bc : Int) (next : Bool → Int → Bool → Int → Int → Int → Int → (List UInt8) → (List UInt8) → Int → Bool → Int → Int → Bool → Int → Int → Int → Int → (List UInt8) → (List UInt8) → Int → Bool → Int → Int → Int → Int → (List UInt8) → (List UInt8) → Int → Option R) (kx0 : Bool → Bool → Int → Int → Int → Int → (List UInt8) → (List UInt8) → Int → Bool → Int → Int → Bool → Int → Int → Int → Int → (List UInt8) → (List UInt8) → Int → Bool → Int → Int → Int → Int → (List UInt8) → (List UInt8) → Int → Option R) : Option R :=
  (bif (decide (v12 < v11)) then (oB (ixB v10 v12) fun y1 => (bif fitC qa y1.cells then (qen v7 v10 v11 v12 Ai Aj Ak Al Am An Ao Ap Au Av Aw A2 A3 A4 A5 Be Bf Bg Bh A6 A7 A8 A9 Ba Bd Bb Bc (gB y1.cells 0) (gI y1.cells 1) (gI y1.cells 2) (gI y1.cells 3) (gI y1.cells 4) (gS y1.cells 5) (gS y1.cells 6) (gI y1.cells 7) (fun v31q2 b0_0q3 b0_1q4 b0_2q5 b0_3q6 b0_4q7 b0_5q8 b0_6q9 b0_7q10 b1_0q11 b1_1q12 b1_2q13 b2_0q14 b2_1q15 b2_2q16 b2_3q17 b2_4q18 b2_5q19 b2_6q20 b2_7q21 b3_0q22 b3_1q23 b3_2q24 b3_3q25 b3_4q26 b3_5q27 b3_6q28 b3_7q29 b4_0q30 b4_1q31 b4_2q32 b4_3q33 b4_4q34 b4_5q35 b4_6q36 b4_7q37 => (bif v31q2 then (next true (IntKind.i64.wrap (v12 + (1 : Int))) b0_0q3 b0_1q4 b0_2q5 b0_3q6 b0_4q7 b0_5q8 b0_6q9 b0_7q10 b1_0q11 b1_1q12 b1_2q13 b2_0q14 b2_1q15 b2_2q16 b2_3q17 b2_4q18 b2_5q19 b2_6q20 b2_7q21 b4_0q30 b4_1q31 b4_2q32 b4_3q33 b4_4q34 b4_5q35 b4_6q36 b4_7q37) else (next v7 (IntKind.i64.wrap (v12 + (1 : Int))) b0_0q3 b0_1q4 b0_2q5 b0_3q6 b0_4q7 b0_5q8 b0_6q9 b0_7q10 b1_0q11 b1_1q12 b1_2q13 b2_0q14 b2_1q15 b2_2q16 b2_3q17 b2_4q18 b2_5q19 b2_6q20 b2_7q21 b3_0q22 b3_1q23 b3_2q24 b3_3q25 b3_4q26 b3_5q27 b3_6q28 b3_7q29)))) else none)) else (kx0 v7 Ai Aj Ak Al Am An Ao Ap Au Av Aw A2 A3 A4 A5 Be Bf Bg Bh A6 A7 A8 A9 Ba Bd Bb Bc))
def qde {R : Type}  (v10 : List AV) (v11 : Int) (kx0 : Bool → Bool → Int → Int → Int → Int → (List UInt8) → (List UInt8) → Int → Bool → Int → Int → Bool → Int → Int → Int → Int → (List UInt8) → (List UInt8) → Int → Bool → Int → Int → Int → Int → (List UInt8) → (List UInt8) → Int → Option R) : Nat → Bool → Int → Bool → Int → Int → Int → Int → (List UInt8) → (List UInt8) → Int → Bool → Int → Int → Bool → Int → Int → Int → Int → (List UInt8) → (List UInt8) → Int → Bool → Int → Int → Int → Int → (List UInt8) → (List UInt8) → Int → Option R
  | 0 => (fun _ _ _ _ _ _ _ _ _ _ _ _ _ _ _ _ _ _ _ _ _ _ _ _ _ _ _ _ _ => none)
  | n + 1 => (fun v7 v12 Ai Aj Ak Al Am An Ao Ap Au Av Aw A2 A3 A4 A5 Be Bf Bg Bh A6 A7 A8 A9 Ba Bd Bb Bc => qcn v7 v10 v11 v12 Ai Aj Ak Al Am An Ao Ap Au Av Aw A2 A3 A4 A5 Be Bf Bg Bh A6 A7 A8 A9 Ba Bd Bb Bc (qde v10 v11 kx0 n) kx0)
def qeo {R : Type} := hull (qde (R := R))
theorem qj5 {R : Type} : qeo (R := R) = qde := ql _
def qco {R : Type} (KK : AV → Mem → Option R) : AC R :=
  .seq (.reg [ao 13 (.bin .lss 12 11)]) (.seq (.cond 13 (.skip) (.seq (.view [.sel [4, 6, 7] [0, 1, 2, 3]]) (.exit 0))) (.seq (.block 1 (.seq (.reg [ao 14 (.ia 8 10 12),
 .st (.etac 14 qa),
 ao 15 (.load true 8 14),
 ao 9 (.alloc [(.bool false), (.int .u64 0), (.int .u64 0), (.int .i64 0), (.int .i64 0), (.str []), (.str []), (.int .i64 0)]),
 an (.store 8 9 15)]) (.seq (.seq (.view [.sel [1, 4, 6, 7, 9, 10, 11, 12] [0, 1, 2, 3, 4]]) (.sub (scOf (qdy KK)) (qkn KK))) (.cond 31 (.reg [ao 32 (.load true 8 9),
 an (.store 8 6 32),
 ao 7 (.mv (.c (.bool true)))]) (.skip))))) (.seq (.reg [ao 33 (.bin .add 12 (.c (.int .i64 1))),
 ao 12 (.mv 33)]) (.view [.sel [1, 4, 6, 7, 10, 11, 12] [0, 1, 2, 3]]))))
theorem qqh {R : Type} (KK : AV → Mem → Option R) : AC.ok Try.prog (TIof Try.prog) 36 2 (qn [(.cell 4 true 8), .t 5] KK) (qco KK) := qp (zA (qq7 KK) trivial)
theorem qpq {R : Type} (KK : AV → Mem → Option R) (v7 : Bool) (v10 : List AV) (v11 v12 : Int) (Ai : Bool) (Aj Ak Al Am : Int) (An Ao : List UInt8) (Ap : Int) (Au : Bool) (Av Aw : Int) (A2 : Bool) (A3 A4 A5 Be : Int) (Bf Bg : List UInt8) (Bh : Int) (A6 : Bool) (A7 A8 A9 Ba : Int) (Bd Bb : List UInt8) (Bc : Int) (K : Ex → Env → Mem → Option R) : den 2 (qn [(.cell 4 true 8), .t 5] KK) (qco KK) (qfm v7 v10 v11 v12 Ai Aj Ak Al Am An Ao Ap Au Av Aw A2 A3 A4 A5 Be Bf Bg Bh A6 A7 A8 A9 Ba Bd Bb Bc) (qfn v7 v10 v11 v12 Ai Aj Ak Al Am An Ao Ap Au Av Aw A2 A3 A4 A5 Be Bf Bg Bh A6 A7 A8 A9 Ba Bd Bb Bc) K = qcn v7 v10 v11 v12 Ai Aj Ak Al Am An Ao Ap Au Av Aw A2 A3 A4 A5 Be Bf Bg Bh A6 A7 A8 A9 Ba Bd Bb Bc (fun z_v7 z_v12 z_b0_0 z_b0_1 z_b0_2 z_b0_3 z_b0_4 z_b0_5 z_b0_6 z_b0_7 z_b1_0 z_b1_1 z_b1_2 z_b2_0 z_b2_1 z_b2_2 z_b2_3 z_b2_4 z_b2_5 z_b2_6 z_b2_7 z_b3_0 z_b3_1 z_b3_2 z_b3_3 z_b3_4 z_b3_5 z_b3_6 z_b3_7 => K .norm (qfm z_v7 v10 v11 z_v12 z_b0_0 z_b0_1 z_b0_2 z_b0_3 z_b0_4 z_b0_5 z_b0_6 z_b0_7 z_b1_0 z_b1_1 z_b1_2 z_b2_0 z_b2_1 z_b2_2 z_b2_3 z_b2_4 z_b2_5 z_b2_6 z_b2_7 z_b3_0 z_b3_1 z_b3_2 z_b3_3 z_b3_4 z_b3_5 z_b3_6 z_b3_7) (qfn z_v7 v10 v11 z_v12 z_b0_0 z_b0_1 z_b0_2 z_b0_3 z_b0_4 z_b0_5 z_b0_6 z_b0_7 z_b1_0 z_b1_1 z_b1_2 z_b2_0 z_b2_1 z_b2_2 z_b2_3 z_b2_4 z_b2_5 z_b2_6 z_b2_7 z_b3_0 z_b3_1 z_b3_2 z_b3_3 z_b3_4 z_b3_5 z_b3_6 z_b3_7)) (qdm K) := by kernel_rfl
theorem qq8 {R : Type} (KK : AV → Mem → Option R) (v10 : List AV) (v11 : Int) (K : Ex → Env → Mem → Option R) : ∀ (n : Nat) (v7 : Bool) (v12 : Int) (Ai : Bool) (Aj Ak Al Am : Int) (An Ao : List UInt8) (Ap : Int) (Au : Bool) (Av Aw : Int) (A2 : Bool) (A3 A4 A5 Be : Int) (Bf Bg : List UInt8) (Bh : Int) (A6 : Bool) (A7 A8 A9 Ba : Int) (Bd Bb : List UInt8) (Bc : Int), qgc (den 2 (qn [(.cell 4 true 8), .t 5] KK) (qco KK)) n (qfm v7 v10 v11 v12 Ai Aj Ak Al Am An Ao Ap Au Av Aw A2 A3 A4 A5 Be Bf Bg Bh A6 A7 A8 A9 Ba Bd Bb Bc) (qfn v7 v10 v11 v12 Ai Aj Ak Al Am An Ao Ap Au Av Aw A2 A3 A4 A5 Be Bf Bg Bh A6 A7 A8 A9 Ba Bd Bb Bc) K = qeo v10 v11 (qdm K) n v7 v12 Ai Aj Ak Al Am An Ao Ap Au Av Aw A2 A3 A4 A5 Be Bf Bg Bh A6 A7 A8 A9 Ba Bd Bb Bc := by
  rw [qj5]
  intro n
  induction n with
  | zero => intros; rfl
  | succ n ih =>
 intro v7 v12 Ai Aj Ak Al Am An Ao Ap Au Av Aw A2 A3 A4 A5 Be Bf Bg Bh A6 A7 A8 A9 Ba Bd Bb Bc
 exact (qpq KK v7 v10 v11 v12 Ai Aj Ak Al Am An Ao Ap Au Av Aw A2 A3 A4 A5 Be Bf Bg Bh A6 A7 A8 A9 Ba Bd Bb Bc (itK (den 2 (qn [(.cell 4 true 8), .t 5] KK) (qco KK)) n K)).trans (congrArg (fun q => qcn v7 v10 v11 v12 Ai Aj Ak Al Am An Ao Ap Au Av Aw A2 A3 A4 A5 Be Bf Bg Bh A6 A7 A8 A9 Ba Bd Bb Bc q (qdm K)) (funext fun v7 => funext fun v12 => funext fun Ai => funext fun Aj => funext fun Ak => funext fun Al => funext fun Am => funext fun An => funext fun Ao => funext fun Ap => funext fun Au => funext fun Av => funext fun Aw => funext fun A2 => funext fun A3 => funext fun A4 => funext fun A5 => funext fun Be => funext fun Bf => funext fun Bg => funext fun Bh => funext fun A6 => funext fun A7 => funext fun A8 => funext fun A9 => funext fun Ba => funext fun Bd => funext fun Bb => funext fun Bc => ih v7 v12 Ai Aj Ak Al Am An Ao Ap Au Av Aw A2 A3 A4 A5 Be Bf Bg Bh A6 A7 A8 A9 Ba Bd Bb Bc))
def qko {R : Type} (KK : AV → Mem → Option R) := subE (R := R) qpp fun t m K => qf (bxC (m.s 3)) (qf (bxC (m.s 2)) (qcj (bxC (m.s 1)) (qf (bxC (m.s 0)) (qeo (gL [t 10] 0) (gI [t 11] 0) (qdm K) FU (gB [t 7] 0) (gI [t 12] 0)))))
theorem qq9 {R : Type} (KK : AV → Mem → Option R) : qdb Try.prog (TIof Try.prog) 36 2 (qn [(.cell 4 true 8), .t 5] KK) (.loop (scOf (qco KK))) (qko KK) :=
  qgd tabOk follows (qqh KK) (qy (by kernel_rfl)) fun t m K => qq8 KK _ _ K FU _ _ _ _ _ _ _ _ _ _ _ _ _ _ _ _ _ _ _ _ _ _ _ _ _ _ _ _ _
def qr5 : Shp := ⟨[(0, .one (.l (.sl 8))), (1, .one (.fn 65 [(1, 0)]))], [.box true (lk qa), .box true (lk qdj)]⟩
def ql2 {R : Type} (KK : AV → Mem → Option R) := (fun v5 Ai Aj Ak Al Am An Ao Ap Au Av Aw A2 A3 A4 A5 Be Bf Bg Bh => KK (.tup [(.agg [(.bool A2), (.int .u64 A3), (.int .u64 A4), (.int .i64 A5), (.int .i64 Be), (.str Bf), (.str Bg), (.int .i64 Bh)]), (.bool v5)]) (qi [(some (.box true [(.bool Ai), (.int .u64 Aj), (.int .u64 Ak), (.int .i64 Al), (.int .i64 Am), (.str An), (.str Ao), (.int .i64 Ap)])), (some (.box true [(.bool Au), (.int .u64 Av), (.int .u64 Aw)])), (some (.box true [(.bool A2), (.int .u64 A3), (.int .u64 A4), (.int .i64 A5), (.int .i64 Be), (.str Bf), (.str Bg), (.int .i64 Bh)]))]))
def qg1 {R : Type}  (v0 : List AV) (Ai : Bool) (Aj Ak Al Am : Int) (An Ao : List UInt8) (Ap : Int) (Au : Bool) (Av Aw : Int) (kr : Bool → Bool → Int → Int → Int → Int → (List UInt8) → (List UInt8) → Int → Bool → Int → Int → Bool → Int → Int → Int → Int → (List UInt8) → (List UInt8) → Int → Option R) : Option R :=
  (qeo v0 (v0.length : Int) (fun v7q1 b0_0q2 b0_1q3 b0_2q4 b0_3q5 b0_4q6 b0_5q7 b0_6q8 b0_7q9 b1_0q10 b1_1q11 b1_2q12 b2_0q13 b2_1q14 b2_2q15 b2_3q16 b2_4q17 b2_5q18 b2_6q19 b2_7q20 b3_0q21 b3_1q22 b3_2q23 b3_3q24 b3_4q25 b3_5q26 b3_6q27 b3_7q28 => (kr v7q1 b0_0q2 b0_1q3 b0_2q4 b0_3q5 b0_4q6 b0_5q7 b0_6q8 b0_7q9 b1_0q10 b1_1q11 b1_2q12 b3_0q21 b3_1q22 b3_2q23 b3_3q24 b3_4q25 b3_5q26 b3_6q27 b3_7q28)) FU false (0 : Int) Ai Aj Ak Al Am An Ao Ap Au Av Aw false (0 : Int) (0 : Int) (0 : Int) (0 : Int) ([] : List UInt8) ([] : List UInt8) (0 : Int) false (0 : Int) (0 : Int) (0 : Int) (0 : Int) ([] : List UInt8) ([] : List UInt8) (0 : Int))
def qfh {R : Type} := hull (qg1 (R := R))
theorem ql3 {R : Type} : qfh (R := R) = qg1 := ql _
def qc8 {R : Type} (KK : AV → Mem → Option R) : AC R :=
  .seq (.reg [ao 4 (.alloc [(.bool false), (.int .u64 0), (.int .u64 0), (.int .i64 0), (.int .i64 0), (.str []), (.str []), (.int .i64 0)]),
 ao 5 (.mv (.c (.bool false)))]) (.seq (.reg [ao 6 (.alloc [(.bool false), (.int .u64 0), (.int .u64 0), (.int .i64 0), (.int .i64 0), (.str []), (.str []), (.int .i64 0)])]) (.seq (.reg [ao 7 (.mv (.c (.bool false)))]) (.seq (.seq (.reg [ao 10 (.mv 0),
 ao 11 (.len false 10),
 ao 12 (.mv (.c (.int .i64 0)))]) (.block 0 (.seq (.view [.sel [1, 4, 6, 7, 10, 11, 12] [0, 1, 2, 3]]) (.sub (.loop (scOf (qco KK))) (qko KK))))) (.seq (.reg [ao 34 (.load true 8 6),
 ao 35 (.mv 7),
 an (.store 8 4 34),
 ao 5 (.mv 35)]) (.seq (.view [.sel [4, 5] [0, 1, 2]]) (.ret))))))
theorem qsp {R : Type} (KK : AV → Mem → Option R) : AC.ok Try.prog (TIof Try.prog) 36 2 (qn [(.cell 4 true 8), .t 5] KK) (qc8 KK) := qp (zA (qq9 KK) trivial)
theorem qs3 {R : Type} (KK : AV → Mem → Option R) (v0 : List AV) (Ai : Bool) (Aj Ak Al Am : Int) (An Ao : List UInt8) (Ap : Int) (Au : Bool) (Av Aw : Int) : den 2 (qn [(.cell 4 true 8), .t 5] KK) (qc8 KK) (qk [(0, (.sl 8 v0)), (1, (.func 65 [(.ptr 1 0)]))]) (qi [(some (.box true (qb Ai Aj Ak Al Am An Ao Ap))), (some (.box true (qbl Au Av Aw)))]) (kend (qn [(.cell 4 true 8), .t 5] KK)) = qfh v0 Ai Aj Ak Al Am An Ao Ap Au Av Aw (ql2 KK) := by
  rw [ql3]; kernel_rfl
theorem qs4 : cFn (TIof Try.prog) Try.f62 = some ⟨36, [(.cell 4 true 8), .t 5], scOf (qc8 (R := Unit) (fun _ _ => none))⟩ := by kernel_rfl
theorem qs5 {R : Type} (KK : AV → Mem → Option R) : (qc8 KK).er = some (scOf (qc8 (R := Unit) (fun _ _ => none))) := by kernel_rfl
def qmi {R : Type} : List AV → Mem → (AV → Mem → Option R) → Option R := refE qr5 fun xs m KK => qcj (bxC (m.s 1)) (qf (bxC (m.s 0)) (qfh (gL [(qm xs) 0] 0))) (ql2 KK)
theorem qs6 {R : Type} : qfp Try.prog 62 (qmi (R := R)) :=
  qld (ac := fun KK => qc8 KK) tabOk follows Try.func62 (by kernel_rfl) qs4 (fun KK => qsp KK) (fun KK => qs5 KK) rfl fun xs m KK => qs3 KK _ _ _ _ _ _ _ _ _ _ _ _
def qsq (z : AV) : Option (AV × Bool) := cond (qmv [(.st [.b, (.i .u64), (.i .u64), (.i .i64), (.i .i64), .s, .s, (.i .i64)]), (.one .b)] z) (some ((gC (tpL z) 0), aB (gC (tpL z) 1))) none
def qbc8 (r : AV × Bool) : AV := .tup [qoa (.st [.b, (.i .u64), (.i .u64), (.i .i64), (.i .i64), .s, .s, (.i .i64)]) r.1, .bool r.2]
def qbc9 : Shp := ⟨[(0, .one (.l (.sl 8))), (1, .st (lk qdj))], []⟩
def qvn (v0 : List AV) (Aq : Bool) (Ar As : Int) : Option (AV × Bool) :=
  (qfh v0 false (0 : Int) (0 : Int) (0 : Int) (0 : Int) ([] : List UInt8) ([] : List UInt8) (0 : Int) Aq Ar As fun v5q1 b0_0q2 b0_1q3 b0_2q4 b0_3q5 b0_4q6 b0_5q7 b0_6q8 b0_7q9 b1_0q10 b1_1q11 b1_2q12 b2_0q13 b2_1q14 b2_2q15 b2_3q16 b2_4q17 b2_5q18 b2_6q19 b2_7q20 => (some ((.agg [(.bool b2_0q13), (.int .u64 b2_1q14), (.int .u64 b2_2q15), (.int .i64 b2_3q16), (.int .i64 b2_4q17), (.str b2_5q18), (.str b2_6q19), (.int .i64 b2_7q20)]), v5q1)))
def qm7 := hull qvn
theorem q2o : qm7 = qvn := ql _
def qvo : AC (AV × Bool) :=
  .seq (.reg [ao 3 (.box 1),
 ao 4 (.alloc [(.bool false), (.int .u64 0), (.int .u64 0), (.int .i64 0), (.int .i64 0), (.str []), (.str []), (.int .i64 0)]),
 ao 5 (.mv (.c (.bool false)))]) (.seq (.reg [ao 6 (.mv 0),
 ao 7 (.mkf 65 [3]),
 .st (.sel [4, 6, 7] [1, 0]),
 .callr (po 8 (.call 62 [6, 7])) 62 qmi,
 ao 9 (.ext 8 0),
 ao 10 (.ext 8 1),
 an (.store 8 4 9),
 ao 5 (.mv 10)]) (.ret))
theorem qbe6 : AC.ok Try.prog (TIof Try.prog) 11 0 (kret [(.cell 4 true 8), .t 5] qsq) qvo := qp (zA qs6 trivial)
theorem qbg8 (v0 : List AV) (Aq : Bool) (Ar As : Int) : den 0 (kret [(.cell 4 true 8), .t 5] qsq) qvo (qk [(0, (.sl 8 v0)), (1, .agg (qbl Aq Ar As))]) (qi []) (kend (kret [(.cell 4 true 8), .t 5] qsq)) = qm7 v0 Aq Ar As := by
  rw [q2o]; kernel_rfl
theorem qbg9 : cFn (TIof Try.prog) Try.f28 = some ⟨11, [(.cell 4 true 8), .t 5], scOf qvo⟩ := by kernel_rfl
def qbha (xs : List AV) : Option (AV × Bool) := qcj ((qm xs) 1).cells (qm7 (gL [(qm xs) 0] 0))
def q0w {R : Type} : List AV → (AV → Option R) → Option R := entF qbc9 qbha qbc8
theorem qbhb {R : Type} : qd Try.prog 28 (q0w (R := R)) :=
  qce tabOk follows Try.func28 (by kernel_rfl) qbg9 (fun z r h => by
 obtain ⟨h1, h2⟩ := qo h
 cases h2
 exact (qhm h1).symm) qbe6 (qy (by kernel_rfl)) fun xs => qbg8 _ _ _ _
def q3h : Shp := ⟨[(0, .st (lk qa)), (1, .one (.ptr 0 0)), (2, .one (.ptr 2 0))], [.box true (lk qe), .arr true 8, .box true (lk qa)]⟩
def qs7 {R : Type} (KK : AV → Mem → Option R) := (fun v4 Ai Aj Ak Al a1 A2 A3 A4 A5 Be Bf Bg Bh => KK (.bool v4) (qi [(some (.box true [(.bool Ai), (.int .u64 Aj), (.int .u64 Ak), (.int .i64 Al)])), (some (.arr true 8 a1)), (some (.box true [(.bool A2), (.int .u64 A3), (.int .u64 A4), (.int .i64 A5), (.int .i64 Be), (.str Bf), (.str Bg), (.int .i64 Bh)]))]))
def qoh {R : Type}  (Aa : Bool) (Ab Ac Ad Ae : Int) (Af Ag : List UInt8) (Ah : Int) (Ai : Bool) (Aj Ak Al : Int) (a1 : List AV) (A2 : Bool) (A3 A4 A5 Be : Int) (Bf Bg : List UInt8) (Bh : Int) (kr : Bool → Bool → Int → Int → Int → (List AV) → Bool → Int → Int → Int → Int → (List UInt8) → (List UInt8) → Int → Option R) : Option R :=
  (oB (qgy Aa Ab Ac Ad Ai Aj Ak Al) fun r1 => (bif r1 then (oB (qgy A2 A3 A4 A5 Aa Ab Ac Ad) fun r2 => (kr r2 Ai Aj Ak Al a1 A2 A3 A4 A5 Be Bf Bg Bh)) else (kr false Ai Aj Ak Al a1 A2 A3 A4 A5 Be Bf Bg Bh)))
def qj6 {R : Type} := hull (qoh (R := R))
theorem qs8 {R : Type} : qj6 (R := R) = qoh := ql _
def qft {R : Type} (KK : AV → Mem → Option R) : AC R :=
  .seq (.reg [ao 3 (.box 0),
 ao 4 (.mv (.c (.bool false)))]) (.seq (.reg [ao 5 (.fa 0 3),
 ao 6 (.load true 4 5),
 ao 7 (.load true 4 1),
 .call (po 8 (.call 64 [6, 7])) 64 qgn,
 ao 9 (.mv 8),
 ag 10 9 true (.fa 0 2),
 ag 11 9 true (.load true 4 10),
 ag 12 9 true (.fa 0 3),
 ag 13 9 true (.load true 4 12),
 .call (pg 14 9 true (.call 64 [11, 13])) 64 qgn,
 ao 15 (.pick 9 14 (.c (.bool false))),
 ao 4 (.mv 15)]) (.seq (.view [.sel [4] [0, 1, 2]]) (.ret)))
theorem q4l {R : Type} (KK : AV → Mem → Option R) : AC.ok Try.prog (TIof Try.prog) 16 3 (qn [.t 4] KK) (qft KK) := qp (zA (qd.ok qll) (zA (qd.ok qll) trivial))
theorem q5a {R : Type} (KK : AV → Mem → Option R) (Aa : Bool) (Ab Ac Ad Ae : Int) (Af Ag : List UInt8) (Ah : Int) (Ai : Bool) (Aj Ak Al : Int) (a1 : List AV) (A2 : Bool) (A3 A4 A5 Be : Int) (Bf Bg : List UInt8) (Bh : Int) : den 3 (qn [.t 4] KK) (qft KK) (qk [(0, .agg (qb Aa Ab Ac Ad Ae Af Ag Ah)), (1, (.ptr 0 0)), (2, (.ptr 2 0))]) (qi [(some (.box true (qc Ai Aj Ak Al))), (some (.arr true 8 a1)), (some (.box true (qb A2 A3 A4 A5 Be Bf Bg Bh)))]) (kend (qn [.t 4] KK)) = qj6 Aa Ab Ac Ad Ae Af Ag Ah Ai Aj Ak Al a1 A2 A3 A4 A5 Be Bf Bg Bh (qs7 KK) := by
  rw [qs8]; kernel_rfl
theorem q5b : cFn (TIof Try.prog) Try.f67 = some ⟨16, [.t 4], scOf (qft (R := Unit) (fun _ _ => none))⟩ := by kernel_rfl
theorem q5c {R : Type} (KK : AV → Mem → Option R) : (qft KK).er = some (scOf (qft (R := Unit) (fun _ _ => none))) := by kernel_rfl
def quh {R : Type} : List AV → Mem → (AV → Mem → Option R) → Option R := refE q3h fun xs m KK => qf (bxC (m.s 2)) (qh (bxC (m.s 0)) (qf ((qm xs) 0).cells (qj6)) (arL (m.s 1))) (qs7 KK)
theorem q5d {R : Type} : qfp Try.prog 67 (quh (R := R)) :=
  qld (ac := fun KK => qft KK) tabOk follows Try.func67 (by kernel_rfl) q5b (fun KK => q4l KK) (fun KK => q5c KK) rfl fun xs m KK => q5a KK _ _ _ _ _ _ _ _ _ _ _ _ _ _ _ _ _ _ _ _ _
def qbp {R : Type}  (K : Ex → Env → Mem → Option R) := (fun z_b0_0 z_b0_1 z_b0_2 z_b0_3 z_a1 z_b2_0 z_b2_1 z_b2_2 z_b2_3 z_b2_4 z_b2_5 z_b2_6 z_b2_7 => K (.exit 0) (qk []) (qi [(some (.box true (qc z_b0_0 z_b0_1 z_b0_2 z_b0_3))), (some (.arr true 8 z_a1)), (some (.box true (qb z_b2_0 z_b2_1 z_b2_2 z_b2_3 z_b2_4 z_b2_5 z_b2_6 z_b2_7)))]))
def qbs {R : Type} (KK : AV → Mem → Option R) := (fun v4 Ai Aj Ak Al a1 A2 A3 A4 A5 Be Bf Bg Bh => KK (.int .i64 v4) (qi [(some (.box true [(.bool Ai), (.int .u64 Aj), (.int .u64 Ak), (.int .i64 Al)])), (some (.arr true 8 a1)), (some (.box true [(.bool A2), (.int .u64 A3), (.int .u64 A4), (.int .i64 A5), (.int .i64 Be), (.str Bf), (.str Bg), (.int .i64 Bh)]))]))
def qg9 : Shp := ⟨[(0, .one (.l (.sl 8))), (1, .one (.fn 67 [(0, 0), (2, 0)])), (7, .one (.l (.i .i64))), (8, .one (.l (.i .i64)))], [.box true (lk qe), .arr true 8, .box true (lk qa)]⟩
def qcp (v0 : List AV) (v7 v8 : Int) (Ai : Bool) (Aj Ak Al : Int) (a1 : List AV) (A2 : Bool) (A3 A4 A5 Be : Int) (Bf Bg : List UInt8) (Bh : Int) : Env := qk [(0, (.sl 8 v0)), (1, (.func 67 [(.ptr 0 0), (.ptr 2 0)])), (7, (.int .i64 v7)), (8, (.int .i64 v8))]
def qcq (v0 : List AV) (v7 v8 : Int) (Ai : Bool) (Aj Ak Al : Int) (a1 : List AV) (A2 : Bool) (A3 A4 A5 Be : Int) (Bf Bg : List UInt8) (Bh : Int) : Mem := qi [(some (.box true (qc Ai Aj Ak Al))), (some (.arr true 8 a1)), (some (.box true (qb A2 A3 A4 A5 Be Bf Bg Bh)))]
def qq {R : Type}  (v0 : List AV) (v7 v8 : Int) (Ai : Bool) (Aj Ak Al : Int) (a1 : List AV) (A2 : Bool) (A3 A4 A5 Be : Int) (Bf Bg : List UInt8) (Bh : Int) (next : Int → Bool → Int → Int → Int → (List AV) → Bool → Int → Int → Int → Int → (List UInt8) → (List UInt8) → Int → Option R) (kx0 : Bool → Int → Int → Int → (List AV) → Bool → Int → Int → Int → Int → (List UInt8) → (List UInt8) → Int → Option R) (kr : Int → Bool → Int → Int → Int → (List AV) → Bool → Int → Int → Int → Int → (List UInt8) → (List UInt8) → Int → Option R) : Option R :=
  (bif (decide (v8 < v7)) then (oB (ixB v0 v8) fun y1 => (bif fitC qa y1.cells then (qj6 (gB y1.cells 0) (gI y1.cells 1) (gI y1.cells 2) (gI y1.cells 3) (gI y1.cells 4) (gS y1.cells 5) (gS y1.cells 6) (gI y1.cells 7) Ai Aj Ak Al a1 A2 A3 A4 A5 Be Bf Bg Bh fun v4q2 b0_0q3 b0_1q4 b0_2q5 b0_3q6 a1q7 b2_0q8 b2_1q9 b2_2q10 b2_3q11 b2_4q12 b2_5q13 b2_6q14 b2_7q15 => (bif v4q2 then (kr v8 b0_0q3 b0_1q4 b0_2q5 b0_3q6 a1q7 b2_0q8 b2_1q9 b2_2q10 b2_3q11 b2_4q12 b2_5q13 b2_6q14 b2_7q15) else (next (IntKind.i64.wrap (v8 + (1 : Int))) b0_0q3 b0_1q4 b0_2q5 b0_3q6 a1q7 b2_0q8 b2_1q9 b2_2q10 b2_3q11 b2_4q12 b2_5q13 b2_6q14 b2_7q15))) else none)) else (kx0 Ai Aj Ak Al a1 A2 A3 A4 A5 Be Bf Bg Bh))
def qbv {R : Type}  (v0 : List AV) (v7 : Int) (kx0 : Bool → Int → Int → Int → (List AV) → Bool → Int → Int → Int → Int → (List UInt8) → (List UInt8) → Int → Option R) (kr : Int → Bool → Int → Int → Int → (List AV) → Bool → Int → Int → Int → Int → (List UInt8) → (List UInt8) → Int → Option R) : Nat → Int → Bool → Int → Int → Int → (List AV) → Bool → Int → Int → Int → Int → (List UInt8) → (List UInt8) → Int → Option R
  | 0 => (fun _ _ _ _ _ _ _ _ _ _ _ _ _ _ => none)
  | n + 1 => (fun v8 Ai Aj Ak Al a1 A2 A3 A4 A5 Be Bf Bg Bh => qq v0 v7 v8 Ai Aj Ak Al a1 A2 A3 A4 A5 Be Bf Bg Bh (qbv v0 v7 kx0 kr n) kx0 kr)
def qb2 {R : Type} := hull (qbv (R := R))
theorem qdo {R : Type} : qb2 (R := R) = qbv := ql _
def qr {R : Type} (KK : AV → Mem → Option R) : AC R :=
  .seq (.reg [ao 9 (.bin .lss 8 7)]) (.seq (.cond 9 (.skip) (.seq (.view [.sel [] [0, 1, 2]]) (.exit 0))) (.seq (.block 1 (.seq (.reg [ao 10 (.mv 8),
 ao 5 (.mv 10)]) (.seq (.reg [ao 11 (.mv 1),
 ao 12 (.mv 0),
 ao 13 (.mv 5),
 ao 14 (.ia 8 12 13),
 .st (.etac 14 qa),
 ao 15 (.load true 8 14),
 .st (.sel [0, 1, 5, 7, 8, 11, 15] [0, 1, 2]),
 .callr (po 16 (.callv 11 [15])) 67 quh]) (.cond 16 (.seq (.reg [ao 17 (.mv 5),
 ao 4 (.mv 17)]) (.seq (.view [.sel [4] [0, 1, 2]]) (.ret))) (.skip))))) (.seq (.reg [ao 18 (.bin .add 8 (.c (.int .i64 1))),
 ao 8 (.mv 18)]) (.view [.sel [0, 1, 7, 8] [0, 1, 2]]))))
theorem qhi {R : Type} (KK : AV → Mem → Option R) : AC.ok Try.prog (TIof Try.prog) 19 3 (qn [.t 4] KK) (qr KK) := qp (zA q5d trivial)
theorem qha {R : Type} (KK : AV → Mem → Option R) (v0 : List AV) (v7 v8 : Int) (Ai : Bool) (Aj Ak Al : Int) (a1 : List AV) (A2 : Bool) (A3 A4 A5 Be : Int) (Bf Bg : List UInt8) (Bh : Int) (K : Ex → Env → Mem → Option R) : den 3 (qn [.t 4] KK) (qr KK) (qcp v0 v7 v8 Ai Aj Ak Al a1 A2 A3 A4 A5 Be Bf Bg Bh) (qcq v0 v7 v8 Ai Aj Ak Al a1 A2 A3 A4 A5 Be Bf Bg Bh) K = qq v0 v7 v8 Ai Aj Ak Al a1 A2 A3 A4 A5 Be Bf Bg Bh (fun z_v8 z_b0_0 z_b0_1 z_b0_2 z_b0_3 z_a1 z_b2_0 z_b2_1 z_b2_2 z_b2_3 z_b2_4 z_b2_5 z_b2_6 z_b2_7 => K .norm (qcp v0 v7 z_v8 z_b0_0 z_b0_1 z_b0_2 z_b0_3 z_a1 z_b2_0 z_b2_1 z_b2_2 z_b2_3 z_b2_4 z_b2_5 z_b2_6 z_b2_7) (qcq v0 v7 z_v8 z_b0_0 z_b0_1 z_b0_2 z_b0_3 z_a1 z_b2_0 z_b2_1 z_b2_2 z_b2_3 z_b2_4 z_b2_5 z_b2_6 z_b2_7)) (qbp K) (qbs KK) := by kernel_rfl
theorem qh0 {R : Type} (KK : AV → Mem → Option R) (v0 : List AV) (v7 : Int) (K : Ex → Env → Mem → Option R) : ∀ (n : Nat) (v8 : Int) (Ai : Bool) (Aj Ak Al : Int) (a1 : List AV) (A2 : Bool) (A3 A4 A5 Be : Int) (Bf Bg : List UInt8) (Bh : Int), qgc (den 3 (qn [.t 4] KK) (qr KK)) n (qcp v0 v7 v8 Ai Aj Ak Al a1 A2 A3 A4 A5 Be Bf Bg Bh) (qcq v0 v7 v8 Ai Aj Ak Al a1 A2 A3 A4 A5 Be Bf Bg Bh) K = qb2 v0 v7 (qbp K) (qbs KK) n v8 Ai Aj Ak Al a1 A2 A3 A4 A5 Be Bf Bg Bh := by
  rw [qdo]
  intro n
  induction n with
  | zero => intros; rfl
  | succ n ih =>
 intro v8 Ai Aj Ak Al a1 A2 A3 A4 A5 Be Bf Bg Bh
 exact (qha KK v0 v7 v8 Ai Aj Ak Al a1 A2 A3 A4 A5 Be Bf Bg Bh (itK (den 3 (qn [.t 4] KK) (qr KK)) n K)).trans (congrArg (fun q => qq v0 v7 v8 Ai Aj Ak Al a1 A2 A3 A4 A5 Be Bf Bg Bh q (qbp K) (qbs KK)) (funext fun v8 => funext fun Ai => funext fun Aj => funext fun Ak => funext fun Al => funext fun a1 => funext fun A2 => funext fun A3 => funext fun A4 => funext fun A5 => funext fun Be => funext fun Bf => funext fun Bg => funext fun Bh => ih v8 Ai Aj Ak Al a1 A2 A3 A4 A5 Be Bf Bg Bh))
def qdu {R : Type} (KK : AV → Mem → Option R) := subE (R := R) qg9 fun t m K => qf (bxC (m.s 2)) (qh (bxC (m.s 0)) (qb2 (gL [t 0] 0) (gI [t 7] 0) (qbp K) (qbs KK) FU (gI [t 8] 0)) (arL (m.s 1)))
theorem qh1 {R : Type} (KK : AV → Mem → Option R) : qdb Try.prog (TIof Try.prog) 19 3 (qn [.t 4] KK) (.loop (scOf (qr KK))) (qdu KK) :=
  qgd tabOk follows (qhi KK) (qy (by kernel_rfl)) fun t m K => qh0 KK _ _ K FU _ _ _ _ _ _ _ _ _ _ _ _ _ _
def qie : Shp := ⟨[(0, .one (.l (.sl 8))), (1, .one (.fn 67 [(0, 0), (2, 0)]))], [.box true (lk qe), .arr true 8, .box true (lk qa)]⟩
def qec {R : Type} (KK : AV → Mem → Option R) := (fun v4 Ai Aj Ak Al a1 A2 A3 A4 A5 Be Bf Bg Bh => KK (.int .i64 v4) (qi [(some (.box true [(.bool Ai), (.int .u64 Aj), (.int .u64 Ak), (.int .i64 Al)])), (some (.arr true 8 a1)), (some (.box true [(.bool A2), (.int .u64 A3), (.int .u64 A4), (.int .i64 A5), (.int .i64 Be), (.str Bf), (.str Bg), (.int .i64 Bh)]))]))
def qc3 {R : Type}  (v0 : List AV) (Ai : Bool) (Aj Ak Al : Int) (a1 : List AV) (A2 : Bool) (A3 A4 A5 Be : Int) (Bf Bg : List UInt8) (Bh : Int) (kr : Int → Bool → Int → Int → Int → (List AV) → Bool → Int → Int → Int → Int → (List UInt8) → (List UInt8) → Int → Option R) : Option R :=
  (qb2 v0 (v0.length : Int) (fun b0_0q1 b0_1q2 b0_2q3 b0_3q4 a1q5 b2_0q6 b2_1q7 b2_2q8 b2_3q9 b2_4q10 b2_5q11 b2_6q12 b2_7q13 => (kr (-1 : Int) b0_0q1 b0_1q2 b0_2q3 b0_3q4 a1q5 b2_0q6 b2_1q7 b2_2q8 b2_3q9 b2_4q10 b2_5q11 b2_6q12 b2_7q13)) kr FU (0 : Int) Ai Aj Ak Al a1 A2 A3 A4 A5 Be Bf Bg Bh)
def qbm {R : Type} := hull (qc3 (R := R))
theorem qed {R : Type} : qbm (R := R) = qc3 := ql _
def qba {R : Type} (KK : AV → Mem → Option R) : AC R :=
  .seq (.reg [ao 4 (.mv (.c (.int .i64 0)))]) (.seq (.seq (.reg [ao 6 (.mv 0),
 ao 7 (.len false 6),
 ao 8 (.mv (.c (.int .i64 0)))]) (.block 0 (.seq (.view [.sel [0, 1, 7, 8] [0, 1, 2]]) (.sub (.loop (scOf (qr KK))) (qdu KK))))) (.seq (.reg [ao 4 (.mv (.c (.int .i64 (-1))))]) (.seq (.view [.sel [4] [0, 1, 2]]) (.ret))))
theorem qiq {R : Type} (KK : AV → Mem → Option R) : AC.ok Try.prog (TIof Try.prog) 19 3 (qn [.t 4] KK) (qba KK) := qp (zA (qh1 KK) trivial)
theorem qjb {R : Type} (KK : AV → Mem → Option R) (v0 : List AV) (Ai : Bool) (Aj Ak Al : Int) (a1 : List AV) (A2 : Bool) (A3 A4 A5 Be : Int) (Bf Bg : List UInt8) (Bh : Int) : den 3 (qn [.t 4] KK) (qba KK) (qk [(0, (.sl 8 v0)), (1, (.func 67 [(.ptr 0 0), (.ptr 2 0)]))]) (qi [(some (.box true (qc Ai Aj Ak Al))), (some (.arr true 8 a1)), (some (.box true (qb A2 A3 A4 A5 Be Bf Bg Bh)))]) (kend (qn [.t 4] KK)) = qbm v0 Ai Aj Ak Al a1 A2 A3 A4 A5 Be Bf Bg Bh (qec KK) := by
  rw [qed]; kernel_rfl
theorem qjc : cFn (TIof Try.prog) Try.f88 = some ⟨19, [.t 4], scOf (qba (R := Unit) (fun _ _ => none))⟩ := by kernel_rfl
theorem qjd {R : Type} (KK : AV → Mem → Option R) : (qba KK).er = some (scOf (qba (R := Unit) (fun _ _ => none))) := by kernel_rfl
def qej {R : Type} : List AV → Mem → (AV → Mem → Option R) → Option R := refE qie fun xs m KK => qf (bxC (m.s 2)) (qh (bxC (m.s 0)) (qbm (gL [(qm xs) 0] 0)) (arL (m.s 1))) (qec KK)
theorem qje {R : Type} : qfp Try.prog 88 (qej (R := R)) :=
  qld (ac := fun KK => qba KK) tabOk follows Try.func88 (by kernel_rfl) qjc (fun KK => qiq KK) (fun KK => qjd KK) rfl fun xs m KK => qjb KK _ _ _ _ _ _ _ _ _ _ _ _ _ _
def qhb : Shp := ⟨[(0, .one (.l (.sl 8))), (1, .one (.fn 67 [(0, 0), (2, 0)]))], [.box true (lk qe), .arr true 8, .box true (lk qa)]⟩
def qdp {R : Type} (KK : AV → Mem → Option R) := (fun v4 Ai Aj Ak Al a1 A2 A3 A4 A5 Be Bf Bg Bh => KK (.bool v4) (qi [(some (.box true [(.bool Ai), (.int .u64 Aj), (.int .u64 Ak), (.int .i64 Al)])), (some (.arr true 8 a1)), (some (.box true [(.bool A2), (.int .u64 A3), (.int .u64 A4), (.int .i64 A5), (.int .i64 Be), (.str Bf), (.str Bg), (.int .i64 Bh)]))]))
def qct {R : Type}  (v0 : List AV) (Ai : Bool) (Aj Ak Al : Int) (a1 : List AV) (A2 : Bool) (A3 A4 A5 Be : Int) (Bf Bg : List UInt8) (Bh : Int) (kr : Bool → Bool → Int → Int → Int → (List AV) → Bool → Int → Int → Int → Int → (List UInt8) → (List UInt8) → Int → Option R) : Option R :=
  (qbm v0 Ai Aj Ak Al a1 A2 A3 A4 A5 Be Bf Bg Bh fun v4q1 b0_0q2 b0_1q3 b0_2q4 b0_3q5 a1q6 b2_0q7 b2_1q8 b2_2q9 b2_3q10 b2_4q11 b2_5q12 b2_6q13 b2_7q14 => (kr (decide (v4q1 ≥ (0 : Int))) b0_0q2 b0_1q3 b0_2q4 b0_3q5 a1q6 b2_0q7 b2_1q8 b2_2q9 b2_3q10 b2_4q11 b2_5q12 b2_6q13 b2_7q14))
def qb3 {R : Type} := hull (qct (R := R))
theorem qdq {R : Type} : qb3 (R := R) = qct := ql _
def qt {R : Type} (KK : AV → Mem → Option R) : AC R :=
  .seq (.reg [ao 4 (.mv (.c (.bool false)))]) (.seq (.reg [ao 5 (.mv 0),
 ao 6 (.mv 1),
 .st (.sel [5, 6] [0, 1, 2]),
 .callr (po 7 (.call 88 [5, 6])) 88 qej,
 ao 8 (.bin .geq 7 (.c (.int .i64 0))),
 ao 4 (.mv 8)]) (.seq (.view [.sel [4] [0, 1, 2]]) (.ret)))
theorem qhj {R : Type} (KK : AV → Mem → Option R) : AC.ok Try.prog (TIof Try.prog) 9 3 (qn [.t 4] KK) (qt KK) := qp (zA qje trivial)
theorem qh2 {R : Type} (KK : AV → Mem → Option R) (v0 : List AV) (Ai : Bool) (Aj Ak Al : Int) (a1 : List AV) (A2 : Bool) (A3 A4 A5 Be : Int) (Bf Bg : List UInt8) (Bh : Int) : den 3 (qn [.t 4] KK) (qt KK) (qk [(0, (.sl 8 v0)), (1, (.func 67 [(.ptr 0 0), (.ptr 2 0)]))]) (qi [(some (.box true (qc Ai Aj Ak Al))), (some (.arr true 8 a1)), (some (.box true (qb A2 A3 A4 A5 Be Bf Bg Bh)))]) (kend (qn [.t 4] KK)) = qb3 v0 Ai Aj Ak Al a1 A2 A3 A4 A5 Be Bf Bg Bh (qdp KK) := by
  rw [qdq]; kernel_rfl
theorem qh3 : cFn (TIof Try.prog) Try.f68 = some ⟨9, [.t 4], scOf (qt (R := Unit) (fun _ _ => none))⟩ := by kernel_rfl
theorem qh4 {R : Type} (KK : AV → Mem → Option R) : (qt KK).er = some (scOf (qt (R := Unit) (fun _ _ => none))) := by kernel_rfl
def qdv {R : Type} : List AV → Mem → (AV → Mem → Option R) → Option R := refE qhb fun xs m KK => qf (bxC (m.s 2)) (qh (bxC (m.s 0)) (qb3 (gL [(qm xs) 0] 0)) (arL (m.s 1))) (qdp KK)
theorem qh5 {R : Type} : qfp Try.prog 68 (qdv (R := R)) :=
  qld (ac := fun KK => qt KK) tabOk follows Try.func68 (by kernel_rfl) qh3 (fun KK => qhj KK) (fun KK => qh4 KK) rfl fun xs m KK => qh2 KK _ _ _ _ _ _ _ _ _ _ _ _ _ _
def qs9  (v0 v9 : List AV) (v10 v11 : Int) (K : Ex → Env → Mem → Option (List AV)) := (fun z_v25 z_b0_0 z_b0_1 z_b0_2 z_b0_3 z_a1 z_b2_0 z_b2_1 z_b2_2 z_b2_3 z_b2_4 z_b2_5 z_b2_6 z_b2_7 => K .norm (qk [(0, (.sl 8 v0)), (3, (.ptr 0 0)), (5, (.own 1 z_a1.length)), (7, (.ptr 2 0)), (9, (.sl 8 v9)), (10, (.int .i64 v10)), (11, (.int .i64 v11)), (25, (.bool z_v25))]) (qi [(some (.box true (qc z_b0_0 z_b0_1 z_b0_2 z_b0_3))), (some (.arr true 8 z_a1)), (some (.box true (qb z_b2_0 z_b2_1 z_b2_2 z_b2_3 z_b2_4 z_b2_5 z_b2_6 z_b2_7)))]))
def q3i : Shp := ⟨[(0, .one (.l (.sl 8))), (3, .one (.ptr 0 0)), (5, .one (.own 1)), (7, .one (.ptr 2 0)), (8, .one (.fn 67 [(0, 0), (2, 0)])), (9, .one (.l (.sl 8))), (10, .one (.l (.i .i64))), (11, .one (.l (.i .i64)))], [.box true (lk qe), .arr true 8, .box true (lk qa)]⟩
def qoi  (v0 v9 : List AV) (v10 v11 : Int) (Ai : Bool) (Aj Ak Al : Int) (a1 : List AV) (A2 : Bool) (A3 A4 A5 Be : Int) (Bf Bg : List UInt8) (Bh : Int) (kn : Bool → Bool → Int → Int → Int → (List AV) → Bool → Int → Int → Int → Int → (List UInt8) → (List UInt8) → Int → Option (List AV)) : Option (List AV) :=
  (oB (qgy A2 A3 A4 A5 Ai Aj Ak Al) fun r1 => (bif r1 then (qb3 v0 Ai Aj Ak Al a1 A2 A3 A4 A5 Be Bf Bg Bh fun v4q2 b0_0q3 b0_1q4 b0_2q5 b0_3q6 a1q7 b2_0q8 b2_1q9 b2_2q10 b2_3q11 b2_4q12 b2_5q13 b2_6q14 b2_7q15 => (bif hd a1q7 a1.length then (kn (!v4q2) b0_0q3 b0_1q4 b0_2q5 b0_3q6 a1q7 b2_0q8 b2_1q9 b2_2q10 b2_3q11 b2_4q12 b2_5q13 b2_6q14 b2_7q15) else none)) else (bif hd a1 a1.length then (kn false Ai Aj Ak Al a1 A2 A3 A4 A5 Be Bf Bg Bh) else none)))
def qj7 := hull (qoi)
theorem qta : qj7 = qoi := ql _
def qlg : AC (List AV) :=
  .seq (.reg [ao 16 (.fa 0 7),
 ao 17 (.load true 4 16),
 ao 18 (.load true 4 3),
 .call (po 19 (.call 64 [17, 18])) 64 qgn,
 ao 20 (.mv 19),
 ag 21 20 true (.mv 0),
 ag 22 20 true (.mv 8),
 .stg 20 true (.sel [0, 3, 5, 7, 9, 10, 11, 20, 21, 22] [0, 1, 2]),
 .callr (pg 23 20 true (.call 68 [21, 22])) 68 qdv,
 ag 24 20 true (.un .not 23),
 ao 25 (.pick 20 24 (.c (.bool false)))]) (.view [.hd 5, .sel [0, 3, 5, 7, 9, 10, 11, 25] [0, 1, 2]])
theorem q4m : AC.ok Try.prog (TIof Try.prog) 32 0 (kret [.t 4] (decF true 8)) qlg := qp (zA (qd.ok qll) (zA qh5 trivial))
theorem q5e (v0 v9 : List AV) (v10 v11 : Int) (Ai : Bool) (Aj Ak Al : Int) (a1 : List AV) (A2 : Bool) (A3 A4 A5 Be : Int) (Bf Bg : List UInt8) (Bh : Int) (K : Ex → Env → Mem → Option (List AV)) : den 0 (kret [.t 4] (decF true 8)) qlg (qk [(0, (.sl 8 v0)), (3, (.ptr 0 0)), (5, (.own 1 a1.length)), (7, (.ptr 2 0)), (8, (.func 67 [(.ptr 0 0), (.ptr 2 0)])), (9, (.sl 8 v9)), (10, (.int .i64 v10)), (11, (.int .i64 v11))]) (qi [(some (.box true (qc Ai Aj Ak Al))), (some (.arr true 8 a1)), (some (.box true (qb A2 A3 A4 A5 Be Bf Bg Bh)))]) K = qj7 v0 v9 v10 v11 Ai Aj Ak Al a1 A2 A3 A4 A5 Be Bf Bg Bh (qs9 v0 v9 v10 v11 K) := by
  rw [qta]; kernel_rfl
def qui := subE (R := (List AV)) q3i fun t m K => qf (bxC (m.s 2)) (qh (bxC (m.s 0)) (qj7 (gL [t 0] 0) (gL [t 9] 0) (gI [t 10] 0) (gI [t 11] 0)) (arL (m.s 1))) (qs9 (gL [t 0] 0) (gL [t 9] 0) (gI [t 10] 0) (gI [t 11] 0) K)
theorem q5f : qdb Try.prog (TIof Try.prog) 32 0 (kret [.t 4] (decF true 8)) (scOf qlg) (qui) :=
  qis tabOk follows (q4m) (qy (by kernel_rfl)) fun t m K => q5e _ _ _ _ _ _ _ _ _ _ _ _ _ _ _ _ _ K
def qkw  (K : Ex → Env → Mem → Option (List AV)) := (fun z_a0 => K (.exit 0) (qk [(5, (.own 0 z_a0.length))]) (qi [(some (.arr true 8 z_a0))]))
def q4n : Shp := ⟨[(0, .one (.l (.sl 8))), (3, .one (.ptr 0 0)), (5, .one (.own 1)), (9, .one (.l (.sl 8))), (10, .one (.l (.i .i64))), (11, .one (.l (.i .i64)))], [.box true (lk qe), .arr true 8]⟩
def qoj (v0 v9 : List AV) (v10 v11 : Int) (Ai : Bool) (Aj Ak Al : Int) (a1 : List AV) : Env := qk [(0, (.sl 8 v0)), (3, (.ptr 0 0)), (5, (.own 1 a1.length)), (9, (.sl 8 v9)), (10, (.int .i64 v10)), (11, (.int .i64 v11))]
def qok (v0 v9 : List AV) (v10 v11 : Int) (Ai : Bool) (Aj Ak Al : Int) (a1 : List AV) : Mem := qi [(some (.box true (qc Ai Aj Ak Al))), (some (.arr true 8 a1))]
def qf8  (v0 v9 : List AV) (v10 v11 : Int) (Ai : Bool) (Aj Ak Al : Int) (a1 : List AV) (next : Int → Bool → Int → Int → Int → (List AV) → Option (List AV)) (kx0 : (List AV) → Option (List AV)) : Option (List AV) :=
  (bif (decide (v11 < v10)) then (oB (ixB v9 v11) fun y1 => (bif fitC qa y1.cells then (bif (hd a1 (a1.length) && true) then (qj7 v0 v9 v10 v11 Ai Aj Ak Al a1 (gB y1.cells 0) (gI y1.cells 1) (gI y1.cells 2) (gI y1.cells 3) (gI y1.cells 4) (gS y1.cells 5) (gS y1.cells 6) (gI y1.cells 7) (fun v25q2 b0_0q3 b0_1q4 b0_2q5 b0_3q6 a1q7 b2_0q8 b2_1q9 b2_2q10 b2_3q11 b2_4q12 b2_5q13 b2_6q14 b2_7q15 => (bif v25q2 then (bif hd a1q7 a1q7.length then (bif hd ([(.agg [(.bool b2_0q8), (.int .u64 b2_1q9), (.int .u64 b2_2q10), (.int .i64 b2_3q11), (.int .i64 b2_4q12), (.str b2_5q13), (.str b2_6q14), (.int .i64 b2_7q15)])] : List AV) (([(.agg [(.bool b2_0q8), (.int .u64 b2_1q9), (.int .u64 b2_2q10), (.int .i64 b2_3q11), (.int .i64 b2_4q12), (.str b2_5q13), (.str b2_6q14), (.int .i64 b2_7q15)])] : List AV).length) then (bif decide ((a1q7.length + ([(.agg [(.bool b2_0q8), (.int .u64 b2_1q9), (.int .u64 b2_2q10), (.int .i64 b2_3q11), (.int .i64 b2_4q12), (.str b2_5q13), (.str b2_6q14), (.int .i64 b2_7q15)])] : List AV).length) * 80 ≤ 140737488355328) then (next (IntKind.i64.wrap (v11 + (1 : Int))) b0_0q3 b0_1q4 b0_2q5 b0_3q6 (a1q7 ++ ([(.agg [(.bool b2_0q8), (.int .u64 b2_1q9), (.int .u64 b2_2q10), (.int .i64 b2_3q11), (.int .i64 b2_4q12), (.str b2_5q13), (.str b2_6q14), (.int .i64 b2_7q15)])] : List AV))) else none) else none) else none) else (next (IntKind.i64.wrap (v11 + (1 : Int))) b0_0q3 b0_1q4 b0_2q5 b0_3q6 a1q7)))) else none) else none)) else (kx0 a1))
def ql8  (v0 v9 : List AV) (v10 : Int) (kx0 : (List AV) → Option (List AV)) : Nat → Int → Bool → Int → Int → Int → (List AV) → Option (List AV)
  | 0 => (fun _ _ _ _ _ _ => none)
  | n + 1 => (fun v11 Ai Aj Ak Al a1 => qf8 v0 v9 v10 v11 Ai Aj Ak Al a1 (ql8 v0 v9 v10 kx0 n) kx0)
def qnj := hull (ql8)
theorem quj : qnj = ql8 := ql _
def qf9 : AC (List AV) :=
  .seq (.reg [ao 12 (.bin .lss 11 10)]) (.seq (.cond 12 (.skip) (.seq (.view [.sel [5] [1]]) (.exit 0))) (.seq (.block 1 (.seq (.reg [ao 13 (.ia 8 9 11),
 .st (.etac 13 qa),
 ao 14 (.load true 8 13),
 ao 7 (.alloc [(.bool false), (.int .u64 0), (.int .u64 0), (.int .i64 0), (.int .i64 0), (.str []), (.str []), (.int .i64 0)]),
 an (.store 8 7 14)]) (.seq (.reg [ao 15 (.mkf 67 [3, 7]),
 ao 8 (.mv 15)]) (.seq (.seq (.view [.sel [0, 3, 5, 7, 8, 9, 10, 11] [0, 1, 2]]) (.sub (scOf qlg) qui)) (.cond 25 (.reg [ao 26 (.mv 5),
 ao 27 (.load true 8 7),
 ao 28 (.bsl 8 [27]),
 ao 29 (.app 8 80 26 28),
 ao 5 (.mv 29)]) (.skip)))))) (.seq (.reg [ao 30 (.bin .add 11 (.c (.int .i64 1))),
 ao 11 (.mv 30)]) (.view [.sel [0, 3, 5, 9, 10, 11] [0, 1]]))))
theorem q5g : AC.ok Try.prog (TIof Try.prog) 32 0 (kret [.t 4] (decF true 8)) qf9 := qp (zA q5f trivial)
theorem q4o (v0 v9 : List AV) (v10 v11 : Int) (Ai : Bool) (Aj Ak Al : Int) (a1 : List AV) (K : Ex → Env → Mem → Option (List AV)) : den 0 (kret [.t 4] (decF true 8)) qf9 (qoj v0 v9 v10 v11 Ai Aj Ak Al a1) (qok v0 v9 v10 v11 Ai Aj Ak Al a1) K = qf8 v0 v9 v10 v11 Ai Aj Ak Al a1 (fun z_v11 z_b0_0 z_b0_1 z_b0_2 z_b0_3 z_a1 => K .norm (qoj v0 v9 v10 z_v11 z_b0_0 z_b0_1 z_b0_2 z_b0_3 z_a1) (qok v0 v9 v10 z_v11 z_b0_0 z_b0_1 z_b0_2 z_b0_3 z_a1)) (qkw K) := by kernel_rfl
theorem q6v (v0 v9 : List AV) (v10 : Int) (K : Ex → Env → Mem → Option (List AV)) : ∀ (n : Nat) (v11 : Int) (Ai : Bool) (Aj Ak Al : Int) (a1 : List AV), qgc (den 0 (kret [.t 4] (decF true 8)) qf9) n (qoj v0 v9 v10 v11 Ai Aj Ak Al a1) (qok v0 v9 v10 v11 Ai Aj Ak Al a1) K = qnj v0 v9 v10 (qkw K) n v11 Ai Aj Ak Al a1 := by
  rw [quj]
  intro n
  induction n with
  | zero => intros; rfl
  | succ n ih =>
 intro v11 Ai Aj Ak Al a1
 exact (q4o v0 v9 v10 v11 Ai Aj Ak Al a1 (itK (den 0 (kret [.t 4] (decF true 8)) qf9) n K)).trans (congrArg (fun q => qf8 v0 v9 v10 v11 Ai Aj Ak Al a1 q (qkw K)) (funext fun v11 => funext fun Ai => funext fun Aj => funext fun Ak => funext fun Al => funext fun a1 => ih v11 Ai Aj Ak Al a1))
def qvp := subE (R := (List AV)) q4n fun t m K => qh (bxC (m.s 0)) (qnj (gL [t 0] 0) (gL [t 9] 0) (gI [t 10] 0) (qkw K) FU (gI [t 11] 0)) (arL (m.s 1))
theorem q6w : qdb Try.prog (TIof Try.prog) 32 0 (kret [.t 4] (decF true 8)) (.loop (scOf qf9)) (qvp) :=
  qgd tabOk follows (q5g) (qy (by kernel_rfl)) fun t m K => q6v _ _ _ K FU _ _ _ _ _ _
def q81 : Shp := ⟨[(0, .one (.l (.sl 8))), (1, .st (lk qe))], []⟩
def qsr (v0 : List AV) (Aq : Bool) (Ar As At : Int) : Option (List AV) :=
  (bif (hd ([] : List AV) (([] : List AV).length) && true) then (qnj v0 v0 (v0.length : Int) (fun a0q1 => (bif hd a0q1 a0q1.length then (some a0q1) else none)) FU (0 : Int) Aq Ar As At ([] : List AV)) else none)
def qfc := hull qsr
theorem qyu : qfc = qsr := ql _
def qss : AC (List AV) :=
  .seq (.reg [ao 3 (.box 1),
 ao 4 (.mv (.c .nils))]) (.seq (.reg [ao 5 (.mv (.c .nils))]) (.seq (.seq (.reg [ao 9 (.mv 0),
 ao 10 (.len false 9),
 ao 11 (.mv (.c (.int .i64 0)))]) (.block 0 (.seq (.view [.own 5 8, .sel [0, 3, 5, 9, 10, 11] [0, 1]]) (.sub (.loop (scOf qf9)) qvp)))) (.seq (.reg [ao 31 (.mv 5),
 ao 4 (.mv 31)]) (.ret))))
theorem q98 : AC.ok Try.prog (TIof Try.prog) 32 0 (kret [.t 4] (decF true 8)) qss := qp (zA q6w trivial)
theorem qbda (v0 : List AV) (Aq : Bool) (Ar As At : Int) : den 0 (kret [.t 4] (decF true 8)) qss (qk [(0, (.sl 8 v0)), (1, .agg (qc Aq Ar As At))]) (qi []) (kend (kret [.t 4] (decF true 8))) = qfc v0 Aq Ar As At := by
  rw [qyu]; kernel_rfl
theorem qbdb : cFn (TIof Try.prog) Try.f30 = some ⟨32, [.t 4], scOf qss⟩ := by kernel_rfl
def qbdc (xs : List AV) : Option (List AV) := qh ((qm xs) 1).cells (qfc (gL [(qm xs) 0] 0))
def qmy {R : Type} : List AV → (AV → Option R) → Option R := entF q81 qbdc (AV.fr true 8)
theorem qst {R : Type} : qd Try.prog 30 (qmy (R := R)) :=
  qce tabOk follows Try.func30 (by kernel_rfl) qbdb hdeF q98 (qy (by kernel_rfl)) fun xs => qbda _ _ _ _ _
def q99 : Shp := ⟨[(0, .st (lk qe)), (1, .st (lk qe))], []⟩
def qt3 (Aa : Bool) (Ab Ac Ad : Int) (Aq : Bool) (Ar As At : Int) : Option Bool :=
  (oB (qg3 Aa Ab Ac Ad Aq Ar As At) fun r1 => (bif r1 then (some true) else (oB (qg3 Aq Ar As At Aa Ab Ac Ad) fun r2 => (some r2))))
def qkf := hull qt3
theorem q0x : qkf = qt3 := ql _
def qt4 : AC Bool :=
  .seq (.reg [ao 2 (.box 0),
 ao 3 (.box 1),
 ao 4 (.mv (.c (.bool false)))]) (.seq (.reg [ao 5 (.load true 4 2),
 ao 6 (.load true 4 3),
 .call (po 7 (.call 37 [5, 6])) 37 qix,
 ao 8 (.mv 7),
 ag 9 8 false (.load true 4 3),
 ag 10 8 false (.load true 4 2),
 .call (pg 11 8 false (.call 37 [9, 10])) 37 qix,
 ao 12 (.pick 8 (.c (.bool true)) 11),
 ao 4 (.mv 12)]) (.ret))
theorem qbdd : AC.ok Try.prog (TIof Try.prog) 13 0 (kret [.t 4] decB) qt4 := qp (zA (qd.ok qnc) (zA (qd.ok qnc) trivial))
theorem qbe7 (Aa : Bool) (Ab Ac Ad : Int) (Aq : Bool) (Ar As At : Int) : den 0 (kret [.t 4] decB) qt4 (qk [(0, .agg (qc Aa Ab Ac Ad)), (1, .agg (qc Aq Ar As At))]) (qi []) (kend (kret [.t 4] decB)) = qkf Aa Ab Ac Ad Aq Ar As At := by
  rw [q0x]; kernel_rfl
theorem qbe8 : cFn (TIof Try.prog) Try.f36 = some ⟨13, [.t 4], scOf qt4⟩ := by kernel_rfl
def qbe9 (xs : List AV) : Option Bool := qh ((qm xs) 1).cells (qh ((qm xs) 0).cells (qkf))
def qnk {R : Type} : List AV → (AV → Option R) → Option R := entF q99 qbe9 AV.bool
theorem qt5 {R : Type} : qd Try.prog 36 (qnk (R := R)) :=
  qce tabOk follows Try.func36 (by kernel_rfl) qbe8 hdeB qbdd (qy (by kernel_rfl)) fun xs => qbe7 _ _ _ _ _ _ _ _
def qvq : Shp := ⟨[(0, .one (.own 0)), (1, .one (.l (.sl 8))), (2, .st (lk qe))], [.arr true 4]⟩
def qf3 (rec : (List AV) → (List AV) → Bool → Int → Int → Int → Option (List AV)) (xs cl : List AV) : Option (List AV) := chk (q34 qvq (qm (.own 0 xs.length :: cl)) (M1 4 xs)) (cond (hdS qvq (qm (.own 0 xs.length :: cl)) (M1 4 xs)) (rec xs (gL [(qm (.own 0 xs.length :: cl)) 1] 0) (gB ((qm (.own 0 xs.length :: cl)) 2).cells 0) (gI ((qm (.own 0 xs.length :: cl)) 2).cells 1) (gI ((qm (.own 0 xs.length :: cl)) 2).cells 2) (gI ((qm (.own 0 xs.length :: cl)) 2).cells 3)) none)
def qnl  (a0 : List AV) (Au : Bool) (Av Aw Ax : Int) (K : Ex → Env → Mem → Option (List AV)) := (fun z_a2 => K (.exit 0) (qk [(0, (.own 0 a0.length)), (5, (.ptr 1 0)), (7, (.own 2 z_a2.length))]) (qi [(some (.arr true 4 a0)), (some (.box true (qc Au Av Aw Ax))), (some (.arr true 8 z_a2))]))
def qbaa : Shp := ⟨[(0, .one (.own 0)), (5, .one (.ptr 1 0)), (7, .one (.own 2)), (13, .one (.l (.sl 8))), (14, .one (.l (.i .i64))), (15, .one (.l (.i .i64)))], [.arr true 4, .box true (lk qe), .arr true 8]⟩
def qsu (v13 : List AV) (v14 v15 : Int) (a0 : List AV) (Au : Bool) (Av Aw Ax : Int) (a2 : List AV) : Env := qk [(0, (.own 0 a0.length)), (5, (.ptr 1 0)), (7, (.own 2 a2.length)), (13, (.sl 8 v13)), (14, (.int .i64 v14)), (15, (.int .i64 v15))]
def qsv (v13 : List AV) (v14 v15 : Int) (a0 : List AV) (Au : Bool) (Av Aw Ax : Int) (a2 : List AV) : Mem := qi [(some (.arr true 4 a0)), (some (.box true (qc Au Av Aw Ax))), (some (.arr true 8 a2))]
def qkg  (rec : (List AV) → (List AV) → Bool → Int → Int → Int → Option (List AV)) (v13 : List AV) (v14 v15 : Int) (a0 : List AV) (Au : Bool) (Av Aw Ax : Int) (a2 : List AV) (next : Int → (List AV) → Option (List AV)) (kx0 : (List AV) → Option (List AV)) : Option (List AV) :=
  (bif (decide (v15 < v14)) then (oB (ixB v13 v15) fun y1 => (bif fitC qa y1.cells then (oB (qg3 Au Av Aw Ax (gB y1.cells 0) (gI y1.cells 1) (gI y1.cells 2) (gI y1.cells 3)) fun r2 => (bif r2 then (bif hd a0 a0.length then (some a0) else none) else (oB (qkf (gB y1.cells 0) (gI y1.cells 1) (gI y1.cells 2) (gI y1.cells 3) Au Av Aw Ax) fun r3 => (bif r3 then (bif hd a2 a2.length then (bif hd ([(.agg [(.bool (gB y1.cells 0)), (.int .u64 (gI y1.cells 1)), (.int .u64 (gI y1.cells 2)), (.int .i64 (gI y1.cells 3)), (.int .i64 (gI y1.cells 4)), (.str (gS y1.cells 5)), (.str (gS y1.cells 6)), (.int .i64 (gI y1.cells 7))])] : List AV) (([(.agg [(.bool (gB y1.cells 0)), (.int .u64 (gI y1.cells 1)), (.int .u64 (gI y1.cells 2)), (.int .i64 (gI y1.cells 3)), (.int .i64 (gI y1.cells 4)), (.str (gS y1.cells 5)), (.str (gS y1.cells 6)), (.int .i64 (gI y1.cells 7))])] : List AV).length) then (bif decide ((a2.length + ([(.agg [(.bool (gB y1.cells 0)), (.int .u64 (gI y1.cells 1)), (.int .u64 (gI y1.cells 2)), (.int .i64 (gI y1.cells 3)), (.int .i64 (gI y1.cells 4)), (.str (gS y1.cells 5)), (.str (gS y1.cells 6)), (.int .i64 (gI y1.cells 7))])] : List AV).length) * 80 ≤ 140737488355328) then (next (IntKind.i64.wrap (v15 + (1 : Int))) (a2 ++ ([(.agg [(.bool (gB y1.cells 0)), (.int .u64 (gI y1.cells 1)), (.int .u64 (gI y1.cells 2)), (.int .i64 (gI y1.cells 3)), (.int .i64 (gI y1.cells 4)), (.str (gS y1.cells 5)), (.str (gS y1.cells 6)), (.int .i64 (gI y1.cells 7))])] : List AV))) else none) else none) else none) else (next (IntKind.i64.wrap (v15 + (1 : Int))) a2))))) else none)) else (kx0 a2))
def qo7  (rec : (List AV) → (List AV) → Bool → Int → Int → Int → Option (List AV)) (v13 : List AV) (v14 : Int) (a0 : List AV) (Au : Bool) (Av Aw Ax : Int) (kx0 : (List AV) → Option (List AV)) : Nat → Int → (List AV) → Option (List AV)
  | 0 => (fun _ _ => none)
  | n + 1 => (fun v15 a2 => qkg rec v13 v14 v15 a0 Au Av Aw Ax a2 (qo7 rec v13 v14 a0 Au Av Aw Ax kx0 n) kx0)
def qol  (rec : (List AV) → (List AV) → Bool → Int → Int → Int → Option (List AV)):= hull (qo7 rec)
theorem q0y  (rec : (List AV) → (List AV) → Bool → Int → Int → Int → Option (List AV)): qol rec = qo7 rec := ql _
def qkh (rec : (List AV) → (List AV) → Bool → Int → Int → Int → Option (List AV)) : AC (List AV) :=
  .seq (.reg [ao 16 (.bin .lss 15 14)]) (.seq (.cond 16 (.skip) (.seq (.view [.sel [0, 5, 7] [0, 1, 2]]) (.exit 0))) (.seq (.block 1 (.seq (.reg [ao 17 (.ia 8 13 15),
 .st (.etac 17 qa),
 ao 18 (.load true 8 17),
 ao 9 (.alloc [(.bool false), (.int .u64 0), (.int .u64 0), (.int .i64 0), (.int .i64 0), (.str []), (.str []), (.int .i64 0)]),
 an (.store 8 9 18)]) (.seq (.seq (.reg [ao 19 (.load true 4 5),
 ao 20 (.fa 0 9),
 ao 21 (.load true 4 20),
 .call (po 22 (.call 37 [19, 21])) 37 qix]) (.cond 22 (.seq (.reg [ao 23 (.mv 0),
 ao 6 (.mv 23)]) (.ret)) (.skip))) (.seq (.reg [ao 24 (.fa 0 9),
 ao 25 (.load true 4 24),
 ao 26 (.load true 4 5),
 .call (po 27 (.call 36 [25, 26])) 36 qnk]) (.cond 27 (.reg [ao 28 (.mv 7),
 ao 29 (.load true 8 9),
 ao 30 (.bsl 8 [29]),
 ao 31 (.app 8 80 28 30),
 ao 7 (.mv 31)]) (.skip)))))) (.seq (.reg [ao 32 (.bin .add 15 (.c (.int .i64 1))),
 ao 15 (.mv 32)]) (.view [.sel [0, 5, 7, 13, 14, 15] [0, 1, 2]]))))
theorem qbde (rec : (List AV) → (List AV) → Bool → Int → Int → Int → Option (List AV)) (hrec : qtd Try.prog 69 4 (qf3 rec)) : AC.ok Try.prog (TIof Try.prog) 56 1 (qn [.t 6] (grK 4)) (qkh rec) := qp (zA (qd.ok qnc) (zA (qd.ok qt5) trivial))
theorem qbab (rec : (List AV) → (List AV) → Bool → Int → Int → Int → Option (List AV)) (v13 : List AV) (v14 v15 : Int) (a0 : List AV) (Au : Bool) (Av Aw Ax : Int) (a2 : List AV) (K : Ex → Env → Mem → Option (List AV)) : den 1 (qn [.t 6] (grK 4)) (qkh rec) (qsu v13 v14 v15 a0 Au Av Aw Ax a2) (qsv v13 v14 v15 a0 Au Av Aw Ax a2) K = qkg rec v13 v14 v15 a0 Au Av Aw Ax a2 (fun z_v15 z_a2 => K .norm (qsu v13 v14 z_v15 a0 Au Av Aw Ax z_a2) (qsv v13 v14 z_v15 a0 Au Av Aw Ax z_a2)) (qnl a0 Au Av Aw Ax K) := by kernel_rfl
theorem qbfa (rec : (List AV) → (List AV) → Bool → Int → Int → Int → Option (List AV)) (v13 : List AV) (v14 : Int) (a0 : List AV) (Au : Bool) (Av Aw Ax : Int) (K : Ex → Env → Mem → Option (List AV)) : ∀ (n : Nat) (v15 : Int) (a2 : List AV), qgc (den 1 (qn [.t 6] (grK 4)) (qkh rec)) n (qsu v13 v14 v15 a0 Au Av Aw Ax a2) (qsv v13 v14 v15 a0 Au Av Aw Ax a2) K = qol rec v13 v14 a0 Au Av Aw Ax (qnl a0 Au Av Aw Ax K) n v15 a2 := by
  rw [q0y]
  intro n
  induction n with
  | zero => intros; rfl
  | succ n ih =>
 intro v15 a2
 exact (qbab rec v13 v14 v15 a0 Au Av Aw Ax a2 (itK (den 1 (qn [.t 6] (grK 4)) (qkh rec)) n K)).trans (congrArg (fun q => qkg rec v13 v14 v15 a0 Au Av Aw Ax a2 q (qnl a0 Au Av Aw Ax K)) (funext fun v15 => funext fun a2 => ih v15 a2))
def q2p (rec : (List AV) → (List AV) → Bool → Int → Int → Int → Option (List AV)) := subE (R := List AV) qbaa fun t m K => qh (bxC (m.s 1)) (qol rec (gL [t 13] 0) (gI [t 14] 0) (arL (m.s 0))) (qnl (arL (m.s 0)) (gB (bxC (m.s 1)) 0) (gI (bxC (m.s 1)) 1) (gI (bxC (m.s 1)) 2) (gI (bxC (m.s 1)) 3) K) FU (gI [t 15] 0) (arL (m.s 2))
theorem qbfb (rec : (List AV) → (List AV) → Bool → Int → Int → Int → Option (List AV)) (hrec : qtd Try.prog 69 4 (qf3 rec)) : qdb Try.prog (TIof Try.prog) 56 1 (qn [.t 6] (grK 4)) (.loop (scOf (qkh rec))) (q2p rec) :=
  qgd tabOk follows (qbde rec hrec) (qy (by kernel_rfl)) fun t m K => qbfa rec _ _ _ _ _ _ _ K FU _ _
def qtg (rec : (List AV) → (List AV) → Bool → Int → Int → Int → Option (List AV)) (a0 v1 : List AV) (Br : Bool) (Bs Bt Bu : Int) : Option (List AV) :=
  (bif (hd a0 (a0.length) && (hd ([] : List AV) (([] : List AV).length) && true)) then (qol rec v1 (v1.length : Int) a0 Br Bs Bt Bu (fun a2q1 => (bif ((a2q1.length : Int) == (0 : Int)) then (bif hd a0 a0.length then (bif hd ([(.agg [(.bool Br), (.int .u64 Bs), (.int .u64 Bt), (.int .i64 Bu)])] : List AV) (([(.agg [(.bool Br), (.int .u64 Bs), (.int .u64 Bt), (.int .i64 Bu)])] : List AV).length) then (bif decide ((a0.length + ([(.agg [(.bool Br), (.int .u64 Bs), (.int .u64 Bt), (.int .i64 Bu)])] : List AV).length) * 32 ≤ 140737488355328) then (bif hd (a0 ++ ([(.agg [(.bool Br), (.int .u64 Bs), (.int .u64 Bt), (.int .i64 Bu)])] : List AV)) ((a0 ++ ([(.agg [(.bool Br), (.int .u64 Bs), (.int .u64 Bt), (.int .i64 Bu)])] : List AV)).length) then (some (a0 ++ ([(.agg [(.bool Br), (.int .u64 Bs), (.int .u64 Bt), (.int .i64 Bu)])] : List AV))) else none) else none) else none) else none) else (oB (qln Br Bs Bt Bu) fun r2 => (bif (!r2.2.2) then (bif hd a0 a0.length then (some a0) else none) else (bif hd a2q1 a2q1.length then (bif hd a0 a0.length then (oB (bif (hd a0 (a0.length) && true) then (rec a0 a2q1 (gB r2.1.cells 0) (gI r2.1.cells 1) (gI r2.1.cells 2) (gI r2.1.cells 3)) else none) fun r3 => (bif hd r3 r3.length then (oB (bif (hd r3 (r3.length) && true) then (rec r3 a2q1 (gB r2.2.1.cells 0) (gI r2.2.1.cells 1) (gI r2.2.1.cells 2) (gI r2.2.1.cells 3)) else none) fun r4 => (bif hd r4 r4.length then (some r4) else none)) else none)) else none) else none))))) FU (0 : Int) ([] : List AV)) else none)
def qff : Nat → (List AV) → (List AV) → Bool → Int → Int → Int → Option (List AV)
  | 0 => (fun _ _ _ _ _ _ => none)
  | n + 1 => (fun a0 v1 Br Bs Bt Bu => qtg (qff n) a0 v1 Br Bs Bt Bu)
def qxw : (List AV) → (List AV) → Bool → Int → Int → Int → Option (List AV) := hull (qff FU)
theorem q5h : qxw = qff FU := ql _
def qpr (rec : (List AV) → (List AV) → Bool → Int → Int → Int → Option (List AV)) : AC (List AV) :=
  .seq (.reg [ao 5 (.box 2),
 ao 6 (.mv (.c .nils))]) (.seq (.reg [ao 7 (.mv (.c .nils))]) (.seq (.seq (.reg [ao 13 (.mv 1),
 ao 14 (.len false 13),
 ao 15 (.mv (.c (.int .i64 0)))]) (.block 0 (.seq (.view [.own 7 8, .sel [0, 5, 7, 13, 14, 15] [0, 1, 2]]) (.sub (.loop (scOf (qkh rec))) (q2p rec))))) (.seq (.seq (.reg [ao 33 (.mv 7),
 ao 34 (.len false 33),
 ao 35 (.bin .eql 34 (.c (.int .i64 0)))]) (.cond 35 (.seq (.reg [ao 36 (.mv 0),
 ao 37 (.load true 4 5),
 ao 38 (.bsl 4 [37]),
 ao 39 (.app 4 32 36 38),
 ao 6 (.mv 39)]) (.ret)) (.skip))) (.seq (.reg [ao 41 (.load true 4 5),
 .call (po 42 (.call 59 [41])) 59 qn4,
 ao 40 (.mv 42),
 ao 43 (.ext 40 0),
 ao 44 (.ext 40 1),
 ao 45 (.ext 40 2),
 ao 10 (.alloc [(.bool false), (.int .u64 0), (.int .u64 0), (.int .i64 0)]),
 ao 11 (.alloc [(.bool false), (.int .u64 0), (.int .u64 0), (.int .i64 0)]),
 an (.store 4 10 43),
 an (.store 4 11 44),
 ao 12 (.mv 45)]) (.seq (.seq (.reg [ao 46 (.mv 12),
 ao 47 (.un .not 46)]) (.cond 47 (.seq (.reg [ao 48 (.mv 0),
 ao 6 (.mv 48)]) (.ret)) (.skip))) (.seq (.seq (.view [.snap 7]) (.draw4 [(po 49 (.mv 0)), (po 50 (.mv 7)), (po 51 (.load true 4 10))] 52 69 4 49 [50, 51] (qf3 rec) [(po 53 (.mv 7)), (po 54 (.load true 4 11))] [.callr (po 55 (.call 69 [52, 53, 54])) 69 (qbig 4 (qf3 rec)),
 ao 6 (.mv 55)])) (.ret)))))))
theorem qbjz (rec : (List AV) → (List AV) → Bool → Int → Int → Int → Option (List AV)) (hrec : qtd Try.prog 69 4 (qf3 rec)) : AC.ok Try.prog (TIof Try.prog) 56 1 (qn [.t 6] (grK 4)) (qpr rec) := qp (zA (qbfb rec hrec) (zA (qd.ok qvj) (zA hrec (zA (qblf hrec) trivial))))
theorem qbmj (rec : (List AV) → (List AV) → Bool → Int → Int → Int → Option (List AV)) (v1 : List AV) (Br : Bool) (Bs Bt Bu : Int) (a0 : List AV) : den 1 (qn [.t 6] (grK 4)) (qpr rec) (qk [(0, (.own 0 a0.length)), (1, (.sl 8 v1)), (2, .agg (qc Br Bs Bt Bu))]) (qi [(some (.arr true 4 a0))]) (kend (qn [.t 6] (grK 4))) = qtg rec a0 v1 Br Bs Bt Bu := by
  kernel_rfl
theorem qbmk : cFn (TIof Try.prog) Try.f69 = some ⟨56, [.t 6], scOf (qpr (fun _ _ _ _ _ _ => none))⟩ := by kernel_rfl
theorem qbml (rec : (List AV) → (List AV) → Bool → Int → Int → Int → Option (List AV)) : (qpr rec).er = some (scOf (qpr (fun _ _ _ _ _ _ => none))) := by kernel_rfl
theorem q5i : ∀ (k : Nat), qtd Try.prog 69 4 (qf3 (qff k))
  | 0 => fun xs cl zs h => by
   unfold qf3 at h
   obtain ⟨h1, h2⟩ := qub h
   obtain ⟨h3, h4⟩ := qo h2
   cases h4
  | k + 1 => fun xs cl zs h => by
   unfold qf3 at h
   obtain ⟨h1, h2⟩ := qub h
   obtain ⟨h3, h4⟩ := qo h2
   exact qboq tabOk follows Try.func69 (by kernel_rfl) qbmk (qbjz (qff k) (q5i k)) (qbml (qff k)) qvq (qbbt h1 h3) ((qbmj (qff k) (gL [(qm (.own 0 xs.length :: cl)) 1] 0) (gB ((qm (.own 0 xs.length :: cl)) 2).cells 0) (gI ((qm (.own 0 xs.length :: cl)) 2).cells 1) (gI ((qm (.own 0 xs.length :: cl)) 2).cells 2) (gI ((qm (.own 0 xs.length :: cl)) 2).cells 3) (arL ((M1 4 xs).s 0))).trans h4)
theorem qbmm : qtd Try.prog 69 4 (qf3 qxw) := by
  have h := q5i FU
  rw [← q5h] at h
  exact h
def qmz  (Ai : Bool) (Aj Ak Al : Int) (K : Ex → Env → Mem → Option (List AV)) := (fun z_a1 => K (.exit 0) (qk [(3, (.ptr 0 0)), (7, (.own 1 z_a1.length))]) (qi [(some (.box true (qc Ai Aj Ak Al))), (some (.arr true 8 z_a1))]))
def q82 : Shp := ⟨[(3, .one (.ptr 0 0)), (7, .one (.own 1)), (23, .one (.l (.sl 8))), (24, .one (.l (.i .i64))), (25, .one (.l (.i .i64)))], [.box true (lk qe), .arr true 8]⟩
def qrs (v23 : List AV) (v24 v25 : Int) (Ai : Bool) (Aj Ak Al : Int) (a1 : List AV) : Env := qk [(3, (.ptr 0 0)), (7, (.own 1 a1.length)), (23, (.sl 8 v23)), (24, (.int .i64 v24)), (25, (.int .i64 v25))]
def qrt (v23 : List AV) (v24 v25 : Int) (Ai : Bool) (Aj Ak Al : Int) (a1 : List AV) : Mem := qi [(some (.box true (qc Ai Aj Ak Al))), (some (.arr true 8 a1))]
def qi2  (v23 : List AV) (v24 v25 : Int) (Ai : Bool) (Aj Ak Al : Int) (a1 : List AV) (next : Int → (List AV) → Option (List AV)) (kx0 : (List AV) → Option (List AV)) : Option (List AV) :=
  (bif (decide (v25 < v24)) then (oB (ixB v23 v25) fun y1 => (bif fitC qa y1.cells then (oB (qgy (gB y1.cells 0) (gI y1.cells 1) (gI y1.cells 2) (gI y1.cells 3) Ai Aj Ak Al) fun r2 => (bif r2 then (bif hd a1 a1.length then (bif hd ([(.agg [(.bool (gB y1.cells 0)), (.int .u64 (gI y1.cells 1)), (.int .u64 (gI y1.cells 2)), (.int .i64 (gI y1.cells 3)), (.int .i64 (gI y1.cells 4)), (.str (gS y1.cells 5)), (.str (gS y1.cells 6)), (.int .i64 (gI y1.cells 7))])] : List AV) (([(.agg [(.bool (gB y1.cells 0)), (.int .u64 (gI y1.cells 1)), (.int .u64 (gI y1.cells 2)), (.int .i64 (gI y1.cells 3)), (.int .i64 (gI y1.cells 4)), (.str (gS y1.cells 5)), (.str (gS y1.cells 6)), (.int .i64 (gI y1.cells 7))])] : List AV).length) then (bif decide ((a1.length + ([(.agg [(.bool (gB y1.cells 0)), (.int .u64 (gI y1.cells 1)), (.int .u64 (gI y1.cells 2)), (.int .i64 (gI y1.cells 3)), (.int .i64 (gI y1.cells 4)), (.str (gS y1.cells 5)), (.str (gS y1.cells 6)), (.int .i64 (gI y1.cells 7))])] : List AV).length) * 80 ≤ 140737488355328) then (next (IntKind.i64.wrap (v25 + (1 : Int))) (a1 ++ ([(.agg [(.bool (gB y1.cells 0)), (.int .u64 (gI y1.cells 1)), (.int .u64 (gI y1.cells 2)), (.int .i64 (gI y1.cells 3)), (.int .i64 (gI y1.cells 4)), (.str (gS y1.cells 5)), (.str (gS y1.cells 6)), (.int .i64 (gI y1.cells 7))])] : List AV))) else none) else none) else none) else (next (IntKind.i64.wrap (v25 + (1 : Int))) a1))) else none)) else (kx0 a1))
def qn6  (v23 : List AV) (v24 : Int) (Ai : Bool) (Aj Ak Al : Int) (kx0 : (List AV) → Option (List AV)) : Nat → Int → (List AV) → Option (List AV)
  | 0 => (fun _ _ => none)
  | n + 1 => (fun v25 a1 => qi2 v23 v24 v25 Ai Aj Ak Al a1 (qn6 v23 v24 Ai Aj Ak Al kx0 n) kx0)
def qnm := hull (qn6)
theorem qyv : qnm = qn6 := ql _
def qi3 : AC (List AV) :=
  .seq (.reg [ao 26 (.bin .lss 25 24)]) (.seq (.cond 26 (.skip) (.seq (.view [.sel [3, 7] [0, 1]]) (.exit 0))) (.seq (.block 1 (.seq (.reg [ao 27 (.ia 8 23 25),
 .st (.etac 27 qa),
 ao 28 (.load true 8 27),
 ao 9 (.alloc [(.bool false), (.int .u64 0), (.int .u64 0), (.int .i64 0), (.int .i64 0), (.str []), (.str []), (.int .i64 0)]),
 an (.store 8 9 28)]) (.seq (.reg [ao 29 (.fa 0 9),
 ao 30 (.load true 4 29),
 ao 31 (.load true 4 3),
 .call (po 32 (.call 64 [30, 31])) 64 qgn]) (.cond 32 (.reg [ao 33 (.mv 7),
 ao 34 (.load true 8 9),
 ao 35 (.bsl 8 [34]),
 ao 36 (.app 8 80 33 35),
 ao 7 (.mv 36)]) (.skip))))) (.seq (.reg [ao 37 (.bin .add 25 (.c (.int .i64 1))),
 ao 25 (.mv 37)]) (.view [.sel [3, 7, 23, 24, 25] [0, 1]]))))
theorem qbac : AC.ok Try.prog (TIof Try.prog) 41 0 (kret [.t 4] (decF true 4)) qi3 := qp (zA (qd.ok qll) trivial)
theorem q83 (v23 : List AV) (v24 v25 : Int) (Ai : Bool) (Aj Ak Al : Int) (a1 : List AV) (K : Ex → Env → Mem → Option (List AV)) : den 0 (kret [.t 4] (decF true 4)) qi3 (qrs v23 v24 v25 Ai Aj Ak Al a1) (qrt v23 v24 v25 Ai Aj Ak Al a1) K = qi2 v23 v24 v25 Ai Aj Ak Al a1 (fun z_v25 z_a1 => K .norm (qrs v23 v24 z_v25 Ai Aj Ak Al z_a1) (qrt v23 v24 z_v25 Ai Aj Ak Al z_a1)) (qmz Ai Aj Ak Al K) := by kernel_rfl
theorem qbdf (v23 : List AV) (v24 : Int) (Ai : Bool) (Aj Ak Al : Int) (K : Ex → Env → Mem → Option (List AV)) : ∀ (n : Nat) (v25 : Int) (a1 : List AV), qgc (den 0 (kret [.t 4] (decF true 4)) qi3) n (qrs v23 v24 v25 Ai Aj Ak Al a1) (qrt v23 v24 v25 Ai Aj Ak Al a1) K = qnm v23 v24 Ai Aj Ak Al (qmz Ai Aj Ak Al K) n v25 a1 := by
  rw [qyv]
  intro n
  induction n with
  | zero => intros; rfl
  | succ n ih =>
 intro v25 a1
 exact (q83 v23 v24 v25 Ai Aj Ak Al a1 (itK (den 0 (kret [.t 4] (decF true 4)) qi3) n K)).trans (congrArg (fun q => qi2 v23 v24 v25 Ai Aj Ak Al a1 q (qmz Ai Aj Ak Al K)) (funext fun v25 => funext fun a1 => ih v25 a1))
def q0z := subE (R := (List AV)) q82 fun t m K => qh (bxC (m.s 0)) (qnm (gL [t 23] 0) (gI [t 24] 0)) (qmz (gB (bxC (m.s 0)) 0) (gI (bxC (m.s 0)) 1) (gI (bxC (m.s 0)) 2) (gI (bxC (m.s 0)) 3) K) FU (gI [t 25] 0) (arL (m.s 1))
theorem qbdg : qdb Try.prog (TIof Try.prog) 41 0 (kret [.t 4] (decF true 4)) (.loop (scOf qi3)) (q0z) :=
  qgd tabOk follows (qbac) (qy (by kernel_rfl)) fun t m K => qbdf _ _ _ _ _ _ K FU _ _
def qbhc : Shp := ⟨[(0, .one (.l (.sl 8))), (1, .st (lk qe))], []⟩
def qzx (v0 : List AV) (Aq : Bool) (Ar As At : Int) : Option (List AV) :=
  (oB (qnt v0 Aq Ar As At) fun r1 => (bif ((!r1.2) || ((gI r1.1.cells 4) != (1 : Int))) then (bif hd ([] : List AV) (([] : List AV).length) then (some ([] : List AV)) else none) else (bif (hd ([] : List AV) (([] : List AV).length) && true) then (qnm v0 (v0.length : Int) Aq Ar As At (fun a1q2 => (bif hd a1q2 a1q2.length then (oB (bif (hd ([] : List AV) (([] : List AV).length) && true) then (qxw ([] : List AV) a1q2 Aq Ar As At) else none) fun r3 => (bif hd r3 r3.length then (some r3) else none)) else none)) FU (0 : Int) ([] : List AV)) else none)))
def qkx := hull qzx
theorem q5j : qkx = qzx := ql _
def qzy : AC (List AV) :=
  .seq (.reg [ao 3 (.box 1),
 ao 4 (.mv (.c .nils))]) (.seq (.seq (.reg [ao 11 (.mv 0),
 ao 12 (.load true 4 3),
 .call (po 13 (.call 24 [11, 12])) 24 qqo,
 ao 10 (.mv 13),
 ao 14 (.ext 10 0),
 ao 15 (.ext 10 1),
 ao 5 (.alloc [(.bool false), (.int .u64 0), (.int .u64 0), (.int .i64 0), (.int .i64 0), (.str []), (.str []), (.int .i64 0)]),
 an (.store 8 5 14),
 ao 6 (.mv 15)]) (.seq (.reg [ao 16 (.mv 6),
 ao 17 (.un .not 16),
 ao 18 (.mv 17),
 .grp 18 false [(pg 19 18 false (.fa 4 5)), (pg 20 18 false (.load false 1 19)), (pg 21 18 false (.bin .neq 20 (.c (.int .i64 1))))] 22 21]) (.cond 22 (.seq (.reg [ao 4 (.mv (.c .nils))]) (.seq (.view [.own 4 4]) (.ret))) (.skip)))) (.seq (.reg [ao 7 (.mv (.c .nils))]) (.seq (.seq (.reg [ao 23 (.mv 0),
 ao 24 (.len false 23),
 ao 25 (.mv (.c (.int .i64 0)))]) (.block 0 (.seq (.view [.own 7 8, .sel [3, 7, 23, 24, 25] [0, 2]]) (.sub (.loop (scOf qi3)) q0z)))) (.seq (.reg [ao 38 (.mv 7),
 ao 39 (.load true 4 3),
 .st (.snap 38),
 .callr (po 40 (.call 69 [(.c .nils), 38, 39])) 69 (qbig 4 (qf3 qxw)),
 ao 4 (.mv 40)]) (.ret)))))
theorem qbj0 : AC.ok Try.prog (TIof Try.prog) 41 0 (kret [.t 4] (decF true 4)) qzy := qp (zA (qd.ok qzt) (zA qbdg (zA (qblf qbmm) trivial)))
theorem qbmn (v0 : List AV) (Aq : Bool) (Ar As At : Int) : den 0 (kret [.t 4] (decF true 4)) qzy (qk [(0, (.sl 8 v0)), (1, .agg (qc Aq Ar As At))]) (qi []) (kend (kret [.t 4] (decF true 4))) = qkx v0 Aq Ar As At := by
  rw [q5j]; kernel_rfl
theorem qbmo : cFn (TIof Try.prog) Try.f33 = some ⟨41, [.t 4], scOf qzy⟩ := by kernel_rfl
def qbmp (xs : List AV) : Option (List AV) := qh ((qm xs) 1).cells (qkx (gL [(qm xs) 0] 0))
def qvr {R : Type} : List AV → (AV → Option R) → Option R := entF qbhc qbmp (AV.fr true 4)
theorem q78 {R : Type} : qd Try.prog 33 (qvr (R := R)) :=
  qce tabOk follows Try.func33 (by kernel_rfl) qbmo hdeF qbj0 (qy (by kernel_rfl)) fun xs => qbmn _ _ _ _ _
def qlh  (K : Ex → Env → Mem → Option Bool) := (fun (_ : Unit) => K (.exit 0) (qk []) (qi []))
def q5k : Shp := ⟨[(0, .one (.l (.sl 8))), (1, .one (.l (.sl 8))), (12, .one (.l (.i .i64))), (13, .one (.l (.i .i64)))], []⟩
def qo8 (v0 v1 : List AV) (v12 v13 : Int) : Env := qk [(0, (.sl 8 v0)), (1, (.sl 8 v1)), (12, (.int .i64 v12)), (13, (.int .i64 v13))]
def qo9 (v0 v1 : List AV) (v12 v13 : Int) : Mem := qi []
def qgv  (v0 v1 : List AV) (v12 v13 : Int) (next : Int → Option Bool) (kx0 : Unit → Option Bool) : Option Bool :=
  (bif (decide (v13 < v12)) then (oB (ixB v0 v13) fun y1 => (bif fitC qa y1.cells then (oB (ixB v1 v13) fun y2 => (bif fitC qa y2.cells then (bif (!(((gB y1.cells 0) == (gB y2.cells 0)) && (((gI y1.cells 1) == (gI y2.cells 1)) && (((gI y1.cells 2) == (gI y2.cells 2)) && (((gI y1.cells 3) == (gI y2.cells 3)) && (((gI y1.cells 4) == (gI y2.cells 4)) && (((gS y1.cells 5) == (gS y2.cells 5)) && (((gS y1.cells 6) == (gS y2.cells 6)) && (((gI y1.cells 7) == (gI y2.cells 7)) && true))))))))) then (some false) else (next (IntKind.i64.wrap (v13 + (1 : Int))))) else none)) else none)) else (kx0 ()))
def qm0  (v0 v1 : List AV) (v12 : Int) (kx0 : Unit → Option Bool) : Nat → Int → Option Bool
  | 0 => (fun _ => none)
  | n + 1 => (fun v13 => qgv v0 v1 v12 v13 (qm0 v0 v1 v12 kx0 n) kx0)
def qn7 := hull (qm0)
theorem qvs : qn7 = qm0 := ql _
def qgw : AC Bool :=
  .seq (.reg [ao 14 (.bin .lss 13 12)]) (.seq (.cond 14 (.skip) (.seq (.view [.sel [] []]) (.exit 0))) (.seq (.block 1 (.seq (.reg [ao 15 (.mv 13),
 ao 5 (.mv 15)]) (.seq (.draw [] [ao 16 (.mv 0),
 ao 17 (.mv 5),
 ao 18 (.ia 8 16 17),
 .et 18 qa,
 ao 19 (.load true 8 18),
 ao 20 (.mv 1),
 ao 21 (.mv 5),
 ao 22 (.ia 8 20 21),
 .et 22 qa,
 ao 23 (.load true 8 22)] [ao 24 (.eq true true [.b, (.i .u64), (.i .u64), (.i .i64), (.i .i64), .s, .s, (.i .i64)] 19 23)]) (.cond 24 (.seq (.reg [ao 4 (.mv (.c (.bool false)))]) (.ret)) (.skip))))) (.seq (.reg [ao 25 (.bin .add 13 (.c (.int .i64 1))),
 ao 13 (.mv 25)]) (.view [.sel [0, 1, 12, 13] []]))))
theorem q6x : AC.ok Try.prog (TIof Try.prog) 26 0 (kret [.t 4] decB) qgw := qp (zA rfl trivial)
theorem q5l (v0 v1 : List AV) (v12 v13 : Int) (K : Ex → Env → Mem → Option Bool) : den 0 (kret [.t 4] decB) qgw (qo8 v0 v1 v12 v13) (qo9 v0 v1 v12 v13) K = qgv v0 v1 v12 v13 (fun z_v13 => K .norm (qo8 v0 v1 v12 z_v13) (qo9 v0 v1 v12 z_v13)) (qlh K) := by kernel_rfl
theorem q84 (v0 v1 : List AV) (v12 : Int) (K : Ex → Env → Mem → Option Bool) : ∀ (n : Nat) (v13 : Int), qgc (den 0 (kret [.t 4] decB) qgw) n (qo8 v0 v1 v12 v13) (qo9 v0 v1 v12 v13) K = qn7 v0 v1 v12 (qlh K) n v13 := by
  rw [qvs]
  intro n
  induction n with
  | zero => intros; rfl
  | succ n ih =>
 intro v13
 exact (q5l v0 v1 v12 v13 (itK (den 0 (kret [.t 4] decB) qgw) n K)).trans (congrArg (fun q => qgv v0 v1 v12 v13 q (qlh K)) (funext fun v13 => ih v13))
def qwt := subE (R := Bool) q5k fun t m K => qn7 (gL [t 0] 0) (gL [t 1] 0) (gI [t 12] 0) (qlh K) FU (gI [t 13] 0)
theorem q85 : qdb Try.prog (TIof Try.prog) 26 0 (kret [.t 4] decB) (.loop (scOf qgw)) (qwt) :=
  qgd tabOk follows (q6x) (qy (by kernel_rfl)) fun t m K => q84 _ _ _ K FU _
def qbdh : Shp := ⟨[(0, .one (.l (.sl 8))), (1, .one (.l (.sl 8)))], []⟩
def qvt (v0 v1 : List AV) : Option Bool :=
  (bif ((v0.length : Int) != (v1.length : Int)) then (some false) else (qn7 v0 v1 (v0.length : Int) (fun (_ : Unit) => (some true)) FU (0 : Int)))
def qlo := hull qvt
theorem q2q : qlo = qvt := ql _
def qvu : AC Bool :=
  .seq (.reg [ao 4 (.mv (.c (.bool false)))]) (.seq (.seq (.reg [ao 6 (.mv 0),
 ao 7 (.len false 6),
 ao 8 (.mv 1),
 ao 9 (.len false 8),
 ao 10 (.bin .neq 7 9)]) (.cond 10 (.seq (.reg [ao 4 (.mv (.c (.bool false)))]) (.ret)) (.skip))) (.seq (.seq (.reg [ao 11 (.mv 0),
 ao 12 (.len false 11),
 ao 13 (.mv (.c (.int .i64 0)))]) (.block 0 (.seq (.view [.sel [0, 1, 12, 13] []]) (.sub (.loop (scOf qgw)) qwt)))) (.seq (.reg [ao 4 (.mv (.c (.bool true)))]) (.ret))))
theorem qbfc : AC.ok Try.prog (TIof Try.prog) 26 0 (kret [.t 4] decB) qvu := qp (zA q85 trivial)
theorem qbhd (v0 v1 : List AV) : den 0 (kret [.t 4] decB) qvu (qk [(0, (.sl 8 v0)), (1, (.sl 8 v1))]) (qi []) (kend (kret [.t 4] decB)) = qlo v0 v1 := by
  rw [q2q]; kernel_rfl
theorem qbhe : cFn (TIof Try.prog) Try.f19 = some ⟨26, [.t 4], scOf qvu⟩ := by kernel_rfl
def qbhf (xs : List AV) : Option Bool := qlo (gL [(qm xs) 0] 0) (gL [(qm xs) 1] 0)
def q00 {R : Type} : List AV → (AV → Option R) → Option R := entF qbdh qbhf AV.bool
theorem qbhg {R : Type} : qd Try.prog 19 (q00 (R := R)) :=
  qce tabOk follows Try.func19 (by kernel_rfl) qbhe hdeB qbfc (qy (by kernel_rfl)) fun xs => qbhd _ _
def quk  (v1 : List AV) (v11 v13 : Bool) (v14 v15 : List AV) (Ai : Bool) (Aj Ak Al Am : Int) (An Ao : List UInt8) (Ap : Int) (Au : Bool) (Av Aw Ax Bv : Int) (Bw Bx : List UInt8) (By : Int) (K : Ex → Env → Mem → Option Bool) := (fun z_v125 => K .norm (qk [(1, (.sl 8 v1)), (10, (.ptr 0 0)), (11, (.bool v11)), (12, (.ptr 1 0)), (13, (.bool v13)), (14, (.sl 8 v14)), (15, (.sl 4 v15)), (125, (.bool z_v125))]) (qi [(some (.box true (qb Ai Aj Ak Al Am An Ao Ap))), (some (.box true (qb Au Av Aw Ax Bv Bw Bx By)))]))
def q4p : Shp := ⟨[(1, .one (.l (.sl 8))), (3, .one (.l (.i .i64))), (4, .one (.l (.sl 8))), (5, .one (.l (.i .i64))), (6, .one (.l (.sl 8))), (7, .one (.l (.i .i64))), (8, .one (.l (.sl 8))), (9, .one (.l (.i .i64))), (10, .one (.ptr 0 0)), (11, .one (.l .b)), (12, .one (.ptr 1 0)), (13, .one (.l .b)), (14, .one (.l (.sl 8))), (15, .one (.l (.sl 4)))], [.box true (lk qa), .box true (lk qa)]⟩
def qpa  (v1 : List AV) (v3 : Int) (v4 : List AV) (v5 : Int) (v6 : List AV) (v7 : Int) (v8 : List AV) (v9 : Int) (v11 v13 : Bool) (v14 v15 : List AV) (Ai : Bool) (Aj Ak Al Am : Int) (An Ao : List UInt8) (Ap : Int) (Au : Bool) (Av Aw Ax Bv : Int) (Bw Bx : List UInt8) (By : Int) (kn : Bool → Option Bool) : Option Bool :=
  (oB (qmq v1) fun r1 => (bif (r1 != (0 : Int)) then (kn true) else (bif (v3 != (25 : Int)) then (kn true) else (bif (v5 != (0 : Int)) then (kn true) else (bif ((v4.length : Int) != (4 : Int)) then (kn true) else (oB (ixB v4 (3 : Int)) fun y2 => (bif fitC qa y2.cells then (bif (!((gS y2.cells 5) == ([120] : List UInt8))) then (kn true) else (bif (v7 != (0 : Int)) then (kn true) else (bif ((v6.length : Int) != (5 : Int)) then (kn true) else (oB (ixB v6 (3 : Int)) fun y3 => (bif fitC qa y3.cells then (bif (!((gS y3.cells 5) == ([120, 45, 48] : List UInt8))) then (kn true) else (oB (ixB v6 (4 : Int)) fun y4 => (bif fitC qa y4.cells then (oB (qgz (167870464 : Int) (17 : Int)) fun r5 => (bif (!(((gB y4.cells 0) == (gB r5.cells 0)) && (((gI y4.cells 1) == (gI r5.cells 1)) && (((gI y4.cells 2) == (gI r5.cells 2)) && (((gI y4.cells 3) == (gI r5.cells 3)) && true))))) then (kn true) else (bif (v9 != (0 : Int)) then (kn true) else (oB (qlo v8 v4) fun r6 => (kn (!r6)))))) else none))) else none))))) else none)))))))
def qnn := hull (qpa)
theorem qul : qnn = qpa := ql _
def ql9 : AC Bool :=
  .seq (.draw [] [ao 69 (.mv 1),
 .call (po 70 (.call 11 [69])) 11 qtw,
 ao 71 (.bin .neq 70 (.c (.int .i64 0))),
 ao 72 (.mv 71),
 ag 73 72 false (.mv 3),
 ag 74 72 false (.bin .neq 73 (.c (.int .i64 25))),
 ao 75 (.pick 72 (.c (.bool true)) 74),
 ao 76 (.mv 75),
 ag 77 76 false (.mv 5),
 ag 78 76 false (.bin .neq 77 (.c (.int .i64 0))),
 ao 79 (.pick 76 (.c (.bool true)) 78),
 ao 80 (.mv 79),
 ag 81 80 false (.mv 4),
 ag 82 80 false (.len false 81),
 ag 83 80 false (.bin .neq 82 (.c (.int .i64 4))),
 ao 84 (.pick 80 (.c (.bool true)) 83),
 ao 85 (.mv 84),
 ag 86 85 false (.mv 4),
 ag 87 85 false (.ia 8 86 (.c (.int .i64 3))),
 .et 87 qa,
 ag 88 85 false (.fa 5 87),
 ag 89 85 false (.load false 1 88),
 ag 90 85 false (.bin .neq 89 (.c (.str [120]))),
 ao 91 (.pick 85 (.c (.bool true)) 90),
 ao 92 (.mv 91),
 ag 93 92 false (.mv 7),
 ag 94 92 false (.bin .neq 93 (.c (.int .i64 0))),
 ao 95 (.pick 92 (.c (.bool true)) 94),
 ao 96 (.mv 95),
 ag 97 96 false (.mv 6),
 ag 98 96 false (.len false 97),
 ag 99 96 false (.bin .neq 98 (.c (.int .i64 5))),
 ao 100 (.pick 96 (.c (.bool true)) 99),
 ao 101 (.mv 100),
 ag 102 101 false (.mv 6),
 ag 103 101 false (.ia 8 102 (.c (.int .i64 3))),
 .et 103 qa,
 ag 104 101 false (.fa 5 103),
 ag 105 101 false (.load false 1 104),
 ag 106 101 false (.bin .neq 105 (.c (.str [120, 45, 48]))),
 ao 107 (.pick 101 (.c (.bool true)) 106),
 ao 108 (.mv 107),
 ag 109 108 false (.mv 6),
 ag 110 108 false (.ia 8 109 (.c (.int .i64 4))),
 .et 110 qa,
 ag 111 108 false (.fa 0 110),
 ag 112 108 false (.load true 4 111),
 .call (pg 113 108 false (.call 50 [(.c (.int .u64 167870464)), (.c (.int .i64 17))])) 50 qgo,
 ag 114 108 false (.eq true true [.b, (.i .u64), (.i .u64), (.i .i64)] 112 113),
 ao 115 (.pick 108 (.c (.bool true)) 114),
 ao 116 (.mv 115),
 ag 117 116 false (.mv 9),
 ag 118 116 false (.bin .neq 117 (.c (.int .i64 0))),
 ao 119 (.pick 116 (.c (.bool true)) 118),
 ao 120 (.mv 119),
 ag 121 120 false (.mv 8),
 ag 122 120 false (.mv 4)] [.call (pg 123 120 false (.call 19 [121, 122])) 19 q00,
 ag 124 120 false (.un .not 123),
 ao 125 (.pick 120 (.c (.bool true)) 124)]) (.view [.sel [1, 10, 11, 12, 13, 14, 15, 125] [0, 1]])
theorem q5m : AC.ok Try.prog (TIof Try.prog) 177 0 (kret [.t 0] decB) ql9 := qp (zA (qd.ok q42) (zA (qd.ok qlm) (zA (qd.ok qbhg) (zA rfl trivial))))
theorem q6y (v1 : List AV) (v3 : Int) (v4 : List AV) (v5 : Int) (v6 : List AV) (v7 : Int) (v8 : List AV) (v9 : Int) (v11 v13 : Bool) (v14 v15 : List AV) (Ai : Bool) (Aj Ak Al Am : Int) (An Ao : List UInt8) (Ap : Int) (Au : Bool) (Av Aw Ax Bv : Int) (Bw Bx : List UInt8) (By : Int) (K : Ex → Env → Mem → Option Bool) : den 0 (kret [.t 0] decB) ql9 (qk [(1, (.sl 8 v1)), (3, (.int .i64 v3)), (4, (.sl 8 v4)), (5, (.int .i64 v5)), (6, (.sl 8 v6)), (7, (.int .i64 v7)), (8, (.sl 8 v8)), (9, (.int .i64 v9)), (10, (.ptr 0 0)), (11, (.bool v11)), (12, (.ptr 1 0)), (13, (.bool v13)), (14, (.sl 8 v14)), (15, (.sl 4 v15))]) (qi [(some (.box true (qb Ai Aj Ak Al Am An Ao Ap))), (some (.box true (qb Au Av Aw Ax Bv Bw Bx By)))]) K = qnn v1 v3 v4 v5 v6 v7 v8 v9 v11 v13 v14 v15 Ai Aj Ak Al Am An Ao Ap Au Av Aw Ax Bv Bw Bx By (quk v1 v11 v13 v14 v15 Ai Aj Ak Al Am An Ao Ap Au Av Aw Ax Bv Bw Bx By K) := by
  rw [qul]; kernel_rfl
def qvv := subE (R := Bool) q4p fun t m K => qf (bxC (m.s 1)) (qf (bxC (m.s 0)) (qnn (gL [t 1] 0) (gI [t 3] 0) (gL [t 4] 0) (gI [t 5] 0) (gL [t 6] 0) (gI [t 7] 0) (gL [t 8] 0) (gI [t 9] 0) (gB [t 11] 0) (gB [t 13] 0) (gL [t 14] 0) (gL [t 15] 0))) (quk (gL [t 1] 0) (gB [t 11] 0) (gB [t 13] 0) (gL [t 14] 0) (gL [t 15] 0) (gB (bxC (m.s 0)) 0) (gI (bxC (m.s 0)) 1) (gI (bxC (m.s 0)) 2) (gI (bxC (m.s 0)) 3) (gI (bxC (m.s 0)) 4) (gS (bxC (m.s 0)) 5) (gS (bxC (m.s 0)) 6) (gI (bxC (m.s 0)) 7) (gB (bxC (m.s 1)) 0) (gI (bxC (m.s 1)) 1) (gI (bxC (m.s 1)) 2) (gI (bxC (m.s 1)) 3) (gI (bxC (m.s 1)) 4) (gS (bxC (m.s 1)) 5) (gS (bxC (m.s 1)) 6) (gI (bxC (m.s 1)) 7) K)
theorem q6z : qdb Try.prog (TIof Try.prog) 177 0 (kret [.t 0] decB) (scOf ql9) (qvv) :=
  qis tabOk follows (q5m) (qy (by kernel_rfl)) fun t m K => q6y _ _ _ _ _ _ _ _ _ _ _ _ _ _ _ _ _ _ _ _ _ _ _ _ _ _ _ _ K
def qbad : Shp := ⟨[], []⟩
def qt6 : Option Bool :=
  (oB (qmr) fun r1 => (oB (ixB r1 (1 : Int)) fun y2 => (bif fitC qa y2.cells then (oB (qm5 r1 (gB y2.cells 0) (gI y2.cells 1) (gI y2.cells 2) (gI y2.cells 3)) fun r3 => (oB (qgz (167837696 : Int) (16 : Int)) fun r4 => (oB (qr3 r1 (gB r4.cells 0) (gI r4.cells 1) (gI r4.cells 2) (gI r4.cells 3) (2 : Int) ([120] : List UInt8) ([] : List UInt8) (0 : Int)) fun r5 => (oB (qgz (167837696 : Int) (16 : Int)) fun r6 => (oB (qog r5.1 (gB r6.cells 0) (gI r6.cells 1) (gI r6.cells 2) (gI r6.cells 3)) fun r7 => (oB (qgz (167837696 : Int) (16 : Int)) fun r8 => (oB (qp6 r7.1 (gB r8.cells 0) (gI r8.cells 1) (gI r8.cells 2) (gI r8.cells 3)) fun r9 => (oB (qgz (167772166 : Int) (32 : Int)) fun r10 => (oB (qm6 r1 (gB r10.cells 0) (gI r10.cells 1) (gI r10.cells 2) (gI r10.cells 3)) fun r11 => (oB (qm7 r1 false (0 : Int) (168361984 : Int)) fun r12 => (oB (ixB r1 (0 : Int)) fun y13 => (bif fitC qa y13.cells then (oB (qfc r1 (gB y13.cells 0) (gI y13.cells 1) (gI y13.cells 2) (gI y13.cells 3)) fun r14 => (oB (ixB r1 (0 : Int)) fun y15 => (bif fitC qa y15.cells then (oB (qkx r1 (gB y15.cells 0) (gI y15.cells 1) (gI y15.cells 2) (gI y15.cells 3)) fun r16 => (qnn r1 r3.2 r5.1 r5.2 r7.1 r7.2 r9.1 r9.2 r11.2 r12.2 r14 r16 (gB r11.1.cells 0) (gI r11.1.cells 1) (gI r11.1.cells 2) (gI r11.1.cells 3) (gI r11.1.cells 4) (gS r11.1.cells 5) (gS r11.1.cells 6) (gI r11.1.cells 7) (gB r12.1.cells 0) (gI r12.1.cells 1) (gI r12.1.cells 2) (gI r12.1.cells 3) (gI r12.1.cells 4) (gS r12.1.cells 5) (gS r12.1.cells 6) (gI r12.1.cells 7) (fun v125q17 => (bif v125q17 then (some false) else (bif r11.2 then (oB (ixB r1 (1 : Int)) fun y18 => (bif fitC qa y18.cells then (bif (((gB r11.1.cells 0) == (gB y18.cells 0)) && (((gI r11.1.cells 1) == (gI y18.cells 1)) && (((gI r11.1.cells 2) == (gI y18.cells 2)) && (((gI r11.1.cells 3) == (gI y18.cells 3)) && (((gI r11.1.cells 4) == (gI y18.cells 4)) && (((gS r11.1.cells 5) == (gS y18.cells 5)) && (((gS r11.1.cells 6) == (gS y18.cells 6)) && (((gI r11.1.cells 7) == (gI y18.cells 7)) && true)))))))) then (bif r12.2 then (oB (ixB r1 (0 : Int)) fun y19 => (bif fitC qa y19.cells then (bif (((gB r12.1.cells 0) == (gB y19.cells 0)) && (((gI r12.1.cells 1) == (gI y19.cells 1)) && (((gI r12.1.cells 2) == (gI y19.cells 2)) && (((gI r12.1.cells 3) == (gI y19.cells 3)) && (((gI r12.1.cells 4) == (gI y19.cells 4)) && (((gS r12.1.cells 5) == (gS y19.cells 5)) && (((gS r12.1.cells 6) == (gS y19.cells 6)) && (((gI r12.1.cells 7) == (gI y19.cells 7)) && true)))))))) then (bif ((r14.length : Int) == (1 : Int)) then (oB (ixB r14 (0 : Int)) fun y20 => (bif fitC qa y20.cells then (oB (ixB r1 (1 : Int)) fun y21 => (bif fitC qa y21.cells then (bif (((gB y20.cells 0) == (gB y21.cells 0)) && (((gI y20.cells 1) == (gI y21.cells 1)) && (((gI y20.cells 2) == (gI y21.cells 2)) && (((gI y20.cells 3) == (gI y21.cells 3)) && (((gI y20.cells 4) == (gI y21.cells 4)) && (((gS y20.cells 5) == (gS y21.cells 5)) && (((gS y20.cells 6) == (gS y21.cells 6)) && (((gI y20.cells 7) == (gI y21.cells 7)) && true)))))))) then (bif ((r16.length : Int) == (16 : Int)) then (oB (ixB r16 (0 : Int)) fun y22 => (bif fitC qe y22.cells then (oB (qgz (167772416 : Int) (24 : Int)) fun r23 => (bif (((gB y22.cells 0) == (gB r23.cells 0)) && (((gI y22.cells 1) == (gI r23.cells 1)) && (((gI y22.cells 2) == (gI r23.cells 2)) && (((gI y22.cells 3) == (gI r23.cells 3)) && true)))) then (oB (ixB r16 (15 : Int)) fun y24 => (bif fitC qe y24.cells then (oB (qgz (176160768 : Int) (9 : Int)) fun r25 => (some (((gB y24.cells 0) == (gB r25.cells 0)) && (((gI y24.cells 1) == (gI r25.cells 1)) && (((gI y24.cells 2) == (gI r25.cells 2)) && (((gI y24.cells 3) == (gI r25.cells 3)) && true)))))) else none)) else (some false))) else none)) else (some false)) else (some false)) else none)) else none)) else (some false)) else (some false)) else none)) else (some false)) else (some false)) else none)) else (some false)))))) else none))) else none)))))))))))) else none)))
def qhk := hull qt6
theorem q01 : qhk = qt6 := ql _
def qt7 : AC Bool :=
  .seq (.reg [ao 0 (.mv (.c (.bool false)))]) (.seq (.reg [.callc (po 16 (.call 49 [])) 49 qu9,
 ao 1 (.mv 16)]) (.seq (.reg [ao 18 (.mv 1),
 ao 19 (.mv 1),
 ao 20 (.ia 8 19 (.c (.int .i64 1))),
 .st (.etac 20 qa),
 ao 21 (.fa 0 20),
 ao 22 (.load true 4 21),
 .callc (po 23 (.call 17 [18, 22])) 17 q0k,
 ao 17 (.mv 23),
 ao 24 (.ext 17 0),
 ao 25 (.ext 17 1),
 ao 2 (.mv 24),
 ao 3 (.mv 25)]) (.seq (.reg [ao 27 (.mv 1),
 .call (po 28 (.call 50 [(.c (.int .u64 167837696)), (.c (.int .i64 16))])) 50 qgo,
 ao 29 (.build [(.bool false), (.int .u64 0), (.int .u64 0), (.int .i64 0), (.int .i64 0), (.str []), (.str []), (.int .i64 0)] [(0, (4, 28)), (4, (1, (.c (.int .i64 2)))), (5, (1, (.c (.str [120]))))]),
 .callc (po 30 (.call 15 [27, 29])) 15 q46,
 ao 26 (.mv 30),
 ao 31 (.ext 26 0),
 ao 32 (.ext 26 1),
 ao 4 (.mv 31),
 ao 5 (.mv 32)]) (.seq (.reg [ao 34 (.mv 4),
 .call (po 35 (.call 50 [(.c (.int .u64 167837696)), (.c (.int .i64 16))])) 50 qgo,
 .callc (po 36 (.call 20 [34, 35])) 20 q2h,
 ao 33 (.mv 36),
 ao 37 (.ext 33 0),
 ao 38 (.ext 33 1),
 ao 6 (.mv 37),
 ao 7 (.mv 38)]) (.seq (.reg [ao 40 (.mv 6),
 .call (po 41 (.call 50 [(.c (.int .u64 167837696)), (.c (.int .i64 16))])) 50 qgo,
 .callc (po 42 (.call 22 [40, 41])) 22 q3v,
 ao 39 (.mv 42),
 ao 43 (.ext 39 0),
 ao 44 (.ext 39 1),
 ao 8 (.mv 43),
 ao 9 (.mv 44)]) (.seq (.reg [ao 46 (.mv 1),
 .call (po 47 (.call 50 [(.c (.int .u64 167772166)), (.c (.int .i64 32))])) 50 qgo,
 .call (po 48 (.call 26 [46, 47])) 26 q0u,
 ao 45 (.mv 48),
 ao 49 (.ext 45 0),
 ao 50 (.ext 45 1),
 ao 10 (.alloc [(.bool false), (.int .u64 0), (.int .u64 0), (.int .i64 0), (.int .i64 0), (.str []), (.str []), (.int .i64 0)]),
 an (.store 8 10 49),
 ao 11 (.mv 50)]) (.seq (.reg [ao 52 (.mv 1),
 ao 53 (.build [(.bool false), (.int .u64 0), (.int .u64 0)] [(2, (1, (.c (.int .u64 168361984))))]),
 .call (po 54 (.call 28 [52, 53])) 28 q0w,
 ao 51 (.mv 54),
 ao 55 (.ext 51 0),
 ao 56 (.ext 51 1),
 ao 12 (.alloc [(.bool false), (.int .u64 0), (.int .u64 0), (.int .i64 0), (.int .i64 0), (.str []), (.str []), (.int .i64 0)]),
 an (.store 8 12 55),
 ao 13 (.mv 56)]) (.seq (.reg [ao 57 (.mv 1),
 ao 58 (.mv 1),
 ao 59 (.ia 8 58 (.c (.int .i64 0))),
 .st (.etac 59 qa),
 ao 60 (.fa 0 59),
 ao 61 (.load true 4 60),
 .callc (po 62 (.call 30 [57, 61])) 30 qmy,
 ao 14 (.mv 62)]) (.seq (.reg [ao 63 (.mv 1),
 ao 64 (.mv 1),
 ao 65 (.ia 8 64 (.c (.int .i64 0))),
 .st (.etac 65 qa),
 ao 66 (.fa 0 65),
 ao 67 (.load true 4 66),
 .callc (po 68 (.call 33 [63, 67])) 33 qvr,
 ao 15 (.mv 68)]) (.seq (.seq (.seq (.view [.sel [1, 3, 4, 5, 6, 7, 8, 9, 10, 11, 12, 13, 14, 15] [0, 1]]) (.sub (scOf ql9) qvv)) (.cond 125 (.seq (.reg [ao 0 (.mv (.c (.bool false)))]) (.ret)) (.skip))) (.seq (.draw [] [ao 126 (.mv 11),
 ao 127 (.mv 126),
 ag 128 127 true (.load true 8 10),
 ag 129 127 true (.mv 1),
 ag 130 127 true (.ia 8 129 (.c (.int .i64 1))),
 .et 130 qa,
 ag 131 127 true (.load true 8 130),
 ag 132 127 true (.eq false true [.b, (.i .u64), (.i .u64), (.i .i64), (.i .i64), .s, .s, (.i .i64)] 128 131),
 ao 133 (.pick 127 132 (.c (.bool false))),
 ao 134 (.mv 133),
 ag 135 134 true (.mv 13),
 ao 136 (.pick 134 135 (.c (.bool false))),
 ao 137 (.mv 136),
 ag 138 137 true (.load true 8 12),
 ag 139 137 true (.mv 1),
 ag 140 137 true (.ia 8 139 (.c (.int .i64 0))),
 .et 140 qa,
 ag 141 137 true (.load true 8 140),
 ag 142 137 true (.eq false true [.b, (.i .u64), (.i .u64), (.i .i64), (.i .i64), .s, .s, (.i .i64)] 138 141),
 ao 143 (.pick 137 142 (.c (.bool false))),
 ao 144 (.mv 143),
 ag 145 144 true (.mv 14),
 ag 146 144 true (.len false 145),
 ag 147 144 true (.bin .eql 146 (.c (.int .i64 1))),
 ao 148 (.pick 144 147 (.c (.bool false))),
 ao 149 (.mv 148),
 ag 150 149 true (.mv 14),
 ag 151 149 true (.ia 8 150 (.c (.int .i64 0))),
 .et 151 qa,
 ag 152 149 true (.load true 8 151),
 ag 153 149 true (.mv 1),
 ag 154 149 true (.ia 8 153 (.c (.int .i64 1))),
 .et 154 qa,
 ag 155 149 true (.load true 8 154),
 ag 156 149 true (.eq false true [.b, (.i .u64), (.i .u64), (.i .i64), (.i .i64), .s, .s, (.i .i64)] 152 155),
 ao 157 (.pick 149 156 (.c (.bool false))),
 ao 158 (.mv 157),
 ag 159 158 true (.mv 15),
 ag 160 158 true (.len false 159),
 ag 161 158 true (.bin .eql 160 (.c (.int .i64 16))),
 ao 162 (.pick 158 161 (.c (.bool false))),
 ao 163 (.mv 162),
 ag 164 163 true (.mv 15),
 ag 165 163 true (.ia 4 164 (.c (.int .i64 0))),
 .et 165 qe,
 ag 166 163 true (.load true 4 165),
 .call (pg 167 163 true (.call 50 [(.c (.int .u64 167772416)), (.c (.int .i64 24))])) 50 qgo,
 ag 168 163 true (.eq false true [.b, (.i .u64), (.i .u64), (.i .i64)] 166 167),
 ao 169 (.pick 163 168 (.c (.bool false))),
 ao 170 (.mv 169),
 ag 171 170 true (.mv 15),
 ag 172 170 true (.ia 4 171 (.c (.int .i64 15))),
 .et 172 qe,
 ag 173 170 true (.load true 4 172),
 .call (pg 174 170 true (.call 50 [(.c (.int .u64 176160768)), (.c (.int .i64 9))])) 50 qgo] [ag 175 170 true (.eq false true [.b, (.i .u64), (.i .u64), (.i .i64)] 173 174),
 ao 176 (.pick 170 175 (.c (.bool false))),
 ao 0 (.mv 176)]) (.ret))))))))))))
theorem qbdi : AC.ok Try.prog (TIof Try.prog) 177 0 (kret [.t 0] decB) qt7 := qp (zA (qd.ok q9q) (zA (qd.ok qbgp) (zA (qd.ok qlm) (zA (qd.ok qbnf) (zA (qd.ok qlm) (zA (qd.ok qbjw) (zA (qd.ok qlm) (zA (qd.ok qbmi) (zA (qd.ok qlm) (zA (qd.ok qbg7) (zA (qd.ok qbhb) (zA (qd.ok qst) (zA (qd.ok q78) (zA q6z (zA (qd.ok qlm) (zA (qd.ok qlm) (zA rfl trivial)))))))))))))))))
theorem qbfd : den 0 (kret [.t 0] decB) qt7 (qk []) (qi []) (kend (kret [.t 0] decB)) = qhk := by
  rw [q01]; kernel_rfl
theorem qbfe : cFn (TIof Try.prog) Try.f13 = some ⟨177, [.t 0], scOf qt7⟩ := by kernel_rfl
def qbff (xs : List AV) : Option Bool := qhk
def qno {R : Type} : List AV → (AV → Option R) → Option R := entF qbad qbff AV.bool
theorem qt8 {R : Type} : qd Try.prog 13 (qno (R := R)) :=
  qce tabOk follows Try.func13 (by kernel_rfl) qbfe hdeB qbdi (qy (by kernel_rfl)) fun xs => qbfd
end
end Go.Proofs.Ytmjdngnagiloeaa.Dn
