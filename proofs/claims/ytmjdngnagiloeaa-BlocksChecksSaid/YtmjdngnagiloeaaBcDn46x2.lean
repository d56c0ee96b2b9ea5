import Derived.Test.YtmjdngnagiloeaaProg
import Derived.Test.YtmjdngnagiloeaaBcLibD
import Derived.Test.YtmjdngnagiloeaaBcDn46x1
set_option linter.all false
namespace Go.Proofs.Ytmjdngnagiloeaa.Dn
open Go Go.Pev
set_option linter.unusedVariables false
set_option linter.unusedSimpArgs false
set_option maxRecDepth 100000
set_option maxHeartbeats 4000000
def qct (z : AV) : Option (AV × Bool) := cond (fitTup [(.st [.b, (.i .u64), (.i .u64), (.i .i64)]), (.one .b)] z) (some ((gC (tpL z) 0), aB (gC (tpL z) 1))) none
def q86 (r : AV × Bool) : AV := .tup [etaRV (.st [.b, (.i .u64), (.i .u64), (.i .i64)]) r.1, .bool r.2]
def qvx  (v1 v2 : Int) (Ai : Bool) (Aj Ak Al : Int) (Au : Bool) (Av Aw Ax : Int) (K : Ex → Env → Mem → Option (AV × Bool)) := (fun z_v28 => K .norm (envOf [(1, (.int .i64 v1)), (2, (.int .u64 v2)), (3, (.ptr 0 0)), (6, (.ptr 1 0)), (28, (.bool z_v28))]) (memOf [(some (.box true (qb Ai Aj Ak Al))), (some (.box true (qb Au Av Aw Ax)))]))
def q3m : Shp := ⟨[(1, .one (.l (.i .i64))), (2, .one (.l (.i .u64))), (3, .one (.ptr 0 0)), (6, .one (.ptr 1 0))], [.box true (lk qe), .box true (lk qe)]⟩
noncomputable section
def qqo  (v1 v2 : Int) (Ai : Bool) (Aj Ak Al : Int) (Au : Bool) (Av Aw Ax : Int) (kn : Bool → Option (AV × Bool)) : Option (AV × Bool) :=
  (oB (qey Ai Aj Ak Al) fun r1 => (bif ((!r1) || (decide (v1 < Al))) then (kn true) else (oB (qgw Ai Aj Ak) fun r2 => (kn (decide (v1 > r2))))))
def qlk := hull (qqo)
theorem qvy : qlk = qqo := hull_eq _
def ql7 : AC (AV × Bool) :=
  .seq (.reg [ao 13 (.load true 4 3),
 .call (po 14 (.call 71 [13])) 71 qe4,
 ao 15 (.un .not 14),
 ao 16 (.mv 15),
 .grp 16 false [(pg 17 16 false (.mv 1)), (pg 18 16 false (.fa 3 3)), (pg 19 16 false (.load false 1 18)), (pg 20 16 false (.bin .lss 17 19))] 21 20,
 ao 22 (.mv 21),
 ag 23 22 false (.mv 1),
 ag 24 22 false (.fa 0 3),
 ag 25 22 false (.load true 3 24),
 .call (pg 26 22 false (.call 76 [25])) 76 qix,
 ag 27 22 false (.bin .gtr 23 26),
 ao 28 (.pick 22 (.c (.bool true)) 27)]) (.view [.sel [1, 2, 3, 6, 28] [0, 1]])
theorem q48 : AC.ok Try.prog (TIof Try.prog) 81 0 (kret [(.cell 6 true 4), .t 7] qct) ql7 := ok_of (zA (EntOkB.ok qjj) (zA (EntOkB.ok qm4) trivial))
theorem q7k (v1 v2 : Int) (Ai : Bool) (Aj Ak Al : Int) (Au : Bool) (Av Aw Ax : Int) (K : Ex → Env → Mem → Option (AV × Bool)) : den 0 (kret [(.cell 6 true 4), .t 7] qct) ql7 (envOf [(1, (.int .i64 v1)), (2, (.int .u64 v2)), (3, (.ptr 0 0)), (6, (.ptr 1 0))]) (memOf [(some (.box true (qb Ai Aj Ak Al))), (some (.box true (qb Au Av Aw Ax)))]) K = qlk v1 v2 Ai Aj Ak Al Au Av Aw Ax (qvx v1 v2 Ai Aj Ak Al Au Av Aw Ax K) := by
  rw [qvy]; kernel_rfl
def qw2 := subE (R := AV × Bool) q3m fun t m K => qd (bxC (m.s 1)) (qd (bxC (m.s 0)) (qlk (gI [t 1] 0) (gI [t 2] 0))) (qvx (gI [t 1] 0) (gI [t 2] 0) (gB (bxC (m.s 0)) 0) (gI (bxC (m.s 0)) 1) (gI (bxC (m.s 0)) 2) (gI (bxC (m.s 0)) 3) (gB (bxC (m.s 1)) 0) (gI (bxC (m.s 1)) 1) (gI (bxC (m.s 1)) 2) (gI (bxC (m.s 1)) 3) K)
theorem q7l : SubOk Try.prog (TIof Try.prog) 81 0 (kret [(.cell 6 true 4), .t 7] qct) (scOf ql7) (qw2) :=
  sub_mk tabOk follows (q48) (er_of (by kernel_rfl)) fun t m K => q7k _ _ _ _ _ _ _ _ _ _ K
def que  (v1 v2 : Int) (Ai : Bool) (Aj Ak Al : Int) (Au : Bool) (Av Aw Ax : Int) (K : Ex → Env → Mem → Option (AV × Bool)) := (fun z_v42 => K .norm (envOf [(1, (.int .i64 v1)), (2, (.int .u64 v2)), (3, (.ptr 0 0)), (6, (.ptr 1 0)), (42, (.bool z_v42))]) (memOf [(some (.box true (qb Ai Aj Ak Al))), (some (.box true (qb Au Av Aw Ax)))]))
def q1y : Shp := ⟨[(1, .one (.l (.i .i64))), (2, .one (.l (.i .u64))), (3, .one (.ptr 0 0)), (6, .one (.ptr 1 0)), (8, .one (.l (.i .i64)))], [.box true (lk qe), .box true (lk qe)]⟩
def qk2  (v1 v2 v8 : Int) (Ai : Bool) (Aj Ak Al : Int) (Au : Bool) (Av Aw Ax : Int) (kn : Bool → Option (AV × Bool)) : Option (AV × Bool) :=
  (bif (decide (v8 < (64 : Int))) then (bif decide ((IntKind.u64.wrap v8) < 0) then none else (kn ((v2.fdiv (2 ^ min (IntKind.u64.wrap v8).toNat IntKind.u64.bits)) != (0 : Int)))) else (kn false))
def qnb := hull (qk2)
theorem qn9 : qnb = qk2 := hull_eq _
def qk3 : AC (AV × Bool) :=
  .seq (.reg [ao 34 (.mv 8),
 ao 35 (.bin .lss 34 (.c (.int .i64 64))),
 ao 36 (.mv 35),
 ag 37 36 true (.mv 2),
 ag 38 36 true (.mv 8),
 ag 39 36 true (.conv (.int .u64) 38),
 ag 40 36 true (.bin .shr 37 39),
 ag 41 36 true (.bin .neq 40 (.c (.int .u64 0))),
 ao 42 (.pick 36 41 (.c (.bool false)))]) (.view [.sel [1, 2, 3, 6, 42] [0, 1]])
theorem q3n : AC.ok Try.prog (TIof Try.prog) 81 0 (kret [(.cell 6 true 4), .t 7] qct) qk3 := ok_of trivial
theorem q49 (v1 v2 v8 : Int) (Ai : Bool) (Aj Ak Al : Int) (Au : Bool) (Av Aw Ax : Int) (K : Ex → Env → Mem → Option (AV × Bool)) : den 0 (kret [(.cell 6 true 4), .t 7] qct) qk3 (envOf [(1, (.int .i64 v1)), (2, (.int .u64 v2)), (3, (.ptr 0 0)), (6, (.ptr 1 0)), (8, (.int .i64 v8))]) (memOf [(some (.box true (qb Ai Aj Ak Al))), (some (.box true (qb Au Av Aw Ax)))]) K = qnb v1 v2 v8 Ai Aj Ak Al Au Av Aw Ax (que v1 v2 Ai Aj Ak Al Au Av Aw Ax K) := by
  rw [qn9]; kernel_rfl
def qvz := subE (R := AV × Bool) q1y fun t m K => qd (bxC (m.s 1)) (qd (bxC (m.s 0)) (qnb (gI [t 1] 0) (gI [t 2] 0) (gI [t 8] 0))) (que (gI [t 1] 0) (gI [t 2] 0) (gB (bxC (m.s 0)) 0) (gI (bxC (m.s 0)) 1) (gI (bxC (m.s 0)) 2) (gI (bxC (m.s 0)) 3) (gB (bxC (m.s 1)) 0) (gI (bxC (m.s 1)) 1) (gI (bxC (m.s 1)) 2) (gI (bxC (m.s 1)) 3) K)
theorem q5a : SubOk Try.prog (TIof Try.prog) 81 0 (kret [(.cell 6 true 4), .t 7] qct) (scOf qk3) (qvz) :=
  sub_mk tabOk follows (q3n) (er_of (by kernel_rfl)) fun t m K => q49 _ _ _ _ _ _ _ _ _ _ _ K
def quf  (v1 : Int) (Ai : Bool) (Aj Ak Al : Int) (Au : Bool) (Av Aw Ax : Int) (K : Ex → Env → Mem → Option (AV × Bool)) := (fun z_v10 z_v11 => K .norm (envOf [(1, (.int .i64 v1)), (3, (.ptr 0 0)), (6, (.ptr 1 0)), (10, (.int .u64 z_v10)), (11, (.int .u64 z_v11))]) (memOf [(some (.box true (qb Ai Aj Ak Al))), (some (.box true (qb Au Av Aw Ax)))]))
def q1z : Shp := ⟨[(1, .one (.l (.i .i64))), (2, .one (.l (.i .u64))), (3, .one (.ptr 0 0)), (6, .one (.ptr 1 0)), (9, .one (.l (.i .u64))), (10, .one (.l (.i .u64))), (11, .one (.l (.i .u64)))], [.box true (lk qe), .box true (lk qe)]⟩
def qk4  (v1 v2 v9 v10 v11 : Int) (Ai : Bool) (Aj Ak Al : Int) (Au : Bool) (Av Aw Ax : Int) (kn : Int → Int → Option (AV × Bool)) : Option (AV × Bool) :=
  (bif (decide (v9 ≥ (64 : Int))) then (bif decide ((IntKind.u64.wrap (v9 - (64 : Int))) < 0) then none else (kn (IntKind.u64.wrap (v2 * 2 ^ min (IntKind.u64.wrap (v9 - (64 : Int))).toNat IntKind.u64.bits)) (0 : Int))) else (bif (decide (v9 > (0 : Int))) then (bif decide ((IntKind.u64.wrap ((64 : Int) - v9)) < 0) then none else (bif decide (v9 < 0) then none else (kn (v2.fdiv (2 ^ min (IntKind.u64.wrap ((64 : Int) - v9)).toNat IntKind.u64.bits)) (IntKind.u64.wrap (v2 * 2 ^ min v9.toNat IntKind.u64.bits))))) else (kn v10 v11)))
def qgd := hull (qk4)
theorem qoa : qgd = qk4 := hull_eq _
def qk5 : AC (AV × Bool) :=
  .seq (.reg [ao 51 (.mv 9),
 ao 52 (.bin .geq 51 (.c (.int .u64 64)))]) (.cond 52 (.seq (.reg [ao 53 (.mv 2),
 ao 54 (.mv 9),
 ao 55 (.bin .sub 54 (.c (.int .u64 64))),
 ao 56 (.bin .shl 53 55),
 ao 10 (.mv 56),
 ao 11 (.mv (.c (.int .u64 0)))]) (.view [.sel [1, 3, 6, 10, 11] [0, 1]])) (.seq (.reg [ao 57 (.mv 9),
 ao 58 (.bin .gtr 57 (.c (.int .u64 0)))]) (.cond 58 (.seq (.reg [ao 59 (.mv 2),
 ao 60 (.mv 9),
 ao 61 (.bin .sub (.c (.int .u64 64)) 60),
 ao 62 (.bin .shr 59 61),
 ao 63 (.mv 2),
 ao 64 (.mv 9),
 ao 65 (.bin .shl 63 64),
 ao 10 (.mv 62),
 ao 11 (.mv 65)]) (.view [.sel [1, 3, 6, 10, 11] [0, 1]])) (.seq (.skip) (.view [.sel [1, 3, 6, 10, 11] [0, 1]])))))
theorem q3o : AC.ok Try.prog (TIof Try.prog) 81 0 (kret [(.cell 6 true 4), .t 7] qct) qk5 := ok_of trivial
theorem q5b (v1 v2 v9 v10 v11 : Int) (Ai : Bool) (Aj Ak Al : Int) (Au : Bool) (Av Aw Ax : Int) (K : Ex → Env → Mem → Option (AV × Bool)) : den 0 (kret [(.cell 6 true 4), .t 7] qct) qk5 (envOf [(1, (.int .i64 v1)), (2, (.int .u64 v2)), (3, (.ptr 0 0)), (6, (.ptr 1 0)), (9, (.int .u64 v9)), (10, (.int .u64 v10)), (11, (.int .u64 v11))]) (memOf [(some (.box true (qb Ai Aj Ak Al))), (some (.box true (qb Au Av Aw Ax)))]) K = qgd v1 v2 v9 v10 v11 Ai Aj Ak Al Au Av Aw Ax (quf v1 Ai Aj Ak Al Au Av Aw Ax K) := by
  rw [qoa]; kernel_rfl
def qv0 := subE (R := AV × Bool) q1z fun t m K => qd (bxC (m.s 1)) (qd (bxC (m.s 0)) (qgd (gI [t 1] 0) (gI [t 2] 0) (gI [t 9] 0) (gI [t 10] 0) (gI [t 11] 0))) (quf (gI [t 1] 0) (gB (bxC (m.s 0)) 0) (gI (bxC (m.s 0)) 1) (gI (bxC (m.s 0)) 2) (gI (bxC (m.s 0)) 3) (gB (bxC (m.s 1)) 0) (gI (bxC (m.s 1)) 1) (gI (bxC (m.s 1)) 2) (gI (bxC (m.s 1)) 3) K)
theorem q5c : SubOk Try.prog (TIof Try.prog) 81 0 (kret [(.cell 6 true 4), .t 7] qct) (scOf qk5) (qv0) :=
  sub_mk tabOk follows (q3o) (er_of (by kernel_rfl)) fun t m K => q5b _ _ _ _ _ _ _ _ _ _ _ _ _ K
def q87 : Shp := ⟨[(0, .st (lk qe)), (1, .one (.l (.i .i64))), (2, .one (.l (.i .u64)))], []⟩
def qpx (Aa : Bool) (Ab Ac Ad v1 v2 : Int) : Option (AV × Bool) :=
  (qlk v1 v2 Aa Ab Ac Ad false (0 : Int) (0 : Int) (0 : Int) (fun v28q1 => (bif v28q1 then (some ((.agg [(.bool false), (.int .u64 (0 : Int)), (.int .u64 (0 : Int)), (.int .i64 (0 : Int))]), false)) else (qnb v1 v2 (IntKind.i64.wrap (v1 - Ad)) Aa Ab Ac Ad false (0 : Int) (0 : Int) (0 : Int) (fun v42q2 => (bif v42q2 then (some ((.agg [(.bool false), (.int .u64 (0 : Int)), (.int .u64 (0 : Int)), (.int .i64 (0 : Int))]), false)) else (oB (qgw Aa Ab Ac) fun r3 => (qgd v1 v2 (IntKind.u64.wrap (IntKind.i64.wrap (r3 - v1))) (0 : Int) v2 Aa Ab Ac Ad false (0 : Int) (0 : Int) (0 : Int) (fun v10q4 v11q5 => (some ((.agg [(.bool Aa), (.int .u64 (ibits .or .u64 Ab v10q4)), (.int .u64 (ibits .or .u64 Ac v11q5)), (.int .i64 v1)]), true)))))))))))
def qkw := hull qpx
theorem qto : qkw = qpx := hull_eq _
def qu3 : AC (AV × Bool) :=
  .seq (.reg [ao 3 (.box 0),
 ao 6 (.alloc [(.bool false), (.int .u64 0), (.int .u64 0), (.int .i64 0)]),
 ao 7 (.mv (.c (.bool false)))]) (.seq (.seq (.seq (.view [.sel [1, 2, 3, 6] [0, 1]]) (.sub (scOf ql7) qw2)) (.cond 28 (.seq (.reg [ao 29 (.build [(.bool false), (.int .u64 0), (.int .u64 0), (.int .i64 0)] []),
 an (.store 4 6 29),
 ao 7 (.mv (.c (.bool false)))]) (.ret)) (.skip))) (.seq (.seq (.reg [ao 30 (.mv 1),
 ao 31 (.fa 3 3),
 ao 32 (.load false 1 31),
 ao 33 (.bin .sub 30 32),
 ao 8 (.mv 33)]) (.seq (.seq (.view [.sel [1, 2, 3, 6, 8] [0, 1]]) (.sub (scOf qk3) qvz)) (.cond 42 (.seq (.reg [ao 43 (.build [(.bool false), (.int .u64 0), (.int .u64 0), (.int .i64 0)] []),
 an (.store 4 6 43),
 ao 7 (.mv (.c (.bool false)))]) (.ret)) (.skip)))) (.seq (.reg [ao 44 (.fa 0 3),
 ao 45 (.load true 3 44),
 .call (po 46 (.call 76 [45])) 76 qix,
 ao 47 (.mv 1),
 ao 48 (.bin .sub 46 47),
 ao 49 (.conv (.int .u64) 48),
 ao 9 (.mv 49)]) (.seq (.reg [ao 50 (.mv 2),
 ao 10 (.mv (.c (.int .u64 0))),
 ao 11 (.mv 50)]) (.seq (.seq (.view [.sel [1, 2, 3, 6, 9, 10, 11] [0, 1]]) (.sub (scOf qk5) qv0)) (.seq (.reg [ao 66 (.fa 0 3),
 ao 67 (.load true 3 66),
 ao 12 (.alloc [(.bool false), (.int .u64 0), (.int .u64 0)]),
 an (.store 3 12 67)]) (.seq (.reg [ao 68 (.fa 1 12),
 ao 69 (.load false 1 68),
 ao 70 (.mv 10),
 ao 71 (.bin .or 69 70),
 ao 72 (.fa 1 12),
 an (.store 1 72 71)]) (.seq (.reg [ao 73 (.fa 2 12),
 ao 74 (.load false 1 73),
 ao 75 (.mv 11),
 ao 76 (.bin .or 74 75),
 ao 77 (.fa 2 12),
 an (.store 1 77 76)]) (.seq (.reg [ao 78 (.load true 3 12),
 ao 79 (.mv 1),
 ao 80 (.build [(.bool false), (.int .u64 0), (.int .u64 0), (.int .i64 0)] [(0, (3, 78)), (3, (1, 79))]),
 an (.store 4 6 80),
 ao 7 (.mv (.c (.bool true)))]) (.ret))))))))))
theorem qbaz : AC.ok Try.prog (TIof Try.prog) 81 0 (kret [(.cell 6 true 4), .t 7] qct) qu3 := ok_of (zA q7l (zA q5a (zA (EntOkB.ok qm4) (zA q5c trivial))))
theorem qbbw (Aa : Bool) (Ab Ac Ad v1 v2 : Int) : den 0 (kret [(.cell 6 true 4), .t 7] qct) qu3 (envOf [(0, .agg (qb Aa Ab Ac Ad)), (1, (.int .i64 v1)), (2, (.int .u64 v2))]) (memOf []) (kend (kret [(.cell 6 true 4), .t 7] qct)) = qkw Aa Ab Ac Ad v1 v2 := by
  rw [qto]; kernel_rfl
theorem qbbx : cFn (TIof Try.prog) Try.f96 = some ⟨81, [(.cell 6 true 4), .t 7], scOf qu3⟩ := by kernel_rfl
def qbby (xs : List AV) : Option (AV × Bool) := qd ((entry xs) 0).cells (qkw) (gI [(entry xs) 1] 0) (gI [(entry xs) 2] 0)
def qr6 {R : Type} : List AV → (AV → Option R) → Option R := entF q87 qbby q86
theorem q05 {R : Type} : EntOkB Try.prog 96 (qr6 (R := R)) :=
  ent_mk tabOk follows Try.func96 (by kernel_rfl) qbbx (fun z r h => by
 obtain ⟨h1, h2⟩ := cond_some h
 cases h2
 exact (fitTup_eq h1).symm) qbaz (er_of (by kernel_rfl)) fun xs => qbbw _ _ _ _ _ _
def qgi (z : AV) : Option (AV × AV × Bool) := cond (fitTup [(.st [.b, (.i .u64), (.i .u64), (.i .i64)]), (.st [.b, (.i .u64), (.i .u64), (.i .i64)]), (.one .b)] z) (some ((gC (tpL z) 0), (gC (tpL z) 1), aB (gC (tpL z) 2))) none
def q5d (r : AV × AV × Bool) : AV := .tup [etaRV (.st [.b, (.i .u64), (.i .u64), (.i .i64)]) r.1, etaRV (.st [.b, (.i .u64), (.i .u64), (.i .i64)]) r.2.1, .bool r.2.2]
def qs1  (Ai : Bool) (Aj Ak Al : Int) (Au : Bool) (Av Aw Ax : Int) (A2 : Bool) (A3 A4 A5 : Int) (A6 : Bool) (A7 A8 A9 : Int) (K : Ex → Env → Mem → Option (AV × AV × Bool)) := (fun z_v22 => K .norm (envOf [(1, (.ptr 0 0)), (2, (.ptr 1 0)), (3, (.ptr 2 0)), (5, (.ptr 3 0)), (22, (.bool z_v22))]) (memOf [(some (.box true (qb Ai Aj Ak Al))), (some (.box true (qb Au Av Aw Ax))), (some (.box true (qb A2 A3 A4 A5))), (some (.box true (qb A6 A7 A8 A9)))]))
def q0p : Shp := ⟨[(1, .one (.ptr 0 0)), (2, .one (.ptr 1 0)), (3, .one (.ptr 2 0)), (5, .one (.ptr 3 0)), (6, .one (.l .b))], [.box true (lk qe), .box true (lk qe), .box true (lk qe), .box true (lk qe)]⟩
def qob  (v6 Ai : Bool) (Aj Ak Al : Int) (Au : Bool) (Av Aw Ax : Int) (A2 : Bool) (A3 A4 A5 : Int) (A6 : Bool) (A7 A8 A9 : Int) (kn : Bool → Option (AV × AV × Bool)) : Option (AV × AV × Bool) :=
  (bif (!v6) then (kn true) else (oB (qey Ai Aj Ak Al) fun r1 => (kn (!r1))))
def ql8 := hull (qob)
theorem qs2 : ql8 = qob := hull_eq _
def qkn : AC (AV × AV × Bool) :=
  .seq (.reg [ao 16 (.mv 6),
 ao 17 (.un .not 16),
 ao 18 (.mv 17),
 ag 19 18 false (.load true 4 1),
 .call (pg 20 18 false (.call 71 [19])) 71 qe4,
 ag 21 18 false (.un .not 20),
 ao 22 (.pick 18 (.c (.bool true)) 21)]) (.view [.sel [1, 2, 3, 5, 22] [0, 1, 2, 3]])
theorem q10 : AC.ok Try.prog (TIof Try.prog) 36 0 (kret [(.cell 2 true 4), (.cell 3 true 4), .t 4] qgi) qkn := ok_of (zA (EntOkB.ok qjj) trivial)
theorem q3p (v6 Ai : Bool) (Aj Ak Al : Int) (Au : Bool) (Av Aw Ax : Int) (A2 : Bool) (A3 A4 A5 : Int) (A6 : Bool) (A7 A8 A9 : Int) (K : Ex → Env → Mem → Option (AV × AV × Bool)) : den 0 (kret [(.cell 2 true 4), (.cell 3 true 4), .t 4] qgi) qkn (envOf [(1, (.ptr 0 0)), (2, (.ptr 1 0)), (3, (.ptr 2 0)), (5, (.ptr 3 0)), (6, (.bool v6))]) (memOf [(some (.box true (qb Ai Aj Ak Al))), (some (.box true (qb Au Av Aw Ax))), (some (.box true (qb A2 A3 A4 A5))), (some (.box true (qb A6 A7 A8 A9)))]) K = ql8 v6 Ai Aj Ak Al Au Av Aw Ax A2 A3 A4 A5 A6 A7 A8 A9 (qs1 Ai Aj Ak Al Au Av Aw Ax A2 A3 A4 A5 A6 A7 A8 A9 K) := by
  rw [qs2]; kernel_rfl
def qug := subE (R := AV × AV × Bool) q0p fun t m K => qd (bxC (m.s 3)) (qd (bxC (m.s 2)) (qd (bxC (m.s 1)) (qd (bxC (m.s 0)) (ql8 (gB [t 6] 0))))) (qs1 (gB (bxC (m.s 0)) 0) (gI (bxC (m.s 0)) 1) (gI (bxC (m.s 0)) 2) (gI (bxC (m.s 0)) 3) (gB (bxC (m.s 1)) 0) (gI (bxC (m.s 1)) 1) (gI (bxC (m.s 1)) 2) (gI (bxC (m.s 1)) 3) (gB (bxC (m.s 2)) 0) (gI (bxC (m.s 2)) 1) (gI (bxC (m.s 2)) 2) (gI (bxC (m.s 2)) 3) (gB (bxC (m.s 3)) 0) (gI (bxC (m.s 3)) 1) (gI (bxC (m.s 3)) 2) (gI (bxC (m.s 3)) 3) K)
theorem q3q : SubOk Try.prog (TIof Try.prog) 36 0 (kret [(.cell 2 true 4), (.cell 3 true 4), .t 4] qgi) (scOf qkn) (qug) :=
  sub_mk tabOk follows (q10) (er_of (by kernel_rfl)) fun t m K => q3p _ _ _ _ _ _ _ _ _ _ _ _ _ _ _ _ _ K
def q5e : Shp := ⟨[(0, .st (lk qe))], []⟩
def qr7 (Aa : Bool) (Ab Ac Ad : Int) : Option (AV × AV × Bool) :=
  (oB (qkw Aa Ab Ac Ad (IntKind.i64.wrap (Ad + (1 : Int))) (0 : Int)) fun r1 => (ql8 r1.2 Aa Ab Ac Ad false (0 : Int) (0 : Int) (0 : Int) false (0 : Int) (0 : Int) (0 : Int) (gB r1.1.cells 0) (gI r1.1.cells 1) (gI r1.1.cells 2) (gI r1.1.cells 3) (fun v22q2 => (bif v22q2 then (some ((.agg [(.bool false), (.int .u64 (0 : Int)), (.int .u64 (0 : Int)), (.int .i64 (0 : Int))]), (.agg [(.bool false), (.int .u64 (0 : Int)), (.int .u64 (0 : Int)), (.int .i64 (0 : Int))]), false)) else (oB (qkw Aa Ab Ac Ad (IntKind.i64.wrap (Ad + (1 : Int))) (1 : Int)) fun r3 => (some ((.agg [(.bool (gB r1.1.cells 0)), (.int .u64 (gI r1.1.cells 1)), (.int .u64 (gI r1.1.cells 2)), (.int .i64 (gI r1.1.cells 3))]), (.agg [(.bool (gB r3.1.cells 0)), (.int .u64 (gI r3.1.cells 1)), (.int .u64 (gI r3.1.cells 2)), (.int .i64 (gI r3.1.cells 3))]), r3.2)))))))
def qiv := hull qr7
theorem qw3 : qiv = qr7 := hull_eq _
def qr8 : AC (AV × AV × Bool) :=
  .seq (.reg [ao 1 (.box 0),
 ao 2 (.alloc [(.bool false), (.int .u64 0), (.int .u64 0), (.int .i64 0)]),
 ao 3 (.alloc [(.bool false), (.int .u64 0), (.int .u64 0), (.int .i64 0)]),
 ao 4 (.mv (.c (.bool false)))]) (.seq (.reg [ao 9 (.load true 4 1),
 ao 10 (.fa 3 1),
 ao 11 (.load false 1 10),
 ao 12 (.bin .add 11 (.c (.int .i64 1))),
 .call (po 13 (.call 96 [9, 12, (.c (.int .u64 0))])) 96 qr6,
 ao 8 (.mv 13),
 ao 14 (.ext 8 0),
 ao 15 (.ext 8 1),
 ao 5 (.alloc [(.bool false), (.int .u64 0), (.int .u64 0), (.int .i64 0)]),
 an (.store 4 5 14),
 ao 6 (.mv 15)]) (.seq (.seq (.seq (.view [.sel [1, 2, 3, 5, 6] [0, 1, 2, 3]]) (.sub (scOf qkn) qug)) (.cond 22 (.seq (.reg [ao 23 (.build [(.bool false), (.int .u64 0), (.int .u64 0), (.int .i64 0)] []),
 ao 24 (.build [(.bool false), (.int .u64 0), (.int .u64 0), (.int .i64 0)] []),
 an (.store 4 2 23),
 an (.store 4 3 24),
 ao 4 (.mv (.c (.bool false)))]) (.ret)) (.skip))) (.seq (.reg [ao 26 (.load true 4 1),
 ao 27 (.fa 3 1),
 ao 28 (.load false 1 27),
 ao 29 (.bin .add 28 (.c (.int .i64 1))),
 .call (po 30 (.call 96 [26, 29, (.c (.int .u64 1))])) 96 qr6,
 ao 25 (.mv 30),
 ao 31 (.ext 25 0),
 ao 32 (.ext 25 1),
 ao 7 (.alloc [(.bool false), (.int .u64 0), (.int .u64 0), (.int .i64 0)]),
 an (.store 4 7 31),
 ao 6 (.mv 32)]) (.seq (.draw [] [ao 33 (.load true 4 5),
 ao 34 (.load true 4 7),
 ao 35 (.mv 6),
 an (.held [6] [((.c (.bool true)), 7), (2, 7), (3, 7)])] [an (.store 4 2 33),
 an (.store 4 3 34),
 ao 4 (.mv 35)]) (.ret)))))
theorem q7m : AC.ok Try.prog (TIof Try.prog) 36 0 (kret [(.cell 2 true 4), (.cell 3 true 4), .t 4] qgi) qr8 := ok_of (zA (EntOkB.ok q05) (zA q3q (zA (EntOkB.ok q05) (zA rfl trivial))))
theorem q88 (Aa : Bool) (Ab Ac Ad : Int) : den 0 (kret [(.cell 2 true 4), (.cell 3 true 4), .t 4] qgi) qr8 (envOf [(0, .agg (qb Aa Ab Ac Ad))]) (memOf []) (kend (kret [(.cell 2 true 4), (.cell 3 true 4), .t 4] qgi)) = qiv Aa Ab Ac Ad := by
  rw [qw3]; kernel_rfl
theorem q89 : cFn (TIof Try.prog) Try.f59 = some ⟨36, [(.cell 2 true 4), (.cell 3 true 4), .t 4], scOf qr8⟩ := by kernel_rfl
def q9a (xs : List AV) : Option (AV × AV × Bool) := qd ((entry xs) 0).cells (qiv)
def qk6 {R : Type} : List AV → (AV → Option R) → Option R := entF q5e q9a q5d
theorem qr9 {R : Type} : EntOkB Try.prog 59 (qk6 (R := R)) :=
  ent_mk tabOk follows Try.func59 (by kernel_rfl) q89 (fun z r h => by
 obtain ⟨h1, h2⟩ := cond_some h
 cases h2
 exact (fitTup_eq h1).symm) q7m (er_of (by kernel_rfl)) fun xs => q88 _ _ _ _
def qqp (z : AV) : Option ((List AV) × Int) := cond (fitTup [(.one (.sl 8)), (.one (.i .i64))] z) (some (aL (gC (tpL z) 0), aI (gC (tpL z) 1))) none
def q7n (r : (List AV) × Int) : AV := .tup [.sl 8 r.1, .int .i64 r.2]
def q7o : Shp := ⟨[(0, .one (.l (.sl 8))), (1, .st (lk qe))], []⟩
def qtp (v0 : List AV) (Aq : Bool) (Ar As At : Int) : Option ((List AV) × Int) :=
  (oB (qeg v0 Aq Ar As At) fun r1 => (bif (decide (r1 < (0 : Int))) then (some (([] : List AV), (11 : Int))) else (oB (qiv Aq Ar As At) fun r2 => (bif (!r2.2.2) then (some (([] : List AV), (21 : Int))) else (oB (qga v0 Aq Ar As At) fun r3 => (bif r3 then (some (([] : List AV), (25 : Int))) else (oB (ixB v0 r1) fun y4 => (bif fitC qa y4.cells then (bif (decide (((gS y4.cells 5).length : Int) > (61 : Int))) then (some (([] : List AV), (1 : Int))) else (bif (decide ((v0.length : Int) ≥ (512 : Int))) then (some (([] : List AV), (9 : Int))) else (bif decide ((gS y4.cells 5).length + ([45, 48] : List UInt8).length ≤ 9223372036854775807) then (bif decide ((gS y4.cells 5).length + ([45, 49] : List UInt8).length ≤ 9223372036854775807) then (oB (qeq v0 r1) fun r5 => (oB (qe3 r5 (gB r2.1.cells 0) (gI r2.1.cells 1) (gI r2.1.cells 2) (gI r2.1.cells 3) (gI y4.cells 4) ((gS y4.cells 5) ++ ([45, 48] : List UInt8)) (gS y4.cells 6) (gI y4.cells 7)) fun r6 => (oB (qe3 r6 (gB r2.2.1.cells 0) (gI r2.2.1.cells 1) (gI r2.2.1.cells 2) (gI r2.2.1.cells 3) (gI y4.cells 4) ((gS y4.cells 5) ++ ([45, 49] : List UInt8)) (gS y4.cells 6) (gI y4.cells 7)) fun r7 => (some (r7, (0 : Int)))))) else none) else none))) else none))))))))
def qll := hull qtp
theorem qx6 : qll = qtp := hull_eq _
def qtq : AC ((List AV) × Int) :=
  .seq (.reg [ao 3 (.box 1),
 ao 4 (.mv (.c .nils)),
 ao 5 (.mv (.c (.int .i64 0)))]) (.seq (.reg [ao 12 (.mv 0),
 ao 13 (.load true 4 3),
 .call (po 14 (.call 51 [12, 13])) 51 qeh,
 ao 6 (.mv 14)]) (.seq (.seq (.reg [ao 15 (.mv 6),
 ao 16 (.bin .lss 15 (.c (.int .i64 0)))]) (.cond 16 (.seq (.reg [ao 4 (.mv (.c .nils)),
 ao 5 (.mv (.c (.int .i64 11)))]) (.seq (.view [.eta 4 (.one (.sl 8))]) (.ret))) (.skip))) (.seq (.reg [ao 18 (.load true 4 3),
 .call (po 19 (.call 59 [18])) 59 qk6,
 ao 17 (.mv 19),
 ao 20 (.ext 17 0),
 ao 21 (.ext 17 1),
 ao 22 (.ext 17 2),
 ao 7 (.alloc [(.bool false), (.int .u64 0), (.int .u64 0), (.int .i64 0)]),
 ao 8 (.alloc [(.bool false), (.int .u64 0), (.int .u64 0), (.int .i64 0)]),
 an (.store 4 7 20),
 an (.store 4 8 21),
 ao 9 (.mv 22)]) (.seq (.seq (.reg [ao 23 (.mv 9),
 ao 24 (.un .not 23)]) (.cond 24 (.seq (.reg [ao 4 (.mv (.c .nils)),
 ao 5 (.mv (.c (.int .i64 21)))]) (.seq (.view [.eta 4 (.one (.sl 8))]) (.ret))) (.skip))) (.seq (.seq (.reg [ao 25 (.mv 0),
 ao 26 (.load true 4 3),
 .call (po 27 (.call 52 [25, 26])) 52 qjy]) (.cond 27 (.seq (.reg [ao 4 (.mv (.c .nils)),
 ao 5 (.mv (.c (.int .i64 25)))]) (.seq (.view [.eta 4 (.one (.sl 8))]) (.ret))) (.skip))) (.seq (.reg [ao 28 (.mv 0),
 ao 29 (.mv 6),
 ao 30 (.ia 8 28 29),
 .st (.etac 30 qa),
 ao 31 (.load true 8 30),
 ao 10 (.alloc [(.bool false), (.int .u64 0), (.int .u64 0), (.int .i64 0), (.int .i64 0), (.str []), (.str []), (.int .i64 0)]),
 an (.store 8 10 31)]) (.seq (.seq (.reg [ao 32 (.fa 5 10),
 ao 33 (.load false 1 32),
 ao 34 (.len true 33),
 ao 35 (.bin .gtr 34 (.c (.int .i64 61)))]) (.cond 35 (.seq (.reg [ao 4 (.mv (.c .nils)),
 ao 5 (.mv (.c (.int .i64 1)))]) (.seq (.view [.eta 4 (.one (.sl 8))]) (.ret))) (.skip))) (.seq (.seq (.reg [ao 36 (.mv 0),
 ao 37 (.len false 36),
 ao 38 (.bin .geq 37 (.c (.int .i64 512)))]) (.cond 38 (.seq (.reg [ao 4 (.mv (.c .nils)),
 ao 5 (.mv (.c (.int .i64 9)))]) (.seq (.view [.eta 4 (.one (.sl 8))]) (.ret))) (.skip))) (.seq (.reg [ao 39 (.load true 8 10),
 ao 11 (.alloc [(.bool false), (.int .u64 0), (.int .u64 0), (.int .i64 0), (.int .i64 0), (.str []), (.str []), (.int .i64 0)]),
 an (.store 8 11 39)]) (.seq (.reg [ao 40 (.load true 4 7),
 ao 41 (.fa 5 10),
 ao 42 (.load false 1 41),
 ao 43 (.bin .add 42 (.c (.str [45, 48]))),
 ao 44 (.fa 0 10),
 an (.store 4 44 40),
 ao 45 (.fa 5 10),
 an (.store 1 45 43)]) (.seq (.reg [ao 46 (.load true 4 8),
 ao 47 (.fa 5 11),
 ao 48 (.load false 1 47),
 ao 49 (.bin .add 48 (.c (.str [45, 49]))),
 ao 50 (.fa 0 11),
 an (.store 4 50 46),
 ao 51 (.fa 5 11),
 an (.store 1 51 49)]) (.seq (.draw [] [ao 52 (.mv 0),
 ao 53 (.mv 6),
 .call (po 54 (.call 56 [52, 53])) 56 qij,
 ao 55 (.load true 8 10),
 .call (po 56 (.call 53 [54, 55])) 53 qi2,
 ao 57 (.load true 8 11)] [.callc (po 58 (.call 53 [56, 57])) 53 qi2,
 ao 4 (.mv 58),
 ao 5 (.mv (.c (.int .i64 0)))]) (.ret)))))))))))))
theorem q9b : AC.ok Try.prog (TIof Try.prog) 59 0 (kret [.t 4, .t 5] qqp) qtq := ok_of (zA (EntOkB.ok qhr) (zA (EntOkB.ok qr9) (zA (EntOkB.ok qo3) (zA (EntOkB.ok ql4) (zA (EntOkB.ok qna) (zA (EntOkB.ok qna) (zA rfl trivial)))))))
theorem qba0 (v0 : List AV) (Aq : Bool) (Ar As At : Int) : den 0 (kret [.t 4, .t 5] qqp) qtq (envOf [(0, (.sl 8 v0)), (1, .agg (qb Aq Ar As At))]) (memOf []) (kend (kret [.t 4, .t 5] qqp)) = qll v0 Aq Ar As At := by
  rw [qx6]; kernel_rfl
theorem qba1 : cFn (TIof Try.prog) Try.f20 = some ⟨59, [.t 4, .t 5], scOf qtq⟩ := by kernel_rfl
def qba2 (xs : List AV) : Option ((List AV) × Int) := qd ((entry xs) 1).cells (qll (gL [(entry xs) 0] 0))
def qw4 {R : Type} : List AV → (AV → Option R) → Option R := entF q7o qba2 q7n
theorem qba3 {R : Type} : EntOkB Try.prog 20 (qw4 (R := R)) :=
  ent_mk tabOk follows Try.func20 (by kernel_rfl) qba1 (fun z r h => by
 obtain ⟨h1, h2⟩ := cond_some h
 cases h2
 exact (fitTup_eq h1).symm) q9b (er_of (by kernel_rfl)) fun xs => qba0 _ _ _ _ _
def qsa (z : AV) : Option (AV × Bool) := cond (fitTup [(.st [.b, (.i .u64), (.i .u64), (.i .i64), (.i .i64), .s, .s, (.i .i64)]), (.one .b)] z) (some ((gC (tpL z) 0), aB (gC (tpL z) 1))) none
def q9c (r : AV × Bool) : AV := .tup [etaRV (.st [.b, (.i .u64), (.i .u64), (.i .i64), (.i .i64), .s, .s, (.i .i64)]) r.1, .bool r.2]
def q9d : Shp := ⟨[(0, .one (.l (.sl 8))), (1, .st (lk qe))], []⟩
def qu4 (v0 : List AV) (Aq : Bool) (Ar As At : Int) : Option (AV × Bool) :=
  (oB (qeg v0 Aq Ar As At) fun r1 => (bif (decide (r1 ≥ (0 : Int))) then (oB (ixB v0 r1) fun y2 => (bif fitC qa y2.cells then (some ((.agg [(.bool (gB y2.cells 0)), (.int .u64 (gI y2.cells 1)), (.int .u64 (gI y2.cells 2)), (.int .i64 (gI y2.cells 3)), (.int .i64 (gI y2.cells 4)), (.str (gS y2.cells 5)), (.str (gS y2.cells 6)), (.int .i64 (gI y2.cells 7))]), true)) else none)) else (some ((.agg [(.bool false), (.int .u64 (0 : Int)), (.int .u64 (0 : Int)), (.int .i64 (0 : Int)), (.int .i64 (0 : Int)), (.str ([] : List UInt8)), (.str ([] : List UInt8)), (.int .i64 (0 : Int))]), false))))
def qkx := hull qu4
theorem qze : qkx = qu4 := hull_eq _
def qu5 : AC (AV × Bool) :=
  .seq (.reg [ao 3 (.box 1),
 ao 4 (.alloc [(.bool false), (.int .u64 0), (.int .u64 0), (.int .i64 0), (.int .i64 0), (.str []), (.str []), (.int .i64 0)]),
 ao 5 (.mv (.c (.bool false)))]) (.seq (.seq (.reg [ao 7 (.mv 0),
 ao 8 (.load true 4 3),
 .call (po 9 (.call 51 [7, 8])) 51 qeh,
 ao 6 (.mv 9)]) (.seq (.reg [ao 10 (.mv 6),
 ao 11 (.bin .geq 10 (.c (.int .i64 0)))]) (.cond 11 (.seq (.reg [ao 12 (.mv 0),
 ao 13 (.mv 6),
 ao 14 (.ia 8 12 13),
 .st (.etac 14 qa),
 ao 15 (.load true 8 14),
 an (.store 8 4 15),
 ao 5 (.mv (.c (.bool true)))]) (.ret)) (.skip)))) (.seq (.reg [ao 16 (.build [(.bool false), (.int .u64 0), (.int .u64 0), (.int .i64 0), (.int .i64 0), (.str []), (.str []), (.int .i64 0)] []),
 an (.store 8 4 16),
 ao 5 (.mv (.c (.bool false)))]) (.ret)))
theorem qba4 : AC.ok Try.prog (TIof Try.prog) 17 0 (kret [(.cell 4 true 8), .t 5] qsa) qu5 := ok_of (zA (EntOkB.ok qhr) trivial)
theorem qbbz (v0 : List AV) (Aq : Bool) (Ar As At : Int) : den 0 (kret [(.cell 4 true 8), .t 5] qsa) qu5 (envOf [(0, (.sl 8 v0)), (1, .agg (qb Aq Ar As At))]) (memOf []) (kend (kret [(.cell 4 true 8), .t 5] qsa)) = qkx v0 Aq Ar As At := by
  rw [qze]; kernel_rfl
theorem qbb0 : cFn (TIof Try.prog) Try.f24 = some ⟨17, [(.cell 4 true 8), .t 5], scOf qu5⟩ := by kernel_rfl
def qbb1 (xs : List AV) : Option (AV × Bool) := qd ((entry xs) 1).cells (qkx (gL [(entry xs) 0] 0))
def qnc {R : Type} : List AV → (AV → Option R) → Option R := entF q9d qbb1 q9c
theorem qu6 {R : Type} : EntOkB Try.prog 24 (qnc (R := R)) :=
  ent_mk tabOk follows Try.func24 (by kernel_rfl) qbb0 (fun z r h => by
 obtain ⟨h1, h2⟩ := cond_some h
 cases h2
 exact (fitTup_eq h1).symm) qba4 (er_of (by kernel_rfl)) fun xs => qbbz _ _ _ _ _
def qwd : Shp := ⟨[(0, .one (.l .s)), (1, .one (.l .s))], []⟩
def qj1 (v0 v1 : List UInt8) : Option Bool :=
  (bif (decide ((v0.length : Int) ≥ (v1.length : Int))) then (oB (cutI v0 (some (IntKind.i64.wrap ((v0.length : Int) - (v1.length : Int)))) none) fun s1 => (some (s1 == v1))) else (some false))
def qio := hull qj1
theorem qoc : qio = qj1 := hull_eq _
def qj2 : AC Bool :=
  .seq (.reg [ao 4 (.mv (.c (.bool false)))]) (.seq (.reg [ao 5 (.mv 0),
 ao 6 (.len true 5),
 ao 7 (.mv 1),
 ao 8 (.len true 7),
 ao 9 (.bin .geq 6 8),
 ao 10 (.mv 9),
 ag 11 10 true (.mv 0),
 ag 12 10 true (.mv 0),
 ag 13 10 true (.len true 12),
 ag 14 10 true (.mv 1),
 ag 15 10 true (.len true 14),
 ag 16 10 true (.bin .sub 13 15),
 ag 17 10 true (.slcs 11 (some 16) none),
 ag 18 10 true (.mv 1),
 ag 19 10 true (.bin .eql 17 18),
 ao 20 (.pick 10 19 (.c (.bool false))),
 ao 4 (.mv 20)]) (.ret))
theorem qw5 : AC.ok Try.prog (TIof Try.prog) 21 0 (kret [.t 4] decB) qj2 := ok_of trivial
theorem qxi (v0 v1 : List UInt8) : den 0 (kret [.t 4] decB) qj2 (envOf [(0, (.str v0)), (1, (.str v1))]) (memOf []) (kend (kret [.t 4] decB)) = qio v0 v1 := by
  rw [qoc]; kernel_rfl
theorem qxj : cFn (TIof Try.prog) Try.f104 = some ⟨21, [.t 4], scOf qj2⟩ := by kernel_rfl
def qxk (xs : List AV) : Option Bool := qio (gS [(entry xs) 0] 0) (gS [(entry xs) 1] 0)
def qnd {R : Type} : List AV → (AV → Option R) → Option R := entF qwd qxk AV.bool
theorem qxl {R : Type} : EntOkB Try.prog 104 (qnd (R := R)) :=
  ent_mk tabOk follows Try.func104 (by kernel_rfl) qxj hdeB qw5 (er_of (by kernel_rfl)) fun xs => qxi _ _
def qu7 : Shp := ⟨[(0, .one (.l .s)), (1, .one (.l .s))], []⟩
def qju (v0 v1 : List UInt8) : Option (List UInt8) :=
  (oB (qio v0 v1) fun r1 => (bif r1 then (oB (cutI v0 none (some (IntKind.i64.wrap ((v0.length : Int) - (v1.length : Int))))) fun s2 => (some s2)) else (some v0)))
def qh8 := hull qju
theorem qne : qh8 = qju := hull_eq _
def qjv : AC (List UInt8) :=
  .seq (.reg [ao 4 (.mv (.c (.str [])))]) (.seq (.seq (.reg [ao 5 (.mv 0),
 ao 6 (.mv 1),
 .call (po 7 (.call 104 [5, 6])) 104 qnd]) (.cond 7 (.seq (.reg [ao 8 (.mv 0),
 ao 9 (.mv 0),
 ao 10 (.len true 9),
 ao 11 (.mv 1),
 ao 12 (.len true 11),
 ao 13 (.bin .sub 10 12),
 ao 14 (.slcs 8 none (some 13)),
 ao 4 (.mv 14)]) (.ret)) (.skip))) (.seq (.reg [ao 15 (.mv 0),
 ao 4 (.mv 15)]) (.ret)))
theorem qwe : AC.ok Try.prog (TIof Try.prog) 16 0 (kret [.t 4] decS) qjv := ok_of (zA (EntOkB.ok qxl) trivial)
theorem qw6 (v0 v1 : List UInt8) : den 0 (kret [.t 4] decS) qjv (envOf [(0, (.str v0)), (1, (.str v1))]) (memOf []) (kend (kret [.t 4] decS)) = qh8 v0 v1 := by
  rw [qne]; kernel_rfl
theorem qw7 : cFn (TIof Try.prog) Try.f98 = some ⟨16, [.t 4], scOf qjv⟩ := by kernel_rfl
def qw8 (xs : List AV) : Option (List UInt8) := qh8 (gS [(entry xs) 0] 0) (gS [(entry xs) 1] 0)
def qmg {R : Type} : List AV → (AV → Option R) → Option R := entF qu7 qw8 AV.str
theorem qw9 {R : Type} : EntOkB Try.prog 98 (qmg (R := R)) :=
  ent_mk tabOk follows Try.func98 (by kernel_rfl) qw7 hdeS qwe (er_of (by kernel_rfl)) fun xs => qw6 _ _
def qyn : Shp := ⟨[(0, .one (.l .s)), (1, .one (.l .s))], []⟩
def ql9 (v0 v1 : List UInt8) : Option (List UInt8) :=
  (oB (qh8 v0 v1) fun r1 => (some r1))
def qik := hull ql9
theorem qq5 : qik = ql9 := hull_eq _
def qma : AC (List UInt8) :=
  .seq (.reg [ao 4 (.mv (.c (.str [])))]) (.seq (.reg [ao 5 (.mv 0),
 ao 6 (.mv 1),
 .call (po 7 (.call 98 [5, 6])) 98 qmg,
 ao 4 (.mv 7)]) (.ret))
theorem qzf : AC.ok Try.prog (TIof Try.prog) 8 0 (kret [.t 4] decS) qma := ok_of (zA (EntOkB.ok qw9) trivial)
theorem q0q (v0 v1 : List UInt8) : den 0 (kret [.t 4] decS) qma (envOf [(0, (.str v0)), (1, (.str v1))]) (memOf []) (kend (kret [.t 4] decS)) = qik v0 v1 := by
  rw [qq5]; kernel_rfl
theorem q0r : cFn (TIof Try.prog) Try.f61 = some ⟨8, [.t 4], scOf qma⟩ := by kernel_rfl
def q0s (xs : List AV) : Option (List UInt8) := qik (gS [(entry xs) 0] 0) (gS [(entry xs) 1] 0)
def qpk {R : Type} : List AV → (AV → Option R) → Option R := entF qyn q0s AV.str
theorem q0t {R : Type} : EntOkB Try.prog 61 (qpk (R := R)) :=
  ent_mk tabOk follows Try.func61 (by kernel_rfl) q0r hdeS qzf (er_of (by kernel_rfl)) fun xs => q0q _ _
def qip (z : AV) : Option ((List AV) × Int) := cond (fitTup [(.one (.sl 8)), (.one (.i .i64))] z) (some (aL (gC (tpL z) 0), aI (gC (tpL z) 1))) none
def q9e (r : (List AV) × Int) : AV := .tup [.sl 8 r.1, .int .i64 r.2]
def quh  (v0 : List AV) (Ai : Bool) (Aj Ak Al : Int) (Au : Bool) (Av Aw Ax : Int) (A2 : Bool) (A3 A4 A5 : Int) (A6 : Bool) (A7 A8 A9 Ba : Int) (Bb : List UInt8) (Bc : Int) (K : Ex → Env → Mem → Option ((List AV) × Int)) := (fun z_b3_5 => K .norm (envOf [(0, (.sl 8 v0)), (3, (.ptr 0 0)), (6, (.ptr 1 0)), (7, (.ptr 2 0)), (9, (.ptr 3 0))]) (memOf [(some (.box true (qb Ai Aj Ak Al))), (some (.box true (qb Au Av Aw Ax))), (some (.box true (qb A2 A3 A4 A5))), (some (.box true (qc A6 A7 A8 A9 Ba z_b3_5 Bb Bc)))]))
def q11 : Shp := ⟨[(0, .one (.l (.sl 8))), (3, .one (.ptr 0 0)), (6, .one (.ptr 1 0)), (7, .one (.ptr 2 0)), (9, .one (.ptr 3 0))], [.box true (lk qe), .box true (lk qe), .box true (lk qe), .box true (lk qa)]⟩
def qo6  (v0 : List AV) (Ai : Bool) (Aj Ak Al : Int) (Au : Bool) (Av Aw Ax : Int) (A2 : Bool) (A3 A4 A5 : Int) (A6 : Bool) (A7 A8 A9 Ba : Int) (Bd Bb : List UInt8) (Bc : Int) (kn : (List UInt8) → Option ((List AV) × Int)) : Option ((List AV) × Int) :=
  (oB (qik Bd ([45, 48] : List UInt8)) fun r1 => (bif (!(r1 == ([] : List UInt8))) then (kn r1) else (kn Bd)))
def qko := hull (qo6)
theorem qui : qko = qo6 := hull_eq _
def qk7 : AC ((List AV) × Int) :=
  .seq (.reg [ao 69 (.fa 5 9),
 ao 70 (.load false 1 69),
 .call (po 71 (.call 61 [70, (.c (.str [45, 48]))])) 61 qpk,
 ao 13 (.mv 71)]) (.seq (.reg [ao 72 (.mv 13),
 ao 73 (.bin .neq 72 (.c (.str [])))]) (.cond 73 (.seq (.reg [ao 74 (.mv 13),
 ao 75 (.fa 5 9),
 an (.store 1 75 74)]) (.view [.sel [0, 3, 6, 7, 9] [0, 1, 2, 3]])) (.seq (.skip) (.view [.sel [0, 3, 6, 7, 9] [0, 1, 2, 3]]))))
theorem q3r : AC.ok Try.prog (TIof Try.prog) 91 0 (kret [.t 4, .t 5] qip) qk7 := ok_of (zA (EntOkB.ok q0t) trivial)
theorem q5f (v0 : List AV) (Ai : Bool) (Aj Ak Al : Int) (Au : Bool) (Av Aw Ax : Int) (A2 : Bool) (A3 A4 A5 : Int) (A6 : Bool) (A7 A8 A9 Ba : Int) (Bd Bb : List UInt8) (Bc : Int) (K : Ex → Env → Mem → Option ((List AV) × Int)) : den 0 (kret [.t 4, .t 5] qip) qk7 (envOf [(0, (.sl 8 v0)), (3, (.ptr 0 0)), (6, (.ptr 1 0)), (7, (.ptr 2 0)), (9, (.ptr 3 0))]) (memOf [(some (.box true (qb Ai Aj Ak Al))), (some (.box true (qb Au Av Aw Ax))), (some (.box true (qb A2 A3 A4 A5))), (some (.box true (qc A6 A7 A8 A9 Ba Bd Bb Bc)))]) K = qko v0 Ai Aj Ak Al Au Av Aw Ax A2 A3 A4 A5 A6 A7 A8 A9 Ba Bd Bb Bc (quh v0 Ai Aj Ak Al Au Av Aw Ax A2 A3 A4 A5 A6 A7 A8 A9 Ba Bb Bc K) := by
  rw [qui]; kernel_rfl
def qv1 := subE (R := (List AV) × Int) q11 fun t m K => qf (bxC (m.s 3)) (qd (bxC (m.s 2)) (qd (bxC (m.s 1)) (qd (bxC (m.s 0)) (qko (gL [t 0] 0))))) (quh (gL [t 0] 0) (gB (bxC (m.s 0)) 0) (gI (bxC (m.s 0)) 1) (gI (bxC (m.s 0)) 2) (gI (bxC (m.s 0)) 3) (gB (bxC (m.s 1)) 0) (gI (bxC (m.s 1)) 1) (gI (bxC (m.s 1)) 2) (gI (bxC (m.s 1)) 3) (gB (bxC (m.s 2)) 0) (gI (bxC (m.s 2)) 1) (gI (bxC (m.s 2)) 2) (gI (bxC (m.s 2)) 3) (gB (bxC (m.s 3)) 0) (gI (bxC (m.s 3)) 1) (gI (bxC (m.s 3)) 2) (gI (bxC (m.s 3)) 3) (gI (bxC (m.s 3)) 4) (gS (bxC (m.s 3)) 6) (gI (bxC (m.s 3)) 7) K)
theorem q5g : SubOk Try.prog (TIof Try.prog) 91 0 (kret [.t 4, .t 5] qip) (scOf qk7) (qv1) :=
  sub_mk tabOk follows (q3r) (er_of (by kernel_rfl)) fun t m K => q5f _ _ _ _ _ _ _ _ _ _ _ _ _ _ _ _ _ _ _ _ _ K
def q9f : Shp := ⟨[(0, .one (.l (.sl 8))), (1, .st (lk qe))], []⟩
def qu8 (v0 : List AV) (Aq : Bool) (Ar As At : Int) : Option ((List AV) × Int) :=
  (oB (qiv Aq Ar As At) fun r1 => (bif (!r1.2.2) then (some (([] : List AV), (11 : Int))) else (oB (qkx v0 (gB r1.1.cells 0) (gI r1.1.cells 1) (gI r1.1.cells 2) (gI r1.1.cells 3)) fun r2 => (oB (qkx v0 (gB r1.2.1.cells 0) (gI r1.2.1.cells 1) (gI r1.2.1.cells 2) (gI r1.2.1.cells 3)) fun r3 => (bif ((!r2.2) || (!r3.2)) then (some (([] : List AV), (11 : Int))) else (oB (qeg v0 Aq Ar As At) fun r4 => (bif (decide (r4 ≥ (0 : Int))) then (some (([] : List AV), (12 : Int))) else (bif (((((gI r2.1.cells 4) != (gI r3.1.cells 4)) || (!((gS r2.1.cells 6) == (gS r3.1.cells 6)))) || ((gI r2.1.cells 7) != (gI r3.1.cells 7))) || ((gI r2.1.cells 4) == (3 : Int))) then (some (([] : List AV), (21 : Int))) else (qko v0 Aq Ar As At (gB r1.1.cells 0) (gI r1.1.cells 1) (gI r1.1.cells 2) (gI r1.1.cells 3) (gB r1.2.1.cells 0) (gI r1.2.1.cells 1) (gI r1.2.1.cells 2) (gI r1.2.1.cells 3) (gB r2.1.cells 0) (gI r2.1.cells 1) (gI r2.1.cells 2) (gI r2.1.cells 3) (gI r2.1.cells 4) (gS r2.1.cells 5) (gS r2.1.cells 6) (gI r2.1.cells 7) (fun b3_5q5 => (oB (qeg v0 (gB r1.1.cells 0) (gI r1.1.cells 1) (gI r1.1.cells 2) (gI r1.1.cells 3)) fun r6 => (oB (qeq v0 r6) fun r7 => (oB (qeg r7 (gB r1.2.1.cells 0) (gI r1.2.1.cells 1) (gI r1.2.1.cells 2) (gI r1.2.1.cells 3)) fun r8 => (oB (qeq r7 r8) fun r9 => (oB (qe3 r9 Aq Ar As At (gI r2.1.cells 4) b3_5q5 (gS r2.1.cells 6) (gI r2.1.cells 7)) fun r10 => (some (r10, (0 : Int))))))))))))))))))
def qmo := hull qu8
theorem qzg : qmo = qu8 := hull_eq _
def qu9 : AC ((List AV) × Int) :=
  .seq (.reg [ao 3 (.box 1),
 ao 4 (.mv (.c .nils)),
 ao 5 (.mv (.c (.int .i64 0)))]) (.seq (.reg [ao 16 (.load true 4 3),
 .call (po 17 (.call 59 [16])) 59 qk6,
 ao 15 (.mv 17),
 ao 18 (.ext 15 0),
 ao 19 (.ext 15 1),
 ao 20 (.ext 15 2),
 ao 6 (.alloc [(.bool false), (.int .u64 0), (.int .u64 0), (.int .i64 0)]),
 ao 7 (.alloc [(.bool false), (.int .u64 0), (.int .u64 0), (.int .i64 0)]),
 an (.store 4 6 18),
 an (.store 4 7 19),
 ao 8 (.mv 20)]) (.seq (.seq (.reg [ao 21 (.mv 8),
 ao 22 (.un .not 21)]) (.cond 22 (.seq (.reg [ao 4 (.mv (.c .nils)),
 ao 5 (.mv (.c (.int .i64 11)))]) (.seq (.view [.eta 4 (.one (.sl 8))]) (.ret))) (.skip))) (.seq (.reg [ao 24 (.mv 0),
 ao 25 (.load true 4 6),
 .call (po 26 (.call 24 [24, 25])) 24 qnc,
 ao 23 (.mv 26),
 ao 27 (.ext 23 0),
 ao 28 (.ext 23 1),
 ao 9 (.alloc [(.bool false), (.int .u64 0), (.int .u64 0), (.int .i64 0), (.int .i64 0), (.str []), (.str []), (.int .i64 0)]),
 an (.store 8 9 27),
 ao 10 (.mv 28)]) (.seq (.reg [ao 30 (.mv 0),
 ao 31 (.load true 4 7),
 .call (po 32 (.call 24 [30, 31])) 24 qnc,
 ao 29 (.mv 32),
 ao 33 (.ext 29 0),
 ao 34 (.ext 29 1),
 ao 11 (.alloc [(.bool false), (.int .u64 0), (.int .u64 0), (.int .i64 0), (.int .i64 0), (.str []), (.str []), (.int .i64 0)]),
 an (.store 8 11 33),
 ao 12 (.mv 34)]) (.seq (.seq (.reg [ao 35 (.mv 10),
 ao 36 (.un .not 35),
 ao 37 (.mv 36),
 .grp 37 false [(pg 38 37 false (.mv 12)), (pg 39 37 false (.un .not 38))] 40 39]) (.cond 40 (.seq (.reg [ao 4 (.mv (.c .nils)),
 ao 5 (.mv (.c (.int .i64 11)))]) (.seq (.view [.eta 4 (.one (.sl 8))]) (.ret))) (.skip))) (.seq (.seq (.reg [ao 41 (.mv 0),
 ao 42 (.load true 4 3),
 .call (po 43 (.call 51 [41, 42])) 51 qeh,
 ao 44 (.bin .geq 43 (.c (.int .i64 0)))]) (.cond 44 (.seq (.reg [ao 4 (.mv (.c .nils)),
 ao 5 (.mv (.c (.int .i64 12)))]) (.seq (.view [.eta 4 (.one (.sl 8))]) (.ret))) (.skip))) (.seq (.seq (.reg [ao 45 (.fa 4 9),
 ao 46 (.load false 1 45),
 ao 47 (.fa 4 11),
 ao 48 (.load false 1 47),
 ao 49 (.bin .neq 46 48),
 ao 50 (.mv 49),
 .grp 50 false [(pg 51 50 false (.fa 6 9)), (pg 52 50 false (.load false 1 51)), (pg 53 50 false (.fa 6 11)), (pg 54 50 false (.load false 1 53)), (pg 55 50 false (.bin .neq 52 54))] 56 55,
 ao 57 (.mv 56),
 .grp 57 false [(pg 58 57 false (.fa 7 9)), (pg 59 57 false (.load false 1 58)), (pg 60 57 false (.fa 7 11)), (pg 61 57 false (.load false 1 60)), (pg 62 57 false (.bin .neq 59 61))] 63 62,
 ao 64 (.mv 63),
 .grp 64 false [(pg 65 64 false (.fa 4 9)), (pg 66 64 false (.load false 1 65)), (pg 67 64 false (.bin .eql 66 (.c (.int .i64 3))))] 68 67]) (.cond 68 (.seq (.reg [ao 4 (.mv (.c .nils)),
 ao 5 (.mv (.c (.int .i64 21)))]) (.seq (.view [.eta 4 (.one (.sl 8))]) (.ret))) (.skip))) (.seq (.seq (.view [.sel [0, 3, 6, 7, 9] [0, 1, 2, 3]]) (.sub (scOf qk7) qv1)) (.seq (.reg [ao 76 (.load true 4 3),
 ao 77 (.fa 0 9),
 an (.store 4 77 76)]) (.seq (.reg [ao 78 (.mv 0),
 ao 79 (.mv 0),
 ao 80 (.load true 4 6),
 .call (po 81 (.call 51 [79, 80])) 51 qeh,
 .callc (po 82 (.call 56 [78, 81])) 56 qij,
 ao 14 (.mv 82)]) (.seq (.reg [ao 83 (.mv 14),
 ao 84 (.mv 14),
 ao 85 (.load true 4 7),
 .call (po 86 (.call 51 [84, 85])) 51 qeh,
 .callc (po 87 (.call 56 [83, 86])) 56 qij,
 ao 14 (.mv 87)]) (.seq (.reg [ao 88 (.mv 14),
 ao 89 (.load true 8 9),
 .callc (po 90 (.call 53 [88, 89])) 53 qi2,
 ao 4 (.mv 90),
 ao 5 (.mv (.c (.int .i64 0)))]) (.ret)))))))))))))
theorem qba5 : AC.ok Try.prog (TIof Try.prog) 91 0 (kret [.t 4, .t 5] qip) qu9 := ok_of (zA (EntOkB.ok qr9) (zA (EntOkB.ok qu6) (zA (EntOkB.ok qu6) (zA (EntOkB.ok qhr) (zA q5g (zA (EntOkB.ok qhr) (zA (EntOkB.ok ql4) (zA (EntOkB.ok qhr) (zA (EntOkB.ok ql4) (zA (EntOkB.ok qna) trivial))))))))))
theorem qbb2 (v0 : List AV) (Aq : Bool) (Ar As At : Int) : den 0 (kret [.t 4, .t 5] qip) qu9 (envOf [(0, (.sl 8 v0)), (1, .agg (qb Aq Ar As At))]) (memOf []) (kend (kret [.t 4, .t 5] qip)) = qmo v0 Aq Ar As At := by
  rw [qzg]; kernel_rfl
theorem qbb3 : cFn (TIof Try.prog) Try.f22 = some ⟨91, [.t 4, .t 5], scOf qu9⟩ := by kernel_rfl
def qbb4 (xs : List AV) : Option ((List AV) × Int) := qd ((entry xs) 1).cells (qmo (gL [(entry xs) 0] 0))
def qx7 {R : Type} : List AV → (AV → Option R) → Option R := entF q9f qbb4 q9e
theorem qbb5 {R : Type} : EntOkB Try.prog 22 (qx7 (R := R)) :=
  ent_mk tabOk follows Try.func22 (by kernel_rfl) qbb3 (fun z r h => by
 obtain ⟨h1, h2⟩ := cond_some h
 cases h2
 exact (fitTup_eq h1).symm) qba5 (er_of (by kernel_rfl)) fun xs => qbb2 _ _ _ _ _
def q12 : Shp := ⟨[(0, .st (lk qa)), (1, .one (.ptr 1 0))], [.box true (lk qa), .box true (lk qe), .box true (lk qa), .box true (lk qa), .box true (lk qa)]⟩
def quj {R : Type} (KK : AV → Mem → Option R) := (fun v3 Ai Aj Ak Al Am An Ao Ap Au Av Aw Ax A2 A3 A4 A5 Be Bf Bg Bh A6 A7 A8 A9 Ba Bd Bb Bc Bi Bj Bl Bm Bn Bo Bp Bq => KK (.bool v3) (memOf [(some (.box true [(.bool Ai), (.int .u64 Aj), (.int .u64 Ak), (.int .i64 Al), (.int .i64 Am), (.str An), (.str Ao), (.int .i64 Ap)])), (some (.box true [(.bool Au), (.int .u64 Av), (.int .u64 Aw), (.int .i64 Ax)])), (some (.box true [(.bool A2), (.int .u64 A3), (.int .u64 A4), (.int .i64 A5), (.int .i64 Be), (.str Bf), (.str Bg), (.int .i64 Bh)])), (some (.box true [(.bool A6), (.int .u64 A7), (.int .u64 A8), (.int .i64 A9), (.int .i64 Ba), (.str Bd), (.str Bb), (.int .i64 Bc)])), (some (.box true [(.bool Bi), (.int .u64 Bj), (.int .u64 Bl), (.int .i64 Bm), (.int .i64 Bn), (.str Bo), (.str Bp), (.int .i64 Bq)]))]))
def qo7 {R : Type}  (Aa : Bool) (Ab Ac Ad Ae : Int) (Af Ag : List UInt8) (Ah : Int) (Ai : Bool) (Aj Ak Al Am : Int) (An Ao : List UInt8) (Ap : Int) (Au : Bool) (Av Aw Ax : Int) (A2 : Bool) (A3 A4 A5 Be : Int) (Bf Bg : List UInt8) (Bh : Int) (A6 : Bool) (A7 A8 A9 Ba : Int) (Bd Bb : List UInt8) (Bc : Int) (Bi : Bool) (Bj Bl Bm Bn : Int) (Bo Bp : List UInt8) (Bq : Int) (kr : Bool → Bool → Int → Int → Int → Int → (List UInt8) → (List UInt8) → Int → Bool → Int → Int → Int → Bool → Int → Int → Int → Int → (List UInt8) → (List UInt8) → Int → Bool → Int → Int → Int → Int → (List UInt8) → (List UInt8) → Int → Bool → Int → Int → Int → Int → (List UInt8) → (List UInt8) → Int → Option R) : Option R :=
  (oB (qez Au Av Aw Ax Aa Ab Ac Ad) fun r1 => (kr r1 Ai Aj Ak Al Am An Ao Ap Au Av Aw Ax A2 A3 A4 A5 Be Bf Bg Bh A6 A7 A8 A9 Ba Bd Bb Bc Bi Bj Bl Bm Bn Bo Bp Bq))
def qnf {R : Type} := hull (qo7 (R := R))
theorem quk {R : Type} : qnf (R := R) = qo7 := hull_eq _
def qgj {R : Type} (KK : AV → Mem → Option R) : AC R :=
  .seq (.reg [ao 2 (.box 0),
 ao 3 (.mv (.c (.bool false)))]) (.seq (.reg [ao 4 (.load true 4 1),
 ao 5 (.fa 0 2),
 ao 6 (.load true 4 5),
 .call (po 7 (.call 64 [4, 6])) 64 qet,
 ao 3 (.mv 7)]) (.seq (.view [.sel [3] [0, 1, 2, 3, 4]]) (.ret)))
theorem q3s {R : Type} (KK : AV → Mem → Option R) : AC.ok Try.prog (TIof Try.prog) 8 5 (kretr [.t 3] KK) (qgj KK) := ok_of (zA (EntOkB.ok qit) trivial)
theorem q5h {R : Type} (KK : AV → Mem → Option R) (Aa : Bool) (Ab Ac Ad Ae : Int) (Af Ag : List UInt8) (Ah : Int) (Ai : Bool) (Aj Ak Al Am : Int) (An Ao : List UInt8) (Ap : Int) (Au : Bool) (Av Aw Ax : Int) (A2 : Bool) (A3 A4 A5 Be : Int) (Bf Bg : List UInt8) (Bh : Int) (A6 : Bool) (A7 A8 A9 Ba : Int) (Bd Bb : List UInt8) (Bc : Int) (Bi : Bool) (Bj Bl Bm Bn : Int) (Bo Bp : List UInt8) (Bq : Int) : den 5 (kretr [.t 3] KK) (qgj KK) (envOf [(0, .agg (qc Aa Ab Ac Ad Ae Af Ag Ah)), (1, (.ptr 1 0))]) (memOf [(some (.box true (qc Ai Aj Ak Al Am An Ao Ap))), (some (.box true (qb Au Av Aw Ax))), (some (.box true (qc A2 A3 A4 A5 Be Bf Bg Bh))), (some (.box true (qc A6 A7 A8 A9 Ba Bd Bb Bc))), (some (.box true (qc Bi Bj Bl Bm Bn Bo Bp Bq)))]) (kend (kretr [.t 3] KK)) = qnf Aa Ab Ac Ad Ae Af Ag Ah Ai Aj Ak Al Am An Ao Ap Au Av Aw Ax A2 A3 A4 A5 Be Bf Bg Bh A6 A7 A8 A9 Ba Bd Bb Bc Bi Bj Bl Bm Bn Bo Bp Bq (quj KK) := by
  rw [quk]; kernel_rfl
theorem q5i : cFn (TIof Try.prog) Try.f63 = some ⟨8, [.t 3], scOf (qgj (R := Unit) (fun _ _ => none))⟩ := by kernel_rfl
theorem q5j {R : Type} (KK : AV → Mem → Option R) : (qgj KK).er = some (scOf (qgj (R := Unit) (fun _ _ => none))) := by kernel_rfl
def qv2 {R : Type} : List AV → Mem → (AV → Mem → Option R) → Option R := refE q12 fun xs m KK => qf (bxC (m.s 4)) (qf (bxC (m.s 3)) (qf (bxC (m.s 2)) (qd (bxC (m.s 1)) (qf (bxC (m.s 0)) (qf ((entry xs) 0).cells (qnf)))))) (quj KK)
theorem q5k {R : Type} : RefOk Try.prog 63 (qv2 (R := R)) :=
  ref_mk (ac := fun KK => qgj KK) tabOk follows Try.func63 (by kernel_rfl) q5i (fun KK => q3s KK) (fun KK => q5j KK) rfl fun xs m KK => q5h KK _ _ _ _ _ _ _ _ _ _ _ _ _ _ _ _ _ _ _ _ _ _ _ _ _ _ _ _ _ _ _ _ _ _ _ _ _ _ _ _ _ _ _ _
def qhf {R : Type}  (v7 : Bool) (v10 : List AV) (v11 v12 : Int) (K : Ex → Env → Mem → Option R) := (fun z_v31 z_b0_0 z_b0_1 z_b0_2 z_b0_3 z_b0_4 z_b0_5 z_b0_6 z_b0_7 z_b1_0 z_b1_1 z_b1_2 z_b1_3 z_b2_0 z_b2_1 z_b2_2 z_b2_3 z_b2_4 z_b2_5 z_b2_6 z_b2_7 z_b3_0 z_b3_1 z_b3_2 z_b3_3 z_b3_4 z_b3_5 z_b3_6 z_b3_7 z_b4_0 z_b4_1 z_b4_2 z_b4_3 z_b4_4 z_b4_5 z_b4_6 z_b4_7 => K .norm (envOf [(1, (.func 63 [(.ptr 1 0)])), (4, (.ptr 2 0)), (6, (.ptr 3 0)), (7, (.bool v7)), (9, (.ptr 4 0)), (10, (.sl 8 v10)), (11, (.int .i64 v11)), (12, (.int .i64 v12)), (31, (.bool z_v31))]) (memOf [(some (.box true (qc z_b0_0 z_b0_1 z_b0_2 z_b0_3 z_b0_4 z_b0_5 z_b0_6 z_b0_7))), (some (.box true (qb z_b1_0 z_b1_1 z_b1_2 z_b1_3))), (some (.box true (qc z_b2_0 z_b2_1 z_b2_2 z_b2_3 z_b2_4 z_b2_5 z_b2_6 z_b2_7))), (some (.box true (qc z_b3_0 z_b3_1 z_b3_2 z_b3_3 z_b3_4 z_b3_5 z_b3_6 z_b3_7))), (some (.box true (qc z_b4_0 z_b4_1 z_b4_2 z_b4_3 z_b4_4 z_b4_5 z_b4_6 z_b4_7)))]))
def qmh : Shp := ⟨[(1, .one (.fn 63 [(1, 0)])), (4, .one (.ptr 2 0)), (6, .one (.ptr 3 0)), (7, .one (.l .b)), (9, .one (.ptr 4 0)), (10, .one (.l (.sl 8))), (11, .one (.l (.i .i64))), (12, .one (.l (.i .i64)))], [.box true (lk qa), .box true (lk qe), .box true (lk qa), .box true (lk qa), .box true (lk qa)]⟩
def qec {R : Type}  (v7 : Bool) (v10 : List AV) (v11 v12 : Int) (Ai : Bool) (Aj Ak Al Am : Int) (An Ao : List UInt8) (Ap : Int) (Au : Bool) (Av Aw Ax : Int) (A2 : Bool) (A3 A4 A5 Be : Int) (Bf Bg : List UInt8) (Bh : Int) (A6 : Bool) (A7 A8 A9 Ba : Int) (Bd Bb : List UInt8) (Bc : Int) (Bi : Bool) (Bj Bl Bm Bn : Int) (Bo Bp : List UInt8) (Bq : Int) (kn : Bool → Bool → Int → Int → Int → Int → (List UInt8) → (List UInt8) → Int → Bool → Int → Int → Int → Bool → Int → Int → Int → Int → (List UInt8) → (List UInt8) → Int → Bool → Int → Int → Int → Int → (List UInt8) → (List UInt8) → Int → Bool → Int → Int → Int → Int → (List UInt8) → (List UInt8) → Int → Option R) : Option R :=
  (qnf Bi Bj Bl Bm Bn Bo Bp Bq Ai Aj Ak Al Am An Ao Ap Au Av Aw Ax A2 A3 A4 A5 Be Bf Bg Bh A6 A7 A8 A9 Ba Bd Bb Bc Bi Bj Bl Bm Bn Bo Bp Bq fun v3q1 b0_0q2 b0_1q3 b0_2q4 b0_3q5 b0_4q6 b0_5q7 b0_6q8 b0_7q9 b1_0q10 b1_1q11 b1_2q12 b1_3q13 b2_0q14 b2_1q15 b2_2q16 b2_3q17 b2_4q18 b2_5q19 b2_6q20 b2_7q21 b3_0q22 b3_1q23 b3_2q24 b3_3q25 b3_4q26 b3_5q27 b3_6q28 b3_7q29 b4_0q30 b4_1q31 b4_2q32 b4_3q33 b4_4q34 b4_5q35 b4_6q36 b4_7q37 => (bif v3q1 then (bif (!v7) then (kn true b0_0q2 b0_1q3 b0_2q4 b0_3q5 b0_4q6 b0_5q7 b0_6q8 b0_7q9 b1_0q10 b1_1q11 b1_2q12 b1_3q13 b2_0q14 b2_1q15 b2_2q16 b2_3q17 b2_4q18 b2_5q19 b2_6q20 b2_7q21 b3_0q22 b3_1q23 b3_2q24 b3_3q25 b3_4q26 b3_5q27 b3_6q28 b3_7q29 b4_0q30 b4_1q31 b4_2q32 b4_3q33 b4_4q34 b4_5q35 b4_6q36 b4_7q37) else (kn (decide (b4_3q33 > b3_3q25)) b0_0q2 b0_1q3 b0_2q4 b0_3q5 b0_4q6 b0_5q7 b0_6q8 b0_7q9 b1_0q10 b1_1q11 b1_2q12 b1_3q13 b2_0q14 b2_1q15 b2_2q16 b2_3q17 b2_4q18 b2_5q19 b2_6q20 b2_7q21 b3_0q22 b3_1q23 b3_2q24 b3_3q25 b3_4q26 b3_5q27 b3_6q28 b3_7q29 b4_0q30 b4_1q31 b4_2q32 b4_3q33 b4_4q34 b4_5q35 b4_6q36 b4_7q37)) else (kn false b0_0q2 b0_1q3 b0_2q4 b0_3q5 b0_4q6 b0_5q7 b0_6q8 b0_7q9 b1_0q10 b1_1q11 b1_2q12 b1_3q13 b2_0q14 b2_1q15 b2_2q16 b2_3q17 b2_4q18 b2_5q19 b2_6q20 b2_7q21 b3_0q22 b3_1q23 b3_2q24 b3_3q25 b3_4q26 b3_5q27 b3_6q28 b3_7q29 b4_0q30 b4_1q31 b4_2q32 b4_3q33 b4_4q34 b4_5q35 b4_6q36 b4_7q37)))
def qdj {R : Type} := hull (qec (R := R))
theorem qhg {R : Type} : qdj (R := R) = qec := hull_eq _
def qc4 {R : Type} (KK : AV → Mem → Option R) : AC R :=
  .seq (.reg [ao 16 (.mv 1),
 ao 17 (.load true 8 9),
 .st (.sel [1, 4, 6, 7, 9, 10, 11, 12, 16, 17] [0, 1, 2, 3, 4]),
 .callr (po 18 (.callv 16 [17])) 63 qv2,
 ao 19 (.mv 18),
 ag 20 19 true (.mv 7),
 ag 21 19 true (.un .not 20),
 ag 22 19 true (.mv 21),
 ag 23 22 false (.fa 0 9),
 ag 24 22 false (.fa 3 23),
 ag 25 22 false (.load false 1 24),
 ag 26 22 false (.fa 0 6),
 ag 27 22 false (.fa 3 26),
 ag 28 22 false (.load false 1 27),
 ag 29 22 false (.bin .gtr 25 28),
 ag 30 19 true (.pick 22 (.c (.bool true)) 29),
 ao 31 (.pick 19 30 (.c (.bool false)))]) (.view [.sel [1, 4, 6, 7, 9, 10, 11, 12, 31] [0, 1, 2, 3, 4]])
theorem qmz {R : Type} (KK : AV → Mem → Option R) : AC.ok Try.prog (TIof Try.prog) 36 2 (kretr [(.cell 4 true 8), .t 5] KK) (qc4 KK) := ok_of (zA q5k trivial)
theorem qnh {R : Type} (KK : AV → Mem → Option R) (v7 : Bool) (v10 : List AV) (v11 v12 : Int) (Ai : Bool) (Aj Ak Al Am : Int) (An Ao : List UInt8) (Ap : Int) (Au : Bool) (Av Aw Ax : Int) (A2 : Bool) (A3 A4 A5 Be : Int) (Bf Bg : List UInt8) (Bh : Int) (A6 : Bool) (A7 A8 A9 Ba : Int) (Bd Bb : List UInt8) (Bc : Int) (Bi : Bool) (Bj Bl Bm Bn : Int) (Bo Bp : List UInt8) (Bq : Int) (K : Ex → Env → Mem → Option R) : den 2 (kretr [(.cell 4 true 8), .t 5] KK) (qc4 KK) (envOf [(1, (.func 63 [(.ptr 1 0)])), (4, (.ptr 2 0)), (6, (.ptr 3 0)), (7, (.bool v7)), (9, (.ptr 4 0)), (10, (.sl 8 v10)), (11, (.int .i64 v11)), (12, (.int .i64 v12))]) (memOf [(some (.box true (qc Ai Aj Ak Al Am An Ao Ap))), (some (.box true (qb Au Av Aw Ax))), (some (.box true (qc A2 A3 A4 A5 Be Bf Bg Bh))), (some (.box true (qc A6 A7 A8 A9 Ba Bd Bb Bc))), (some (.box true (qc Bi Bj Bl Bm Bn Bo Bp Bq)))]) K = qdj v7 v10 v11 v12 Ai Aj Ak Al Am An Ao Ap Au Av Aw Ax A2 A3 A4 A5 Be Bf Bg Bh A6 A7 A8 A9 Ba Bd Bb Bc Bi Bj Bl Bm Bn Bo Bp Bq (qhf v7 v10 v11 v12 K) := by
  rw [qhg]; kernel_rfl
def qhv {R : Type} (KK : AV → Mem → Option R) := subE (R := R) qmh fun t m K => qf (bxC (m.s 4)) (qf (bxC (m.s 3)) (qf (bxC (m.s 2)) (qd (bxC (m.s 1)) (qf (bxC (m.s 0)) (qdj (gB [t 7] 0) (gL [t 10] 0) (gI [t 11] 0) (gI [t 12] 0)))))) (qhf (gB [t 7] 0) (gL [t 10] 0) (gI [t 11] 0) (gI [t 12] 0) K)
theorem qni {R : Type} (KK : AV → Mem → Option R) : SubOk Try.prog (TIof Try.prog) 36 2 (kretr [(.cell 4 true 8), .t 5] KK) (scOf (qc4 KK)) (qhv KK) :=
  sub_mk tabOk follows (qmz KK) (er_of (by kernel_rfl)) fun t m K => qnh KK _ _ _ _ _ _ _ _ _ _ _ _ _ _ _ _ _ _ _ _ _ _ _ _ _ _ _ _ _ _ _ _ _ _ _ _ _ _ _ _ K
def qcu {R : Type}  (K : Ex → Env → Mem → Option R) := (fun z_v7 z_b0_0 z_b0_1 z_b0_2 z_b0_3 z_b0_4 z_b0_5 z_b0_6 z_b0_7 z_b1_0 z_b1_1 z_b1_2 z_b1_3 z_b2_0 z_b2_1 z_b2_2 z_b2_3 z_b2_4 z_b2_5 z_b2_6 z_b2_7 z_b3_0 z_b3_1 z_b3_2 z_b3_3 z_b3_4 z_b3_5 z_b3_6 z_b3_7 => K (.exit 0) (envOf [(4, (.ptr 2 0)), (6, (.ptr 3 0)), (7, (.bool z_v7))]) (memOf [(some (.box true (qc z_b0_0 z_b0_1 z_b0_2 z_b0_3 z_b0_4 z_b0_5 z_b0_6 z_b0_7))), (some (.box true (qb z_b1_0 z_b1_1 z_b1_2 z_b1_3))), (some (.box true (qc z_b2_0 z_b2_1 z_b2_2 z_b2_3 z_b2_4 z_b2_5 z_b2_6 z_b2_7))), (some (.box true (qc z_b3_0 z_b3_1 z_b3_2 z_b3_3 z_b3_4 z_b3_5 z_b3_6 z_b3_7)))]))
def qmi : Shp := ⟨[(1, .one (.fn 63 [(1, 0)])), (4, .one (.ptr 2 0)), (6, .one (.ptr 3 0)), (7, .one (.l .b)), (10, .one (.l (.sl 8))), (11, .one (.l (.i .i64))), (12, .one (.l (.i .i64)))], [.box true (lk qa), .box true (lk qe), .box true (lk qa), .box true (lk qa)]⟩
def qd7 (v7 : Bool) (v10 : List AV) (v11 v12 : Int) (Ai : Bool) (Aj Ak Al Am : Int) (An Ao : List UInt8) (Ap : Int) (Au : Bool) (Av Aw Ax : Int) (A2 : Bool) (A3 A4 A5 Be : Int) (Bf Bg : List UInt8) (Bh : Int) (A6 : Bool) (A7 A8 A9 Ba : Int) (Bd Bb : List UInt8) (Bc : Int) : Env := envOf [(1, (.func 63 [(.ptr 1 0)])), (4, (.ptr 2 0)), (6, (.ptr 3 0)), (7, (.bool v7)), (10, (.sl 8 v10)), (11, (.int .i64 v11)), (12, (.int .i64 v12))]
def qd8 (v7 : Bool) (v10 : List AV) (v11 v12 : Int) (Ai : Bool) (Aj Ak Al Am : Int) (An Ao : List UInt8) (Ap : Int) (Au : Bool) (Av Aw Ax : Int) (A2 : Bool) (A3 A4 A5 Be : Int) (Bf Bg : List UInt8) (Bh : Int) (A6 : Bool) (A7 A8 A9 Ba : Int) (Bd Bb : List UInt8) (Bc : Int) : Mem := memOf [(some (.box true (qc Ai Aj Ak Al Am An Ao Ap))), (some (.box true (qb Au Av Aw Ax))), (some (.box true (qc A2 A3 A4 A5 Be Bf Bg Bh))), (some (.box true (qc A6 A7 A8 A9 Ba Bd Bb Bc)))]
def qb2 {R : Type}  (v7 : Bool) (v10 : List AV) (v11 v12 : Int) (Ai : Bool) (Aj Ak Al Am : Int) (An Ao : List UInt8) (Ap : Int) (Au : Bool) (Av Aw Ax : Int) (A2 : Bool) (A3 A4 A5 Be : Int) (Bf Bg : List UInt8) (Bh : Int) (A6 : Bool) (A7 A8 A9 Ba : Int) (Bd Bb : List UInt8) (Bc : Int) (next : Bool → Int → Bool → Int → Int → Int → Int → (List UInt8) → (List UInt8) → Int → Bool → Int → Int → Int → Bool → Int → Int → Int → Int → (List UInt8) → (List UInt8) → Int → Bool → Int → Int → Int → Int → (List UInt8) → (List UInt8) → Int → Option R) (kx0 : Bool → Bool → Int → Int → Int → Int → (List UInt8) → (List UInt8) → Int → Bool → Int → Int → Int → Bool → Int → Int → Int → Int → (List UInt8) → (List UInt8) → Int → Bool → Int → Int → Int → Int → (List UInt8) → (List UInt8) → Int → Option R) : Option R :=
  (bif (decide (v12 < v11)) then (oB (ixB v10 v12) fun y1 => (bif fitC qa y1.cells then (qdj v7 v10 v11 v12 Ai Aj Ak Al Am An Ao Ap Au Av Aw Ax A2 A3 A4 A5 Be Bf Bg Bh A6 A7 A8 A9 Ba Bd Bb Bc (gB y1.cells 0) (gI y1.cells 1) (gI y1.cells 2) (gI y1.cells 3) (gI y1.cells 4) (gS y1.cells 5) (gS y1.cells 6) (gI y1.cells 7) (fun v31q2 b0_0q3 b0_1q4 b0_2q5 b0_3q6 b0_4q7 b0_5q8 b0_6q9 b0_7q10 b1_0q11 b1_1q12 b1_2q13 b1_3q14 b2_0q15 b2_1q16 b2_2q17 b2_3q18 b2_4q19 b2_5q20 b2_6q21 b2_7q22 b3_0q23 b3_1q24 b3_2q25 b3_3q26 b3_4q27 b3_5q28 b3_6q29 b3_7q30 b4_0q31 b4_1q32 b4_2q33 b4_3q34 b4_4q35 b4_5q36 b4_6q37 b4_7q38 => (bif v31q2 then (next true (IntKind.i64.wrap (v12 + (1 : Int))) b0_0q3 b0_1q4 b0_2q5 b0_3q6 b0_4q7 b0_5q8 b0_6q9 b0_7q10 b1_0q11 b1_1q12 b1_2q13 b1_3q14 b2_0q15 b2_1q16 b2_2q17 b2_3q18 b2_4q19 b2_5q20 b2_6q21 b2_7q22 b4_0q31 b4_1q32 b4_2q33 b4_3q34 b4_4q35 b4_5q36 b4_6q37 b4_7q38) else (next v7 (IntKind.i64.wrap (v12 + (1 : Int))) b0_0q3 b0_1q4 b0_2q5 b0_3q6 b0_4q7 b0_5q8 b0_6q9 b0_7q10 b1_0q11 b1_1q12 b1_2q13 b1_3q14 b2_0q15 b2_1q16 b2_2q17 b2_3q18 b2_4q19 b2_5q20 b2_6q21 b2_7q22 b3_0q23 b3_1q24 b3_2q25 b3_3q26 b3_4q27 b3_5q28 b3_6q29 b3_7q30)))) else none)) else (kx0 v7 Ai Aj Ak Al Am An Ao Ap Au Av Aw Ax A2 A3 A4 A5 Be Bf Bg Bh A6 A7 A8 A9 Ba Bd Bb Bc))
def qco {R : Type}  (v10 : List AV) (v11 : Int) (kx0 : Bool → Bool → Int → Int → Int → Int → (List UInt8) → (List UInt8) → Int → Bool → Int → Int → Int → Bool → Int → Int → Int → Int → (List UInt8) → (List UInt8) → Int → Bool → Int → Int → Int → Int → (List UInt8) → (List UInt8) → Int → Option R) : Nat → Bool → Int → Bool → Int → Int → Int → Int → (List UInt8) → (List UInt8) → Int → Bool → Int → Int → Int → Bool → Int → Int → Int → Int → (List UInt8) → (List UInt8) → Int → Bool → Int → Int → Int → Int → (List UInt8) → (List UInt8) → Int → Option R
  | 0 => (fun _ _ _ _ _ _ _ _ _ _ _ _ _ _ _ _ _ _ _ _ _ _ _ _ _ _ _ _ _ _ => none)
  | n + 1 => (fun v7 v12 Ai Aj Ak Al Am An Ao Ap Au Av Aw Ax A2 A3 A4 A5 Be Bf Bg Bh A6 A7 A8 A9 Ba Bd Bb Bc => qb2 v7 v10 v11 v12 Ai Aj Ak Al Am An Ao Ap Au Av Aw Ax A2 A3 A4 A5 Be Bf Bg Bh A6 A7 A8 A9 Ba Bd Bb Bc (qco v10 v11 kx0 n) kx0)
def qdk {R : Type} := hull (qco (R := R))
theorem qhh {R : Type} : qdk (R := R) = qco := hull_eq _
def qb3 {R : Type} (KK : AV → Mem → Option R) : AC R :=
  .seq (.reg [ao 13 (.bin .lss 12 11)]) (.seq (.cond 13 (.skip) (.seq (.view [.sel [4, 6, 7] [0, 1, 2, 3]]) (.exit 0))) (.seq (.block 1 (.seq (.reg [ao 14 (.ia 8 10 12),
 .st (.etac 14 qa),
 ao 15 (.load true 8 14),
 ao 9 (.alloc [(.bool false), (.int .u64 0), (.int .u64 0), (.int .i64 0), (.int .i64 0), (.str []), (.str []), (.int .i64 0)]),
 an (.store 8 9 15)]) (.seq (.seq (.view [.sel [1, 4, 6, 7, 9, 10, 11, 12] [0, 1, 2, 3, 4]]) (.sub (scOf (qc4 KK)) (qhv KK))) (.cond 31 (.reg [ao 32 (.load true 8 9),
 an (.store 8 6 32),
 ao 7 (.mv (.c (.bool true)))]) (.skip))))) (.seq (.reg [ao 33 (.bin .add 12 (.c (.int .i64 1))),
 ao 12 (.mv 33)]) (.view [.sel [1, 4, 6, 7, 10, 11, 12] [0, 1, 2, 3]]))))
theorem qm0 {R : Type} (KK : AV → Mem → Option R) : AC.ok Try.prog (TIof Try.prog) 36 2 (kretr [(.cell 4 true 8), .t 5] KK) (qb3 KK) := ok_of (zA (qni KK) trivial)
theorem qmj {R : Type} (KK : AV → Mem → Option R) (v7 : Bool) (v10 : List AV) (v11 v12 : Int) (Ai : Bool) (Aj Ak Al Am : Int) (An Ao : List UInt8) (Ap : Int) (Au : Bool) (Av Aw Ax : Int) (A2 : Bool) (A3 A4 A5 Be : Int) (Bf Bg : List UInt8) (Bh : Int) (A6 : Bool) (A7 A8 A9 Ba : Int) (Bd Bb : List UInt8) (Bc : Int) (K : Ex → Env → Mem → Option R) : den 2 (kretr [(.cell 4 true 8), .t 5] KK) (qb3 KK) (qd7 v7 v10 v11 v12 Ai Aj Ak Al Am An Ao Ap Au Av Aw Ax A2 A3 A4 A5 Be Bf Bg Bh A6 A7 A8 A9 Ba Bd Bb Bc) (qd8 v7 v10 v11 v12 Ai Aj Ak Al Am An Ao Ap Au Av Aw Ax A2 A3 A4 A5 Be Bf Bg Bh A6 A7 A8 A9 Ba Bd Bb Bc) K = qb2 v7 v10 v11 v12 Ai Aj Ak Al Am An Ao Ap Au Av Aw Ax A2 A3 A4 A5 Be Bf Bg Bh A6 A7 A8 A9 Ba Bd Bb Bc (fun z_v7 z_v12 z_b0_0 z_b0_1 z_b0_2 z_b0_3 z_b0_4 z_b0_5 z_b0_6 z_b0_7 z_b1_0 z_b1_1 z_b1_2 z_b1_3 z_b2_0 z_b2_1 z_b2_2 z_b2_3 z_b2_4 z_b2_5 z_b2_6 z_b2_7 z_b3_0 z_b3_1 z_b3_2 z_b3_3 z_b3_4 z_b3_5 z_b3_6 z_b3_7 => K .norm (qd7 z_v7 v10 v11 z_v12 z_b0_0 z_b0_1 z_b0_2 z_b0_3 z_b0_4 z_b0_5 z_b0_6 z_b0_7 z_b1_0 z_b1_1 z_b1_2 z_b1_3 z_b2_0 z_b2_1 z_b2_2 z_b2_3 z_b2_4 z_b2_5 z_b2_6 z_b2_7 z_b3_0 z_b3_1 z_b3_2 z_b3_3 z_b3_4 z_b3_5 z_b3_6 z_b3_7) (qd8 z_v7 v10 v11 z_v12 z_b0_0 z_b0_1 z_b0_2 z_b0_3 z_b0_4 z_b0_5 z_b0_6 z_b0_7 z_b1_0 z_b1_1 z_b1_2 z_b1_3 z_b2_0 z_b2_1 z_b2_2 z_b2_3 z_b2_4 z_b2_5 z_b2_6 z_b2_7 z_b3_0 z_b3_1 z_b3_2 z_b3_3 z_b3_4 z_b3_5 z_b3_6 z_b3_7)) (qcu K) := by kernel_rfl
theorem qnj {R : Type} (KK : AV → Mem → Option R) (v10 : List AV) (v11 : Int) (K : Ex → Env → Mem → Option R) : ∀ (n : Nat) (v7 : Bool) (v12 : Int) (Ai : Bool) (Aj Ak Al Am : Int) (An Ao : List UInt8) (Ap : Int) (Au : Bool) (Av Aw Ax : Int) (A2 : Bool) (A3 A4 A5 Be : Int) (Bf Bg : List UInt8) (Bh : Int) (A6 : Bool) (A7 A8 A9 Ba : Int) (Bd Bb : List UInt8) (Bc : Int), iterD (den 2 (kretr [(.cell 4 true 8), .t 5] KK) (qb3 KK)) n (qd7 v7 v10 v11 v12 Ai Aj Ak Al Am An Ao Ap Au Av Aw Ax A2 A3 A4 A5 Be Bf Bg Bh A6 A7 A8 A9 Ba Bd Bb Bc) (qd8 v7 v10 v11 v12 Ai Aj Ak Al Am An Ao Ap Au Av Aw Ax A2 A3 A4 A5 Be Bf Bg Bh A6 A7 A8 A9 Ba Bd Bb Bc) K = qdk v10 v11 (qcu K) n v7 v12 Ai Aj Ak Al Am An Ao Ap Au Av Aw Ax A2 A3 A4 A5 Be Bf Bg Bh A6 A7 A8 A9 Ba Bd Bb Bc := by
  rw [qhh]
  intro n
  induction n with
  | zero => intros; rfl
  | succ n ih =>
 intro v7 v12 Ai Aj Ak Al Am An Ao Ap Au Av Aw Ax A2 A3 A4 A5 Be Bf Bg Bh A6 A7 A8 A9 Ba Bd Bb Bc
 exact (qmj KK v7 v10 v11 v12 Ai Aj Ak Al Am An Ao Ap Au Av Aw Ax A2 A3 A4 A5 Be Bf Bg Bh A6 A7 A8 A9 Ba Bd Bb Bc (itK (den 2 (kretr [(.cell 4 true 8), .t 5] KK) (qb3 KK)) n K)).trans (congrArg (fun q => qb2 v7 v10 v11 v12 Ai Aj Ak Al Am An Ao Ap Au Av Aw Ax A2 A3 A4 A5 Be Bf Bg Bh A6 A7 A8 A9 Ba Bd Bb Bc q (qcu K)) (funext fun v7 => funext fun v12 => funext fun Ai => funext fun Aj => funext fun Ak => funext fun Al => funext fun Am => funext fun An => funext fun Ao => funext fun Ap => funext fun Au => funext fun Av => funext fun Aw => funext fun Ax => funext fun A2 => funext fun A3 => funext fun A4 => funext fun A5 => funext fun Be => funext fun Bf => funext fun Bg => funext fun Bh => funext fun A6 => funext fun A7 => funext fun A8 => funext fun A9 => funext fun Ba => funext fun Bd => funext fun Bb => funext fun Bc => ih v7 v12 Ai Aj Ak Al Am An Ao Ap Au Av Aw Ax A2 A3 A4 A5 Be Bf Bg Bh A6 A7 A8 A9 Ba Bd Bb Bc))
def qhw {R : Type} (KK : AV → Mem → Option R) := subE (R := R) qmi fun t m K => qf (bxC (m.s 3)) (qf (bxC (m.s 2)) (qd (bxC (m.s 1)) (qf (bxC (m.s 0)) (qdk (gL [t 10] 0) (gI [t 11] 0) (qcu K) FU (gB [t 7] 0) (gI [t 12] 0)))))
theorem qnk {R : Type} (KK : AV → Mem → Option R) : SubOk Try.prog (TIof Try.prog) 36 2 (kretr [(.cell 4 true 8), .t 5] KK) (.loop (scOf (qb3 KK))) (qhw KK) :=
  loop_mk tabOk follows (qm0 KK) (er_of (by kernel_rfl)) fun t m K => qnj KK _ _ K FU _ _ _ _ _ _ _ _ _ _ _ _ _ _ _ _ _ _ _ _ _ _ _ _ _ _ _ _ _ _
def qon : Shp := ⟨[(0, .one (.l (.sl 8))), (1, .one (.fn 63 [(1, 0)]))], [.box true (lk qa), .box true (lk qe)]⟩
def qi3 {R : Type} (KK : AV → Mem → Option R) := (fun v5 Ai Aj Ak Al Am An Ao Ap Au Av Aw Ax A2 A3 A4 A5 Be Bf Bg Bh => KK (.tup [(.agg [(.bool A2), (.int .u64 A3), (.int .u64 A4), (.int .i64 A5), (.int .i64 Be), (.str Bf), (.str Bg), (.int .i64 Bh)]), (.bool v5)]) (memOf [(some (.box true [(.bool Ai), (.int .u64 Aj), (.int .u64 Ak), (.int .i64 Al), (.int .i64 Am), (.str An), (.str Ao), (.int .i64 Ap)])), (some (.box true [(.bool Au), (.int .u64 Av), (.int .u64 Aw), (.int .i64 Ax)])), (some (.box true [(.bool A2), (.int .u64 A3), (.int .u64 A4), (.int .i64 A5), (.int .i64 Be), (.str Bf), (.str Bg), (.int .i64 Bh)]))]))
def qe1 {R : Type}  (v0 : List AV) (Ai : Bool) (Aj Ak Al Am : Int) (An Ao : List UInt8) (Ap : Int) (Au : Bool) (Av Aw Ax : Int) (kr : Bool → Bool → Int → Int → Int → Int → (List UInt8) → (List UInt8) → Int → Bool → Int → Int → Int → Bool → Int → Int → Int → Int → (List UInt8) → (List UInt8) → Int → Option R) : Option R :=
  (qdk v0 (v0.length : Int) (fun v7q1 b0_0q2 b0_1q3 b0_2q4 b0_3q5 b0_4q6 b0_5q7 b0_6q8 b0_7q9 b1_0q10 b1_1q11 b1_2q12 b1_3q13 b2_0q14 b2_1q15 b2_2q16 b2_3q17 b2_4q18 b2_5q19 b2_6q20 b2_7q21 b3_0q22 b3_1q23 b3_2q24 b3_3q25 b3_4q26 b3_5q27 b3_6q28 b3_7q29 => (kr v7q1 b0_0q2 b0_1q3 b0_2q4 b0_3q5 b0_4q6 b0_5q7 b0_6q8 b0_7q9 b1_0q10 b1_1q11 b1_2q12 b1_3q13 b3_0q22 b3_1q23 b3_2q24 b3_3q25 b3_4q26 b3_5q27 b3_6q28 b3_7q29)) FU false (0 : Int) Ai Aj Ak Al Am An Ao Ap Au Av Aw Ax false (0 : Int) (0 : Int) (0 : Int) (0 : Int) ([] : List UInt8) ([] : List UInt8) (0 : Int) false (0 : Int) (0 : Int) (0 : Int) (0 : Int) ([] : List UInt8) ([] : List UInt8) (0 : Int))
def qd3 {R : Type} := hull (qe1 (R := R))
theorem qi4 {R : Type} : qd3 (R := R) = qe1 := hull_eq _
def qcl {R : Type} (KK : AV → Mem → Option R) : AC R :=
  .seq (.reg [ao 4 (.alloc [(.bool false), (.int .u64 0), (.int .u64 0), (.int .i64 0), (.int .i64 0), (.str []), (.str []), (.int .i64 0)]),
 ao 5 (.mv (.c (.bool false)))]) (.seq (.reg [ao 6 (.alloc [(.bool false), (.int .u64 0), (.int .u64 0), (.int .i64 0), (.int .i64 0), (.str []), (.str []), (.int .i64 0)])]) (.seq (.reg [ao 7 (.mv (.c (.bool false)))]) (.seq (.seq (.reg [ao 10 (.mv 0),
 ao 11 (.len false 10),
 ao 12 (.mv (.c (.int .i64 0)))]) (.block 0 (.seq (.view [.sel [1, 4, 6, 7, 10, 11, 12] [0, 1, 2, 3]]) (.sub (.loop (scOf (qb3 KK))) (qhw KK))))) (.seq (.reg [ao 34 (.load true 8 6),
 ao 35 (.mv 7),
 an (.store 8 4 34),
 ao 5 (.mv 35)]) (.seq (.view [.sel [4, 5] [0, 1, 2]]) (.ret))))))
theorem qo8 {R : Type} (KK : AV → Mem → Option R) : AC.ok Try.prog (TIof Try.prog) 36 2 (kretr [(.cell 4 true 8), .t 5] KK) (qcl KK) := ok_of (zA (qnk KK) trivial)
theorem qpl {R : Type} (KK : AV → Mem → Option R) (v0 : List AV) (Ai : Bool) (Aj Ak Al Am : Int) (An Ao : List UInt8) (Ap : Int) (Au : Bool) (Av Aw Ax : Int) : den 2 (kretr [(.cell 4 true 8), .t 5] KK) (qcl KK) (envOf [(0, (.sl 8 v0)), (1, (.func 63 [(.ptr 1 0)]))]) (memOf [(some (.box true (qc Ai Aj Ak Al Am An Ao Ap))), (some (.box true (qb Au Av Aw Ax)))]) (kend (kretr [(.cell 4 true 8), .t 5] KK)) = qd3 v0 Ai Aj Ak Al Am An Ao Ap Au Av Aw Ax (qi3 KK) := by
  rw [qi4]; kernel_rfl
theorem qpm : cFn (TIof Try.prog) Try.f62 = some ⟨36, [(.cell 4 true 8), .t 5], scOf (qcl (R := Unit) (fun _ _ => none))⟩ := by kernel_rfl
theorem qpn {R : Type} (KK : AV → Mem → Option R) : (qcl KK).er = some (scOf (qcl (R := Unit) (fun _ _ => none))) := by kernel_rfl
def qjh {R : Type} : List AV → Mem → (AV → Mem → Option R) → Option R := refE qon fun xs m KK => qd (bxC (m.s 1)) (qf (bxC (m.s 0)) (qd3 (gL [(entry xs) 0] 0))) (qi3 KK)
theorem qpo {R : Type} : RefOk Try.prog 62 (qjh (R := R)) :=
  ref_mk (ac := fun KK => qcl KK) tabOk follows Try.func62 (by kernel_rfl) qpm (fun KK => qo8 KK) (fun KK => qpn KK) rfl fun xs m KK => qpl KK _ _ _ _ _ _ _ _ _ _ _ _ _
def qo9 (z : AV) : Option (AV × Bool) := cond (fitTup [(.st [.b, (.i .u64), (.i .u64), (.i .i64), (.i .i64), .s, .s, (.i .i64)]), (.one .b)] z) (some ((gC (tpL z) 0), aB (gC (tpL z) 1))) none
def q5l (r : AV × Bool) : AV := .tup [etaRV (.st [.b, (.i .u64), (.i .u64), (.i .i64), (.i .i64), .s, .s, (.i .i64)]) r.1, .bool r.2]
def q5m : Shp := ⟨[(0, .one (.l (.sl 8))), (1, .st (lk qe))], []⟩
def qsb (v0 : List AV) (Aq : Bool) (Ar As At : Int) : Option (AV × Bool) :=
  (qd3 v0 false (0 : Int) (0 : Int) (0 : Int) (0 : Int) ([] : List UInt8) ([] : List UInt8) (0 : Int) Aq Ar As At fun v5q1 b0_0q2 b0_1q3 b0_2q4 b0_3q5 b0_4q6 b0_5q7 b0_6q8 b0_7q9 b1_0q10 b1_1q11 b1_2q12 b1_3q13 b2_0q14 b2_1q15 b2_2q16 b2_3q17 b2_4q18 b2_5q19 b2_6q20 b2_7q21 => (some ((.agg [(.bool b2_0q14), (.int .u64 b2_1q15), (.int .u64 b2_2q16), (.int .i64 b2_3q17), (.int .i64 b2_4q18), (.str b2_5q19), (.str b2_6q20), (.int .i64 b2_7q21)]), v5q1)))
def qj8 := hull qsb
theorem qxa : qj8 = qsb := hull_eq _
def qsc : AC (AV × Bool) :=
  .seq (.reg [ao 3 (.box 1),
 ao 4 (.alloc [(.bool false), (.int .u64 0), (.int .u64 0), (.int .i64 0), (.int .i64 0), (.str []), (.str []), (.int .i64 0)]),
 ao 5 (.mv (.c (.bool false)))]) (.seq (.reg [ao 6 (.mv 0),
 ao 7 (.mkf 63 [3]),
 .st (.sel [4, 6, 7] [1, 0]),
 .callr (po 8 (.call 62 [6, 7])) 62 qjh,
 ao 9 (.ext 8 0),
 ao 10 (.ext 8 1),
 an (.store 8 4 9),
 ao 5 (.mv 10)]) (.ret))
theorem q7p : AC.ok Try.prog (TIof Try.prog) 11 0 (kret [(.cell 4 true 8), .t 5] qo9) qsc := ok_of (zA qpo trivial)
theorem q9g (v0 : List AV) (Aq : Bool) (Ar As At : Int) : den 0 (kret [(.cell 4 true 8), .t 5] qo9) qsc (envOf [(0, (.sl 8 v0)), (1, .agg (qb Aq Ar As At))]) (memOf []) (kend (kret [(.cell 4 true 8), .t 5] qo9)) = qj8 v0 Aq Ar As At := by
  rw [qxa]; kernel_rfl
theorem q9h : cFn (TIof Try.prog) Try.f26 = some ⟨11, [(.cell 4 true 8), .t 5], scOf qsc⟩ := by kernel_rfl
def q9i (xs : List AV) : Option (AV × Bool) := qd ((entry xs) 1).cells (qj8 (gL [(entry xs) 0] 0))
def qv3 {R : Type} : List AV → (AV → Option R) → Option R := entF q5m q9i q5l
theorem q9j {R : Type} : EntOkB Try.prog 26 (qv3 (R := R)) :=
  ent_mk tabOk follows Try.func26 (by kernel_rfl) q9h (fun z r h => by
 obtain ⟨h1, h2⟩ := cond_some h
 cases h2
 exact (fitTup_eq h1).symm) q7p (er_of (by kernel_rfl)) fun xs => q9g _ _ _ _ _
def q13 : Shp := ⟨[(0, .st (lk qa)), (1, .one (.ptr 1 0))], [.box true (lk qa), .box true (lk qcs), .box true (lk qa), .box true (lk qa), .box true (lk qa)]⟩
def qul {R : Type} (KK : AV → Mem → Option R) := (fun v3 Ai Aj Ak Al Am An Ao Ap Au Av Aw A2 A3 A4 A5 Be Bf Bg Bh A6 A7 A8 A9 Ba Bd Bb Bc Bi Bj Bl Bm Bn Bo Bp Bq => KK (.bool v3) (memOf [(some (.box true [(.bool Ai), (.int .u64 Aj), (.int .u64 Ak), (.int .i64 Al), (.int .i64 Am), (.str An), (.str Ao), (.int .i64 Ap)])), (some (.box true [(.bool Au), (.int .u64 Av), (.int .u64 Aw)])), (some (.box true [(.bool A2), (.int .u64 A3), (.int .u64 A4), (.int .i64 A5), (.int .i64 Be), (.str Bf), (.str Bg), (.int .i64 Bh)])), (some (.box true [(.bool A6), (.int .u64 A7), (.int .u64 A8), (.int .i64 A9), (.int .i64 Ba), (.str Bd), (.str Bb), (.int .i64 Bc)])), (some (.box true [(.bool Bi), (.int .u64 Bj), (.int .u64 Bl), (.int .i64 Bm), (.int .i64 Bn), (.str Bo), (.str Bp), (.int .i64 Bq)]))]))
def qpa {R : Type}  (Aa : Bool) (Ab Ac Ad Ae : Int) (Af Ag : List UInt8) (Ah : Int) (Ai : Bool) (Aj Ak Al Am : Int) (An Ao : List UInt8) (Ap : Int) (Au : Bool) (Av Aw : Int) (A2 : Bool) (A3 A4 A5 Be : Int) (Bf Bg : List UInt8) (Bh : Int) (A6 : Bool) (A7 A8 A9 Ba : Int) (Bd Bb : List UInt8) (Bc : Int) (Bi : Bool) (Bj Bl Bm Bn : Int) (Bo Bp : List UInt8) (Bq : Int) (kr : Bool → Bool → Int → Int → Int → Int → (List UInt8) → (List UInt8) → Int → Bool → Int → Int → Bool → Int → Int → Int → Int → (List UInt8) → (List UInt8) → Int → Bool → Int → Int → Int → Int → (List UInt8) → (List UInt8) → Int → Bool → Int → Int → Int → Int → (List UInt8) → (List UInt8) → Int → Option R) : Option R :=
  (oB (qil Aa Ab Ac Ad Au Av Aw) fun r1 => (kr r1 Ai Aj Ak Al Am An Ao Ap Au Av Aw A2 A3 A4 A5 Be Bf Bg Bh A6 A7 A8 A9 Ba Bd Bb Bc Bi Bj Bl Bm Bn Bo Bp Bq))
def qng {R : Type} := hull (qpa (R := R))
theorem qum {R : Type} : qng (R := R) = qpa := hull_eq _
def qgk {R : Type} (KK : AV → Mem → Option R) : AC R :=
  .seq (.reg [ao 2 (.box 0),
 ao 3 (.mv (.c (.bool false)))]) (.seq (.reg [ao 4 (.fa 0 2),
 ao 5 (.load true 4 4),
 ao 6 (.load true 3 1),
 .call (po 7 (.call 35 [5, 6])) 35 qmq,
 ao 3 (.mv 7)]) (.seq (.view [.sel [3] [0, 1, 2, 3, 4]]) (.ret)))
theorem q3t {R : Type} (KK : AV → Mem → Option R) : AC.ok Try.prog (TIof Try.prog) 8 5 (kretr [.t 3] KK) (qgk KK) := ok_of (zA (EntOkB.ok qvh) trivial)
theorem q5n {R : Type} (KK : AV → Mem → Option R) (Aa : Bool) (Ab Ac Ad Ae : Int) (Af Ag : List UInt8) (Ah : Int) (Ai : Bool) (Aj Ak Al Am : Int) (An Ao : List UInt8) (Ap : Int) (Au : Bool) (Av Aw : Int) (A2 : Bool) (A3 A4 A5 Be : Int) (Bf Bg : List UInt8) (Bh : Int) (A6 : Bool) (A7 A8 A9 Ba : Int) (Bd Bb : List UInt8) (Bc : Int) (Bi : Bool) (Bj Bl Bm Bn : Int) (Bo Bp : List UInt8) (Bq : Int) : den 5 (kretr [.t 3] KK) (qgk KK) (envOf [(0, .agg (qc Aa Ab Ac Ad Ae Af Ag Ah)), (1, (.ptr 1 0))]) (memOf [(some (.box true (qc Ai Aj Ak Al Am An Ao Ap))), (some (.box true (qba Au Av Aw))), (some (.box true (qc A2 A3 A4 A5 Be Bf Bg Bh))), (some (.box true (qc A6 A7 A8 A9 Ba Bd Bb Bc))), (some (.box true (qc Bi Bj Bl Bm Bn Bo Bp Bq)))]) (kend (kretr [.t 3] KK)) = qng Aa Ab Ac Ad Ae Af Ag Ah Ai Aj Ak Al Am An Ao Ap Au Av Aw A2 A3 A4 A5 Be Bf Bg Bh A6 A7 A8 A9 Ba Bd Bb Bc Bi Bj Bl Bm Bn Bo Bp Bq (qul KK) := by
  rw [qum]; kernel_rfl
theorem q5o : cFn (TIof Try.prog) Try.f65 = some ⟨8, [.t 3], scOf (qgk (R := Unit) (fun _ _ => none))⟩ := by kernel_rfl
theorem q5p {R : Type} (KK : AV → Mem → Option R) : (qgk KK).er = some (scOf (qgk (R := Unit) (fun _ _ => none))) := by kernel_rfl
def qv4 {R : Type} : List AV → Mem → (AV → Mem → Option R) → Option R := refE q13 fun xs m KK => qf (bxC (m.s 4)) (qf (bxC (m.s 3)) (qf (bxC (m.s 2)) (qb0 (bxC (m.s 1)) (qf (bxC (m.s 0)) (qf ((entry xs) 0).cells (qng)))))) (qul KK)
theorem q5q {R : Type} : RefOk Try.prog 65 (qv4 (R := R)) :=
  ref_mk (ac := fun KK => qgk KK) tabOk follows Try.func65 (by kernel_rfl) q5o (fun KK => q3t KK) (fun KK => q5p KK) rfl fun xs m KK => q5n KK _ _ _ _ _ _ _ _ _ _ _ _ _ _ _ _ _ _ _ _ _ _ _ _ _ _ _ _ _ _ _ _ _ _ _ _ _ _ _ _ _ _ _
def qhi {R : Type}  (v7 : Bool) (v10 : List AV) (v11 v12 : Int) (K : Ex → Env → Mem → Option R) := (fun z_v31 z_b0_0 z_b0_1 z_b0_2 z_b0_3 z_b0_4 z_b0_5 z_b0_6 z_b0_7 z_b1_0 z_b1_1 z_b1_2 z_b2_0 z_b2_1 z_b2_2 z_b2_3 z_b2_4 z_b2_5 z_b2_6 z_b2_7 z_b3_0 z_b3_1 z_b3_2 z_b3_3 z_b3_4 z_b3_5 z_b3_6 z_b3_7 z_b4_0 z_b4_1 z_b4_2 z_b4_3 z_b4_4 z_b4_5 z_b4_6 z_b4_7 => K .norm (envOf [(1, (.func 65 [(.ptr 1 0)])), (4, (.ptr 2 0)), (6, (.ptr 3 0)), (7, (.bool v7)), (9, (.ptr 4 0)), (10, (.sl 8 v10)), (11, (.int .i64 v11)), (12, (.int .i64 v12)), (31, (.bool z_v31))]) (memOf [(some (.box true (qc z_b0_0 z_b0_1 z_b0_2 z_b0_3 z_b0_4 z_b0_5 z_b0_6 z_b0_7))), (some (.box true (qba z_b1_0 z_b1_1 z_b1_2))), (some (.box true (qc z_b2_0 z_b2_1 z_b2_2 z_b2_3 z_b2_4 z_b2_5 z_b2_6 z_b2_7))), (some (.box true (qc z_b3_0 z_b3_1 z_b3_2 z_b3_3 z_b3_4 z_b3_5 z_b3_6 z_b3_7))), (some (.box true (qc z_b4_0 z_b4_1 z_b4_2 z_b4_3 z_b4_4 z_b4_5 z_b4_6 z_b4_7)))]))
def qmk : Shp := ⟨[(1, .one (.fn 65 [(1, 0)])), (4, .one (.ptr 2 0)), (6, .one (.ptr 3 0)), (7, .one (.l .b)), (9, .one (.ptr 4 0)), (10, .one (.l (.sl 8))), (11, .one (.l (.i .i64))), (12, .one (.l (.i .i64)))], [.box true (lk qa), .box true (lk qcs), .box true (lk qa), .box true (lk qa), .box true (lk qa)]⟩
def qed {R : Type}  (v7 : Bool) (v10 : List AV) (v11 v12 : Int) (Ai : Bool) (Aj Ak Al Am : Int) (An Ao : List UInt8) (Ap : Int) (Au : Bool) (Av Aw : Int) (A2 : Bool) (A3 A4 A5 Be : Int) (Bf Bg : List UInt8) (Bh : Int) (A6 : Bool) (A7 A8 A9 Ba : Int) (Bd Bb : List UInt8) (Bc : Int) (Bi : Bool) (Bj Bl Bm Bn : Int) (Bo Bp : List UInt8) (Bq : Int) (kn : Bool → Bool → Int → Int → Int → Int → (List UInt8) → (List UInt8) → Int → Bool → Int → Int → Bool → Int → Int → Int → Int → (List UInt8) → (List UInt8) → Int → Bool → Int → Int → Int → Int → (List UInt8) → (List UInt8) → Int → Bool → Int → Int → Int → Int → (List UInt8) → (List UInt8) → Int → Option R) : Option R :=
  (qng Bi Bj Bl Bm Bn Bo Bp Bq Ai Aj Ak Al Am An Ao Ap Au Av Aw A2 A3 A4 A5 Be Bf Bg Bh A6 A7 A8 A9 Ba Bd Bb Bc Bi Bj Bl Bm Bn Bo Bp Bq fun v3q1 b0_0q2 b0_1q3 b0_2q4 b0_3q5 b0_4q6 b0_5q7 b0_6q8 b0_7q9 b1_0q10 b1_1q11 b1_2q12 b2_0q13 b2_1q14 b2_2q15 b2_3q16 b2_4q17 b2_5q18 b2_6q19 b2_7q20 b3_0q21 b3_1q22 b3_2q23 b3_3q24 b3_4q25 b3_5q26 b3_6q27 b3_7q28 b4_0q29 b4_1q30 b4_2q31 b4_3q32 b4_4q33 b4_5q34 b4_6q35 b4_7q36 => (bif v3q1 then (bif (!v7) then (kn true b0_0q2 b0_1q3 b0_2q4 b0_3q5 b0_4q6 b0_5q7 b0_6q8 b0_7q9 b1_0q10 b1_1q11 b1_2q12 b2_0q13 b2_1q14 b2_2q15 b2_3q16 b2_4q17 b2_5q18 b2_6q19 b2_7q20 b3_0q21 b3_1q22 b3_2q23 b3_3q24 b3_4q25 b3_5q26 b3_6q27 b3_7q28 b4_0q29 b4_1q30 b4_2q31 b4_3q32 b4_4q33 b4_5q34 b4_6q35 b4_7q36) else (kn (decide (b4_3q32 > b3_3q24)) b0_0q2 b0_1q3 b0_2q4 b0_3q5 b0_4q6 b0_5q7 b0_6q8 b0_7q9 b1_0q10 b1_1q11 b1_2q12 b2_0q13 b2_1q14 b2_2q15 b2_3q16 b2_4q17 b2_5q18 b2_6q19 b2_7q20 b3_0q21 b3_1q22 b3_2q23 b3_3q24 b3_4q25 b3_5q26 b3_6q27 b3_7q28 b4_0q29 b4_1q30 b4_2q31 b4_3q32 b4_4q33 b4_5q34 b4_6q35 b4_7q36)) else (kn false b0_0q2 b0_1q3 b0_2q4 b0_3q5 b0_4q6 b0_5q7 b0_6q8 b0_7q9 b1_0q10 b1_1q11 b1_2q12 b2_0q13 b2_1q14 b2_2q15 b2_3q16 b2_4q17 b2_5q18 b2_6q19 b2_7q20 b3_0q21 b3_1q22 b3_2q23 b3_3q24 b3_4q25 b3_5q26 b3_6q27 b3_7q28 b4_0q29 b4_1q30 b4_2q31 b4_3q32 b4_4q33 b4_5q34 b4_6q35 b4_7q36)))
def qdl {R : Type} := hull (qed (R := R))
theorem qhj {R : Type} : qdl (R := R) = qed := hull_eq _
def qc5 {R : Type} (KK : AV → Mem → Option R) : AC R :=
  .seq (.reg [ao 16 (.mv 1),
 ao 17 (.load true 8 9),
 .st (.sel [1, 4, 6, 7, 9, 10, 11, 12, 16, 17] [0, 1, 2, 3, 4]),
 .callr (po 18 (.callv 16 [17])) 65 qv4,
 ao 19 (.mv 18),
 ag 20 19 true (.mv 7),
 ag 21 19 true (.un .not 20),
 ag 22 19 true (.mv 21),
 ag 23 22 false (.fa 0 9),
 ag 24 22 false (.fa 3 23),
 ag 25 22 false (.load false 1 24),
 ag 26 22 false (.fa 0 6),
 ag 27 22 false (.fa 3 26),
 ag 28 22 false (.load false 1 27),
 ag 29 22 false (.bin .gtr 25 28),
 ag 30 19 true (.pick 22 (.c (.bool true)) 29),
 ao 31 (.pick 19 30 (.c (.bool false)))]) (.view [.sel [1, 4, 6, 7, 9, 10, 11, 12, 31] [0, 1, 2, 3, 4]])
theorem qm1 {R : Type} (KK : AV → Mem → Option R) : AC.ok Try.prog (TIof Try.prog) 36 2 (kretr [(.cell 4 true 8), .t 5] KK) (qc5 KK) := ok_of (zA q5q trivial)
theorem qnl {R : Type} (KK : AV → Mem → Option R) (v7 : Bool) (v10 : List AV) (v11 v12 : Int) (Ai : Bool) (Aj Ak Al Am : Int) (An Ao : List UInt8) (Ap : Int) (Au : Bool) (Av Aw : Int) (A2 : Bool) (A3 A4 A5 Be : Int) (Bf Bg : List UInt8) (Bh : Int) (A6 : Bool) (A7 A8 A9 Ba : Int) (Bd Bb : List UInt8) (Bc : Int) (Bi : Bool) (Bj Bl Bm Bn : Int) (Bo Bp : List UInt8) (Bq : Int) (K : Ex → Env → Mem → Option R) : den 2 (kretr [(.cell 4 true 8), .t 5] KK) (qc5 KK) (envOf [(1, (.func 65 [(.ptr 1 0)])), (4, (.ptr 2 0)), (6, (.ptr 3 0)), (7, (.bool v7)), (9, (.ptr 4 0)), (10, (.sl 8 v10)), (11, (.int .i64 v11)), (12, (.int .i64 v12))]) (memOf [(some (.box true (qc Ai Aj Ak Al Am An Ao Ap))), (some (.box true (qba Au Av Aw))), (some (.box true (qc A2 A3 A4 A5 Be Bf Bg Bh))), (some (.box true (qc A6 A7 A8 A9 Ba Bd Bb Bc))), (some (.box true (qc Bi Bj Bl Bm Bn Bo Bp Bq)))]) K = qdl v7 v10 v11 v12 Ai Aj Ak Al Am An Ao Ap Au Av Aw A2 A3 A4 A5 Be Bf Bg Bh A6 A7 A8 A9 Ba Bd Bb Bc Bi Bj Bl Bm Bn Bo Bp Bq (qhi v7 v10 v11 v12 K) := by
  rw [qhj]; kernel_rfl
def qhx {R : Type} (KK : AV → Mem → Option R) := subE (R := R) qmk fun t m K => qf (bxC (m.s 4)) (qf (bxC (m.s 3)) (qf (bxC (m.s 2)) (qb0 (bxC (m.s 1)) (qf (bxC (m.s 0)) (qdl (gB [t 7] 0) (gL [t 10] 0) (gI [t 11] 0) (gI [t 12] 0)))))) (qhi (gB [t 7] 0) (gL [t 10] 0) (gI [t 11] 0) (gI [t 12] 0) K)
theorem qnm {R : Type} (KK : AV → Mem → Option R) : SubOk Try.prog (TIof Try.prog) 36 2 (kretr [(.cell 4 true 8), .t 5] KK) (scOf (qc5 KK)) (qhx KK) :=
  sub_mk tabOk follows (qm1 KK) (er_of (by kernel_rfl)) fun t m K => qnl KK _ _ _ _ _ _ _ _ _ _ _ _ _ _ _ _ _ _ _ _ _ _ _ _ _ _ _ _ _ _ _ _ _ _ _ _ _ _ _ K
def qcv {R : Type}  (K : Ex → Env → Mem → Option R) := (fun z_v7 z_b0_0 z_b0_1 z_b0_2 z_b0_3 z_b0_4 z_b0_5 z_b0_6 z_b0_7 z_b1_0 z_b1_1 z_b1_2 z_b2_0 z_b2_1 z_b2_2 z_b2_3 z_b2_4 z_b2_5 z_b2_6 z_b2_7 z_b3_0 z_b3_1 z_b3_2 z_b3_3 z_b3_4 z_b3_5 z_b3_6 z_b3_7 => K (.exit 0) (envOf [(4, (.ptr 2 0)), (6, (.ptr 3 0)), (7, (.bool z_v7))]) (memOf [(some (.box true (qc z_b0_0 z_b0_1 z_b0_2 z_b0_3 z_b0_4 z_b0_5 z_b0_6 z_b0_7))), (some (.box true (qba z_b1_0 z_b1_1 z_b1_2))), (some (.box true (qc z_b2_0 z_b2_1 z_b2_2 z_b2_3 z_b2_4 z_b2_5 z_b2_6 z_b2_7))), (some (.box true (qc z_b3_0 z_b3_1 z_b3_2 z_b3_3 z_b3_4 z_b3_5 z_b3_6 z_b3_7)))]))
def qml : Shp := ⟨[(1, .one (.fn 65 [(1, 0)])), (4, .one (.ptr 2 0)), (6, .one (.ptr 3 0)), (7, .one (.l .b)), (10, .one (.l (.sl 8))), (11, .one (.l (.i .i64))), (12, .one (.l (.i .i64)))], [.box true (lk qa), .box true (lk qcs), .box true (lk qa), .box true (lk qa)]⟩
def qd9 (v7 : Bool) (v10 : List AV) (v11 v12 : Int) (Ai : Bool) (Aj Ak Al Am : Int) (An Ao : List UInt8) (Ap : Int) (Au : Bool) (Av Aw : Int) (A2 : Bool) (A3 A4 A5 Be : Int) (Bf Bg : List UInt8) (Bh : Int) (A6 : Bool) (A7 A8 A9 Ba : Int) (Bd Bb : List UInt8) (Bc : Int) : Env := envOf [(1, (.func 65 [(.ptr 1 0)])), (4, (.ptr 2 0)), (6, (.ptr 3 0)), (7, (.bool v7)), (10, (.sl 8 v10)), (11, (.int .i64 v11)), (12, (.int .i64 v12))]
def qea (v7 : Bool) (v10 : List AV) (v11 v12 : Int) (Ai : Bool) (Aj Ak Al Am : Int) (An Ao : List UInt8) (Ap : Int) (Au : Bool) (Av Aw : Int) (A2 : Bool) (A3 A4 A5 Be : Int) (Bf Bg : List UInt8) (Bh : Int) (A6 : Bool) (A7 A8 A9 Ba : Int) (Bd Bb : List UInt8) (Bc : Int) : Mem := memOf [(some (.box true (qc Ai Aj Ak Al Am An Ao Ap))), (some (.box true (qba Au Av Aw))), (some (.box true (qc A2 A3 A4 A5 Be Bf Bg Bh))), (some (.box true (qc A6 A7 A8 A9 Ba Bd Bb Bc)))]
def qb4 {R : Type}  (v7 : Bool) (v10 : List AV) (v11 v12 : Int) (Ai : Bool) (Aj Ak Al Am : Int) (An Ao : List UInt8) (Ap : Int) (Au : Bool) (Av Aw : Int) (A2 : Bool) (A3 A4 A5 Be : Int) (Bf Bg : List UInt8) (Bh : Int) (A6 : Bool) (A7 A8 A9 Ba : Int) (Bd Bb : List UInt8) (Bc : Int) (next : Bool → Int → Bool → Int → Int → Int → Int → (List UInt8) → (List UInt8) → Int → Bool → Int → Int → Bool → Int → Int → Int → Int → (List UInt8) → (List UInt8) → Int → Bool → Int → Int → Int → Int → (List UInt8) → (List UInt8) → Int → Option R) (kx0 : Bool → Bool → Int → Int → Int → Int → (List UInt8) → (List UInt8) → Int → Bool → Int → Int → Bool → Int → Int → Int → Int → (List UInt8) → (List UInt8) → Int → Bool → Int → Int → Int → Int → (List UInt8) → (List UInt8) → Int → Option R) : Option R :=
  (bif (decide (v12 < v11)) then (oB (ixB v10 v12) fun y1 => (bif fitC qa y1.cells then (qdl v7 v10 v11 v12 Ai Aj Ak Al Am An Ao Ap Au Av Aw A2 A3 A4 A5 Be Bf Bg Bh A6 A7 A8 A9 Ba Bd Bb Bc (gB y1.cells 0) (gI y1.cells 1) (gI y1.cells 2) (gI y1.cells 3) (gI y1.cells 4) (gS y1.cells 5) (gS y1.cells 6) (gI y1.cells 7) (fun v31q2 b0_0q3 b0_1q4 b0_2q5 b0_3q6 b0_4q7 b0_5q8 b0_6q9 b0_7q10 b1_0q11 b1_1q12 b1_2q13 b2_0q14 b2_1q15 b2_2q16 b2_3q17 b2_4q18 b2_5q19 b2_6q20 b2_7q21 b3_0q22 b3_1q23 b3_2q24 b3_3q25 b3_4q26 b3_5q27 b3_6q28 b3_7q29 b4_0q30 b4_1q31 b4_2q32 b4_3q33 b4_4q34 b4_5q35 b4_6q36 b4_7q37 => (bif v31q2 then (next true (IntKind.i64.wrap (v12 + (1 : Int))) b0_0q3 b0_1q4 b0_2q5 b0_3q6 b0_4q7 b0_5q8 b0_6q9 b0_7q10 b1_0q11 b1_1q12 b1_2q13 b2_0q14 b2_1q15 b2_2q16 b2_3q17 b2_4q18 b2_5q19 b2_6q20 b2_7q21 b4_0q30 b4_1q31 b4_2q32 b4_3q33 b4_4q34 b4_5q35 b4_6q36 b4_7q37) else (next v7 (IntKind.i64.wrap (v12 + (1 : Int))) b0_0q3 b0_1q4 b0_2q5 b0_3q6 b0_4q7 b0_5q8 b0_6q9 b0_7q10 b1_0q11 b1_1q12 b1_2q13 b2_0q14 b2_1q15 b2_2q16 b2_3q17 b2_4q18 b2_5q19 b2_6q20 b2_7q21 b3_0q22 b3_1q23 b3_2q24 b3_3q25 b3_4q26 b3_5q27 b3_6q28 b3_7q29)))) else none)) else (kx0 v7 Ai Aj Ak Al Am An Ao Ap Au Av Aw A2 A3 A4 A5 Be Bf Bg Bh A6 A7 A8 A9 Ba Bd Bb Bc))
def qcp {R : Type}  (v10 : List AV) (v11 : Int) (kx0 : Bool → Bool → Int → Int → Int → Int → (List UInt8) → (List UInt8) → Int → Bool → Int → Int → Bool → Int → Int → Int → Int → (List UInt8) → (List UInt8) → Int → Bool → Int → Int → Int → Int → (List UInt8) → (List UInt8) → Int → Option R) : Nat → Bool → Int → Bool → Int → Int → Int → Int → (List UInt8) → (List UInt8) → Int → Bool → Int → Int → Bool → Int → Int → Int → Int → (List UInt8) → (List UInt8) → Int → Bool → Int → Int → Int → Int → (List UInt8) → (List UInt8) → Int → Option R
  | 0 => (fun _ _ _ _ _ _ _ _ _ _ _ _ _ _ _ _ _ _ _ _ _ _ _ _ _ _ _ _ _ => none)
  | n + 1 => (fun v7 v12 Ai Aj Ak Al Am An Ao Ap Au Av Aw A2 A3 A4 A5 Be Bf Bg Bh A6 A7 A8 A9 Ba Bd Bb Bc => qb4 v7 v10 v11 v12 Ai Aj Ak Al Am An Ao Ap Au Av Aw A2 A3 A4 A5 Be Bf Bg Bh A6 A7 A8 A9 Ba Bd Bb Bc (qcp v10 v11 kx0 n) kx0)
def qdm {R : Type} := hull (qcp (R := R))
theorem qhk {R : Type} : qdm (R := R) = qcp := hull_eq _
def qb5 {R : Type} (KK : AV → Mem → Option R) : AC R :=
  .seq (.reg [ao 13 (.bin .lss 12 11)]) (.seq (.cond 13 (.skip) (.seq (.view [.sel [4, 6, 7] [0, 1, 2, 3]]) (.exit 0))) (.seq (.block 1 (.seq (.reg [ao 14 (.ia 8 10 12),
 .st (.etac 14 qa),
 ao 15 (.load true 8 14),
 ao 9 (.alloc [(.bool false), (.int .u64 0), (.int .u64 0), (.int .i64 0), (.int .i64 0), (.str []), (.str []), (.int .i64 0)]),
 an (.store 8 9 15)]) (.seq (.seq (.view [.sel [1, 4, 6, 7, 9, 10, 11, 12] [0, 1, 2, 3, 4]]) (.sub (scOf (qc5 KK)) (qhx KK))) (.cond 31 (.reg [ao 32 (.load true 8 9),
 an (.store 8 6 32),
 ao 7 (.mv (.c (.bool true)))]) (.skip))))) (.seq (.reg [ao 33 (.bin .add 12 (.c (.int .i64 1))),
 ao 12 (.mv 33)]) (.view [.sel [1, 4, 6, 7, 10, 11, 12] [0, 1, 2, 3]]))))
theorem qm2 {R : Type} (KK : AV → Mem → Option R) : AC.ok Try.prog (TIof Try.prog) 36 2 (kretr [(.cell 4 true 8), .t 5] KK) (qb5 KK) := ok_of (zA (qnm KK) trivial)
theorem qmm {R : Type} (KK : AV → Mem → Option R) (v7 : Bool) (v10 : List AV) (v11 v12 : Int) (Ai : Bool) (Aj Ak Al Am : Int) (An Ao : List UInt8) (Ap : Int) (Au : Bool) (Av Aw : Int) (A2 : Bool) (A3 A4 A5 Be : Int) (Bf Bg : List UInt8) (Bh : Int) (A6 : Bool) (A7 A8 A9 Ba : Int) (Bd Bb : List UInt8) (Bc : Int) (K : Ex → Env → Mem → Option R) : den 2 (kretr [(.cell 4 true 8), .t 5] KK) (qb5 KK) (qd9 v7 v10 v11 v12 Ai Aj Ak Al Am An Ao Ap Au Av Aw A2 A3 A4 A5 Be Bf Bg Bh A6 A7 A8 A9 Ba Bd Bb Bc) (qea v7 v10 v11 v12 Ai Aj Ak Al Am An Ao Ap Au Av Aw A2 A3 A4 A5 Be Bf Bg Bh A6 A7 A8 A9 Ba Bd Bb Bc) K = qb4 v7 v10 v11 v12 Ai Aj Ak Al Am An Ao Ap Au Av Aw A2 A3 A4 A5 Be Bf Bg Bh A6 A7 A8 A9 Ba Bd Bb Bc (fun z_v7 z_v12 z_b0_0 z_b0_1 z_b0_2 z_b0_3 z_b0_4 z_b0_5 z_b0_6 z_b0_7 z_b1_0 z_b1_1 z_b1_2 z_b2_0 z_b2_1 z_b2_2 z_b2_3 z_b2_4 z_b2_5 z_b2_6 z_b2_7 z_b3_0 z_b3_1 z_b3_2 z_b3_3 z_b3_4 z_b3_5 z_b3_6 z_b3_7 => K .norm (qd9 z_v7 v10 v11 z_v12 z_b0_0 z_b0_1 z_b0_2 z_b0_3 z_b0_4 z_b0_5 z_b0_6 z_b0_7 z_b1_0 z_b1_1 z_b1_2 z_b2_0 z_b2_1 z_b2_2 z_b2_3 z_b2_4 z_b2_5 z_b2_6 z_b2_7 z_b3_0 z_b3_1 z_b3_2 z_b3_3 z_b3_4 z_b3_5 z_b3_6 z_b3_7) (qea z_v7 v10 v11 z_v12 z_b0_0 z_b0_1 z_b0_2 z_b0_3 z_b0_4 z_b0_5 z_b0_6 z_b0_7 z_b1_0 z_b1_1 z_b1_2 z_b2_0 z_b2_1 z_b2_2 z_b2_3 z_b2_4 z_b2_5 z_b2_6 z_b2_7 z_b3_0 z_b3_1 z_b3_2 z_b3_3 z_b3_4 z_b3_5 z_b3_6 z_b3_7)) (qcv K) := by kernel_rfl
theorem qnn {R : Type} (KK : AV → Mem → Option R) (v10 : List AV) (v11 : Int) (K : Ex → Env → Mem → Option R) : ∀ (n : Nat) (v7 : Bool) (v12 : Int) (Ai : Bool) (Aj Ak Al Am : Int) (An Ao : List UInt8) (Ap : Int) (Au : Bool) (Av Aw : Int) (A2 : Bool) (A3 A4 A5 Be : Int) (Bf Bg : List UInt8) (Bh : Int) (A6 : Bool) (A7 A8 A9 Ba : Int) (Bd Bb : List UInt8) (Bc : Int), iterD (den 2 (kretr [(.cell 4 true 8), .t 5] KK) (qb5 KK)) n (qd9 v7 v10 v11 v12 Ai Aj Ak Al Am An Ao Ap Au Av Aw A2 A3 A4 A5 Be Bf Bg Bh A6 A7 A8 A9 Ba Bd Bb Bc) (qea v7 v10 v11 v12 Ai Aj Ak Al Am An Ao Ap Au Av Aw A2 A3 A4 A5 Be Bf Bg Bh A6 A7 A8 A9 Ba Bd Bb Bc) K = qdm v10 v11 (qcv K) n v7 v12 Ai Aj Ak Al Am An Ao Ap Au Av Aw A2 A3 A4 A5 Be Bf Bg Bh A6 A7 A8 A9 Ba Bd Bb Bc := by
  rw [qhk]
  intro n
  induction n with
  | zero => intros; rfl
  | succ n ih =>
 intro v7 v12 Ai Aj Ak Al Am An Ao Ap Au Av Aw A2 A3 A4 A5 Be Bf Bg Bh A6 A7 A8 A9 Ba Bd Bb Bc
 exact (qmm KK v7 v10 v11 v12 Ai Aj Ak Al Am An Ao Ap Au Av Aw A2 A3 A4 A5 Be Bf Bg Bh A6 A7 A8 A9 Ba Bd Bb Bc (itK (den 2 (kretr [(.cell 4 true 8), .t 5] KK) (qb5 KK)) n K)).trans (congrArg (fun q => qb4 v7 v10 v11 v12 Ai Aj Ak Al Am An Ao Ap Au Av Aw A2 A3 A4 A5 Be Bf Bg Bh A6 A7 A8 A9 Ba Bd Bb Bc q (qcv K)) (funext fun v7 => funext fun v12 => funext fun Ai => funext fun Aj => funext fun Ak => funext fun Al => funext fun Am => funext fun An => funext fun Ao => funext fun Ap => funext fun Au => funext fun Av => funext fun Aw => funext fun A2 => funext fun A3 => funext fun A4 => funext fun A5 => funext fun Be => funext fun Bf => funext fun Bg => funext fun Bh => funext fun A6 => funext fun A7 => funext fun A8 => funext fun A9 => funext fun Ba => funext fun Bd => funext fun Bb => funext fun Bc => ih v7 v12 Ai Aj Ak Al Am An Ao Ap Au Av Aw A2 A3 A4 A5 Be Bf Bg Bh A6 A7 A8 A9 Ba Bd Bb Bc))
def qhy {R : Type} (KK : AV → Mem → Option R) := subE (R := R) qml fun t m K => qf (bxC (m.s 3)) (qf (bxC (m.s 2)) (qb0 (bxC (m.s 1)) (qf (bxC (m.s 0)) (qdm (gL [t 10] 0) (gI [t 11] 0) (qcv K) FU (gB [t 7] 0) (gI [t 12] 0)))))
theorem qno {R : Type} (KK : AV → Mem → Option R) : SubOk Try.prog (TIof Try.prog) 36 2 (kretr [(.cell 4 true 8), .t 5] KK) (.loop (scOf (qb5 KK))) (qhy KK) :=
  loop_mk tabOk follows (qm2 KK) (er_of (by kernel_rfl)) fun t m K => qnn KK _ _ K FU _ _ _ _ _ _ _ _ _ _ _ _ _ _ _ _ _ _ _ _ _ _ _ _ _ _ _ _ _
def qoo : Shp := ⟨[(0, .one (.l (.sl 8))), (1, .one (.fn 65 [(1, 0)]))], [.box true (lk qa), .box true (lk qcs)]⟩
def qi5 {R : Type} (KK : AV → Mem → Option R) := (fun v5 Ai Aj Ak Al Am An Ao Ap Au Av Aw A2 A3 A4 A5 Be Bf Bg Bh => KK (.tup [(.agg [(.bool A2), (.int .u64 A3), (.int .u64 A4), (.int .i64 A5), (.int .i64 Be), (.str Bf), (.str Bg), (.int .i64 Bh)]), (.bool v5)]) (memOf [(some (.box true [(.bool Ai), (.int .u64 Aj), (.int .u64 Ak), (.int .i64 Al), (.int .i64 Am), (.str An), (.str Ao), (.int .i64 Ap)])), (some (.box true [(.bool Au), (.int .u64 Av), (.int .u64 Aw)])), (some (.box true [(.bool A2), (.int .u64 A3), (.int .u64 A4), (.int .i64 A5), (.int .i64 Be), (.str Bf), (.str Bg), (.int .i64 Bh)]))]))
def qe2 {R : Type}  (v0 : List AV) (Ai : Bool) (Aj Ak Al Am : Int) (An Ao : List UInt8) (Ap : Int) (Au : Bool) (Av Aw : Int) (kr : Bool → Bool → Int → Int → Int → Int → (List UInt8) → (List UInt8) → Int → Bool → Int → Int → Bool → Int → Int → Int → Int → (List UInt8) → (List UInt8) → Int → Option R) : Option R :=
  (qdm v0 (v0.length : Int) (fun v7q1 b0_0q2 b0_1q3 b0_2q4 b0_3q5 b0_4q6 b0_5q7 b0_6q8 b0_7q9 b1_0q10 b1_1q11 b1_2q12 b2_0q13 b2_1q14 b2_2q15 b2_3q16 b2_4q17 b2_5q18 b2_6q19 b2_7q20 b3_0q21 b3_1q22 b3_2q23 b3_3q24 b3_4q25 b3_5q26 b3_6q27 b3_7q28 => (kr v7q1 b0_0q2 b0_1q3 b0_2q4 b0_3q5 b0_4q6 b0_5q7 b0_6q8 b0_7q9 b1_0q10 b1_1q11 b1_2q12 b3_0q21 b3_1q22 b3_2q23 b3_3q24 b3_4q25 b3_5q26 b3_6q27 b3_7q28)) FU false (0 : Int) Ai Aj Ak Al Am An Ao Ap Au Av Aw false (0 : Int) (0 : Int) (0 : Int) (0 : Int) ([] : List UInt8) ([] : List UInt8) (0 : Int) false (0 : Int) (0 : Int) (0 : Int) (0 : Int) ([] : List UInt8) ([] : List UInt8) (0 : Int))
def qd4 {R : Type} := hull (qe2 (R := R))
theorem qi6 {R : Type} : qd4 (R := R) = qe2 := hull_eq _
def qcm {R : Type} (KK : AV → Mem → Option R) : AC R :=
  .seq (.reg [ao 4 (.alloc [(.bool false), (.int .u64 0), (.int .u64 0), (.int .i64 0), (.int .i64 0), (.str []), (.str []), (.int .i64 0)]),
 ao 5 (.mv (.c (.bool false)))]) (.seq (.reg [ao 6 (.alloc [(.bool false), (.int .u64 0), (.int .u64 0), (.int .i64 0), (.int .i64 0), (.str []), (.str []), (.int .i64 0)])]) (.seq (.reg [ao 7 (.mv (.c (.bool false)))]) (.seq (.seq (.reg [ao 10 (.mv 0),
 ao 11 (.len false 10),
 ao 12 (.mv (.c (.int .i64 0)))]) (.block 0 (.seq (.view [.sel [1, 4, 6, 7, 10, 11, 12] [0, 1, 2, 3]]) (.sub (.loop (scOf (qb5 KK))) (qhy KK))))) (.seq (.reg [ao 34 (.load true 8 6),
 ao 35 (.mv 7),
 an (.store 8 4 34),
 ao 5 (.mv 35)]) (.seq (.view [.sel [4, 5] [0, 1, 2]]) (.ret))))))
theorem qpb {R : Type} (KK : AV → Mem → Option R) : AC.ok Try.prog (TIof Try.prog) 36 2 (kretr [(.cell 4 true 8), .t 5] KK) (qcm KK) := ok_of (zA (qno KK) trivial)
theorem qpp {R : Type} (KK : AV → Mem → Option R) (v0 : List AV) (Ai : Bool) (Aj Ak Al Am : Int) (An Ao : List UInt8) (Ap : Int) (Au : Bool) (Av Aw : Int) : den 2 (kretr [(.cell 4 true 8), .t 5] KK) (qcm KK) (envOf [(0, (.sl 8 v0)), (1, (.func 65 [(.ptr 1 0)]))]) (memOf [(some (.box true (qc Ai Aj Ak Al Am An Ao Ap))), (some (.box true (qba Au Av Aw)))]) (kend (kretr [(.cell 4 true 8), .t 5] KK)) = qd4 v0 Ai Aj Ak Al Am An Ao Ap Au Av Aw (qi5 KK) := by
  rw [qi6]; kernel_rfl
theorem qpq : cFn (TIof Try.prog) Try.f62 = some ⟨36, [(.cell 4 true 8), .t 5], scOf (qcm (R := Unit) (fun _ _ => none))⟩ := by kernel_rfl
theorem qpr {R : Type} (KK : AV → Mem → Option R) : (qcm KK).er = some (scOf (qcm (R := Unit) (fun _ _ => none))) := by kernel_rfl
def qji {R : Type} : List AV → Mem → (AV → Mem → Option R) → Option R := refE qoo fun xs m KK => qb0 (bxC (m.s 1)) (qf (bxC (m.s 0)) (qd4 (gL [(entry xs) 0] 0))) (qi5 KK)
theorem qps {R : Type} : RefOk Try.prog 62 (qji (R := R)) :=
  ref_mk (ac := fun KK => qcm KK) tabOk follows Try.func62 (by kernel_rfl) qpq (fun KK => qpb KK) (fun KK => qpr KK) rfl fun xs m KK => qpp KK _ _ _ _ _ _ _ _ _ _ _ _
def qpc (z : AV) : Option (AV × Bool) := cond (fitTup [(.st [.b, (.i .u64), (.i .u64), (.i .i64), (.i .i64), .s, .s, (.i .i64)]), (.one .b)] z) (some ((gC (tpL z) 0), aB (gC (tpL z) 1))) none
def q5r (r : AV × Bool) : AV := .tup [etaRV (.st [.b, (.i .u64), (.i .u64), (.i .i64), (.i .i64), .s, .s, (.i .i64)]) r.1, .bool r.2]
def q5s : Shp := ⟨[(0, .one (.l (.sl 8))), (1, .st (lk qcs))], []⟩
def qsd (v0 : List AV) (Aq : Bool) (Ar As : Int) : Option (AV × Bool) :=
  (qd4 v0 false (0 : Int) (0 : Int) (0 : Int) (0 : Int) ([] : List UInt8) ([] : List UInt8) (0 : Int) Aq Ar As fun v5q1 b0_0q2 b0_1q3 b0_2q4 b0_3q5 b0_4q6 b0_5q7 b0_6q8 b0_7q9 b1_0q10 b1_1q11 b1_2q12 b2_0q13 b2_1q14 b2_2q15 b2_3q16 b2_4q17 b2_5q18 b2_6q19 b2_7q20 => (some ((.agg [(.bool b2_0q13), (.int .u64 b2_1q14), (.int .u64 b2_2q15), (.int .i64 b2_3q16), (.int .i64 b2_4q17), (.str b2_5q18), (.str b2_6q19), (.int .i64 b2_7q20)]), v5q1)))
def qj9 := hull qsd
theorem qxb : qj9 = qsd := hull_eq _
def qse : AC (AV × Bool) :=
  .seq (.reg [ao 3 (.box 1),
 ao 4 (.alloc [(.bool false), (.int .u64 0), (.int .u64 0), (.int .i64 0), (.int .i64 0), (.str []), (.str []), (.int .i64 0)]),
 ao 5 (.mv (.c (.bool false)))]) (.seq (.reg [ao 6 (.mv 0),
 ao 7 (.mkf 65 [3]),
 .st (.sel [4, 6, 7] [1, 0]),
 .callr (po 8 (.call 62 [6, 7])) 62 qji,
 ao 9 (.ext 8 0),
 ao 10 (.ext 8 1),
 an (.store 8 4 9),
 ao 5 (.mv 10)]) (.ret))
theorem q7q : AC.ok Try.prog (TIof Try.prog) 11 0 (kret [(.cell 4 true 8), .t 5] qpc) qse := ok_of (zA qps trivial)
theorem q9k (v0 : List AV) (Aq : Bool) (Ar As : Int) : den 0 (kret [(.cell 4 true 8), .t 5] qpc) qse (envOf [(0, (.sl 8 v0)), (1, .agg (qba Aq Ar As))]) (memOf []) (kend (kret [(.cell 4 true 8), .t 5] qpc)) = qj9 v0 Aq Ar As := by
  rw [qxb]; kernel_rfl
theorem q9l : cFn (TIof Try.prog) Try.f28 = some ⟨11, [(.cell 4 true 8), .t 5], scOf qse⟩ := by kernel_rfl
def q9m (xs : List AV) : Option (AV × Bool) := qb0 ((entry xs) 1).cells (qj9 (gL [(entry xs) 0] 0))
def qv5 {R : Type} : List AV → (AV → Option R) → Option R := entF q5s q9m q5r
theorem q9n {R : Type} : EntOkB Try.prog 28 (qv5 (R := R)) :=
  ent_mk tabOk follows Try.func28 (by kernel_rfl) q9l (fun z r h => by
 obtain ⟨h1, h2⟩ := cond_some h
 cases h2
 exact (fitTup_eq h1).symm) q7q (er_of (by kernel_rfl)) fun xs => q9k _ _ _ _
def qxm : Shp := ⟨[(0, .st (lk qa)), (1, .one (.ptr 0 0)), (2, .one (.ptr 2 0))], [.box true (lk qe), .arr true 8, .box true (lk qa)]⟩
def qpt {R : Type} (KK : AV → Mem → Option R) := (fun v4 Ai Aj Ak Al a1 A2 A3 A4 A5 Be Bf Bg Bh => KK (.bool v4) (memOf [(some (.box true [(.bool Ai), (.int .u64 Aj), (.int .u64 Ak), (.int .i64 Al)])), (some (.arr true 8 a1)), (some (.box true [(.bool A2), (.int .u64 A3), (.int .u64 A4), (.int .i64 A5), (.int .i64 Be), (.str Bf), (.str Bg), (.int .i64 Bh)]))]))
def qlm {R : Type}  (Aa : Bool) (Ab Ac Ad Ae : Int) (Af Ag : List UInt8) (Ah : Int) (Ai : Bool) (Aj Ak Al : Int) (a1 : List AV) (A2 : Bool) (A3 A4 A5 Be : Int) (Bf Bg : List UInt8) (Bh : Int) (kr : Bool → Bool → Int → Int → Int → (List AV) → Bool → Int → Int → Int → Int → (List UInt8) → (List UInt8) → Int → Option R) : Option R :=
  (oB (qez Aa Ab Ac Ad Ai Aj Ak Al) fun r1 => (bif r1 then (oB (qez A2 A3 A4 A5 Aa Ab Ac Ad) fun r2 => (kr r2 Ai Aj Ak Al a1 A2 A3 A4 A5 Be Bf Bg Bh)) else (kr false Ai Aj Ak Al a1 A2 A3 A4 A5 Be Bf Bg Bh)))
def qhl {R : Type} := hull (qlm (R := R))
theorem qpu {R : Type} : qhl (R := R) = qlm := hull_eq _
def qee {R : Type} (KK : AV → Mem → Option R) : AC R :=
  .seq (.reg [ao 3 (.box 0),
 ao 4 (.mv (.c (.bool false)))]) (.seq (.reg [ao 5 (.fa 0 3),
 ao 6 (.load true 4 5),
 ao 7 (.load true 4 1),
 .call (po 8 (.call 64 [6, 7])) 64 qet,
 ao 9 (.mv 8),
 ag 10 9 true (.fa 0 2),
 ag 11 9 true (.load true 4 10),
 ag 12 9 true (.fa 0 3),
 ag 13 9 true (.load true 4 12),
 .call (pg 14 9 true (.call 64 [11, 13])) 64 qet,
 ao 15 (.pick 9 14 (.c (.bool false))),
 ao 4 (.mv 15)]) (.seq (.view [.sel [4] [0, 1, 2]]) (.ret)))
theorem qyo {R : Type} (KK : AV → Mem → Option R) : AC.ok Try.prog (TIof Try.prog) 16 3 (kretr [.t 4] KK) (qee KK) := ok_of (zA (EntOkB.ok qit) (zA (EntOkB.ok qit) trivial))
theorem qzh {R : Type} (KK : AV → Mem → Option R) (Aa : Bool) (Ab Ac Ad Ae : Int) (Af Ag : List UInt8) (Ah : Int) (Ai : Bool) (Aj Ak Al : Int) (a1 : List AV) (A2 : Bool) (A3 A4 A5 Be : Int) (Bf Bg : List UInt8) (Bh : Int) : den 3 (kretr [.t 4] KK) (qee KK) (envOf [(0, .agg (qc Aa Ab Ac Ad Ae Af Ag Ah)), (1, (.ptr 0 0)), (2, (.ptr 2 0))]) (memOf [(some (.box true (qb Ai Aj Ak Al))), (some (.arr true 8 a1)), (some (.box true (qc A2 A3 A4 A5 Be Bf Bg Bh)))]) (kend (kretr [.t 4] KK)) = qhl Aa Ab Ac Ad Ae Af Ag Ah Ai Aj Ak Al a1 A2 A3 A4 A5 Be Bf Bg Bh (qpt KK) := by
  rw [qpu]; kernel_rfl
theorem qzi : cFn (TIof Try.prog) Try.f67 = some ⟨16, [.t 4], scOf (qee (R := Unit) (fun _ _ => none))⟩ := by kernel_rfl
theorem qzj {R : Type} (KK : AV → Mem → Option R) : (qee KK).er = some (scOf (qee (R := Unit) (fun _ _ => none))) := by kernel_rfl
def qq6 {R : Type} : List AV → Mem → (AV → Mem → Option R) → Option R := refE qxm fun xs m KK => qf (bxC (m.s 2)) (qd (bxC (m.s 0)) (qf ((entry xs) 0).cells (qhl)) (arL (m.s 1))) (qpt KK)
theorem qzk {R : Type} : RefOk Try.prog 67 (qq6 (R := R)) :=
  ref_mk (ac := fun KK => qee KK) tabOk follows Try.func67 (by kernel_rfl) qzi (fun KK => qyo KK) (fun KK => qzj KK) rfl fun xs m KK => qzh KK _ _ _ _ _ _ _ _ _ _ _ _ _ _ _ _ _ _ _ _ _
def qbb {R : Type}  (K : Ex → Env → Mem → Option R) := (fun z_b0_0 z_b0_1 z_b0_2 z_b0_3 z_a1 z_b2_0 z_b2_1 z_b2_2 z_b2_3 z_b2_4 z_b2_5 z_b2_6 z_b2_7 => K (.exit 0) (envOf []) (memOf [(some (.box true (qb z_b0_0 z_b0_1 z_b0_2 z_b0_3))), (some (.arr true 8 z_a1)), (some (.box true (qc z_b2_0 z_b2_1 z_b2_2 z_b2_3 z_b2_4 z_b2_5 z_b2_6 z_b2_7)))]))
def qbe {R : Type} (KK : AV → Mem → Option R) := (fun v4 Ai Aj Ak Al a1 A2 A3 A4 A5 Be Bf Bg Bh => KK (.int .i64 v4) (memOf [(some (.box true [(.bool Ai), (.int .u64 Aj), (.int .u64 Ak), (.int .i64 Al)])), (some (.arr true 8 a1)), (some (.box true [(.bool A2), (.int .u64 A3), (.int .u64 A4), (.int .i64 A5), (.int .i64 Be), (.str Bf), (.str Bg), (.int .i64 Bh)]))]))
def qe6 : Shp := ⟨[(0, .one (.l (.sl 8))), (1, .one (.fn 67 [(0, 0), (2, 0)])), (7, .one (.l (.i .i64))), (8, .one (.l (.i .i64)))], [.box true (lk qe), .arr true 8, .box true (lk qa)]⟩
def qb6 (v0 : List AV) (v7 v8 : Int) (Ai : Bool) (Aj Ak Al : Int) (a1 : List AV) (A2 : Bool) (A3 A4 A5 Be : Int) (Bf Bg : List UInt8) (Bh : Int) : Env := envOf [(0, (.sl 8 v0)), (1, (.func 67 [(.ptr 0 0), (.ptr 2 0)])), (7, (.int .i64 v7)), (8, (.int .i64 v8))]
def qb7 (v0 : List AV) (v7 v8 : Int) (Ai : Bool) (Aj Ak Al : Int) (a1 : List AV) (A2 : Bool) (A3 A4 A5 Be : Int) (Bf Bg : List UInt8) (Bh : Int) : Mem := memOf [(some (.box true (qb Ai Aj Ak Al))), (some (.arr true 8 a1)), (some (.box true (qc A2 A3 A4 A5 Be Bf Bg Bh)))]
def qg {R : Type}  (v0 : List AV) (v7 v8 : Int) (Ai : Bool) (Aj Ak Al : Int) (a1 : List AV) (A2 : Bool) (A3 A4 A5 Be : Int) (Bf Bg : List UInt8) (Bh : Int) (next : Int → Bool → Int → Int → Int → (List AV) → Bool → Int → Int → Int → Int → (List UInt8) → (List UInt8) → Int → Option R) (kx0 : Bool → Int → Int → Int → (List AV) → Bool → Int → Int → Int → Int → (List UInt8) → (List UInt8) → Int → Option R) (kr : Int → Bool → Int → Int → Int → (List AV) → Bool → Int → Int → Int → Int → (List UInt8) → (List UInt8) → Int → Option R) : Option R :=
  (bif (decide (v8 < v7)) then (oB (ixB v0 v8) fun y1 => (bif fitC qa y1.cells then (qhl (gB y1.cells 0) (gI y1.cells 1) (gI y1.cells 2) (gI y1.cells 3) (gI y1.cells 4) (gS y1.cells 5) (gS y1.cells 6) (gI y1.cells 7) Ai Aj Ak Al a1 A2 A3 A4 A5 Be Bf Bg Bh fun v4q2 b0_0q3 b0_1q4 b0_2q5 b0_3q6 a1q7 b2_0q8 b2_1q9 b2_2q10 b2_3q11 b2_4q12 b2_5q13 b2_6q14 b2_7q15 => (bif v4q2 then (kr v8 b0_0q3 b0_1q4 b0_2q5 b0_3q6 a1q7 b2_0q8 b2_1q9 b2_2q10 b2_3q11 b2_4q12 b2_5q13 b2_6q14 b2_7q15) else (next (IntKind.i64.wrap (v8 + (1 : Int))) b0_0q3 b0_1q4 b0_2q5 b0_3q6 a1q7 b2_0q8 b2_1q9 b2_2q10 b2_3q11 b2_4q12 b2_5q13 b2_6q14 b2_7q15))) else none)) else (kx0 Ai Aj Ak Al a1 A2 A3 A4 A5 Be Bf Bg Bh))
def qbh {R : Type}  (v0 : List AV) (v7 : Int) (kx0 : Bool → Int → Int → Int → (List AV) → Bool → Int → Int → Int → Int → (List UInt8) → (List UInt8) → Int → Option R) (kr : Int → Bool → Int → Int → Int → (List AV) → Bool → Int → Int → Int → Int → (List UInt8) → (List UInt8) → Int → Option R) : Nat → Int → Bool → Int → Int → Int → (List AV) → Bool → Int → Int → Int → Int → (List UInt8) → (List UInt8) → Int → Option R
  | 0 => (fun _ _ _ _ _ _ _ _ _ _ _ _ _ _ => none)
  | n + 1 => (fun v8 Ai Aj Ak Al a1 A2 A3 A4 A5 Be Bf Bg Bh => qg v0 v7 v8 Ai Aj Ak Al a1 A2 A3 A4 A5 Be Bf Bg Bh (qbh v0 v7 kx0 kr n) kx0 kr)
def qbn {R : Type} := hull (qbh (R := R))
theorem qcw {R : Type} : qbn (R := R) = qbh := hull_eq _
def qh {R : Type} (KK : AV → Mem → Option R) : AC R :=
  .seq (.reg [ao 9 (.bin .lss 8 7)]) (.seq (.cond 9 (.skip) (.seq (.view [.sel [] [0, 1, 2]]) (.exit 0))) (.seq (.block 1 (.seq (.reg [ao 10 (.mv 8),
 ao 5 (.mv 10)]) (.seq (.reg [ao 11 (.mv 1),
 ao 12 (.mv 0),
 ao 13 (.mv 5),
 ao 14 (.ia 8 12 13),
 .st (.etac 14 qa),
 ao 15 (.load true 8 14),
 .st (.sel [0, 1, 5, 7, 8, 11, 15] [0, 1, 2]),
 .callr (po 16 (.callv 11 [15])) 67 qq6]) (.cond 16 (.seq (.reg [ao 17 (.mv 5),
 ao 4 (.mv 17)]) (.seq (.view [.sel [4] [0, 1, 2]]) (.ret))) (.skip))))) (.seq (.reg [ao 18 (.bin .add 8 (.c (.int .i64 1))),
 ao 8 (.mv 18)]) (.view [.sel [0, 1, 7, 8] [0, 1, 2]]))))
theorem qfg {R : Type} (KK : AV → Mem → Option R) : AC.ok Try.prog (TIof Try.prog) 19 3 (kretr [.t 4] KK) (qh KK) := ok_of (zA qzk trivial)
theorem qe7 {R : Type} (KK : AV → Mem → Option R) (v0 : List AV) (v7 v8 : Int) (Ai : Bool) (Aj Ak Al : Int) (a1 : List AV) (A2 : Bool) (A3 A4 A5 Be : Int) (Bf Bg : List UInt8) (Bh : Int) (K : Ex → Env → Mem → Option R) : den 3 (kretr [.t 4] KK) (qh KK) (qb6 v0 v7 v8 Ai Aj Ak Al a1 A2 A3 A4 A5 Be Bf Bg Bh) (qb7 v0 v7 v8 Ai Aj Ak Al a1 A2 A3 A4 A5 Be Bf Bg Bh) K = qg v0 v7 v8 Ai Aj Ak Al a1 A2 A3 A4 A5 Be Bf Bg Bh (fun z_v8 z_b0_0 z_b0_1 z_b0_2 z_b0_3 z_a1 z_b2_0 z_b2_1 z_b2_2 z_b2_3 z_b2_4 z_b2_5 z_b2_6 z_b2_7 => K .norm (qb6 v0 v7 z_v8 z_b0_0 z_b0_1 z_b0_2 z_b0_3 z_a1 z_b2_0 z_b2_1 z_b2_2 z_b2_3 z_b2_4 z_b2_5 z_b2_6 z_b2_7) (qb7 v0 v7 z_v8 z_b0_0 z_b0_1 z_b0_2 z_b0_3 z_a1 z_b2_0 z_b2_1 z_b2_2 z_b2_3 z_b2_4 z_b2_5 z_b2_6 z_b2_7)) (qbb K) (qbe KK) := by kernel_rfl
theorem qfo {R : Type} (KK : AV → Mem → Option R) (v0 : List AV) (v7 : Int) (K : Ex → Env → Mem → Option R) : ∀ (n : Nat) (v8 : Int) (Ai : Bool) (Aj Ak Al : Int) (a1 : List AV) (A2 : Bool) (A3 A4 A5 Be : Int) (Bf Bg : List UInt8) (Bh : Int), iterD (den 3 (kretr [.t 4] KK) (qh KK)) n (qb6 v0 v7 v8 Ai Aj Ak Al a1 A2 A3 A4 A5 Be Bf Bg Bh) (qb7 v0 v7 v8 Ai Aj Ak Al a1 A2 A3 A4 A5 Be Bf Bg Bh) K = qbn v0 v7 (qbb K) (qbe KK) n v8 Ai Aj Ak Al a1 A2 A3 A4 A5 Be Bf Bg Bh := by
  rw [qcw]
  intro n
  induction n with
  | zero => intros; rfl
  | succ n ih =>
 intro v8 Ai Aj Ak Al a1 A2 A3 A4 A5 Be Bf Bg Bh
 exact (qe7 KK v0 v7 v8 Ai Aj Ak Al a1 A2 A3 A4 A5 Be Bf Bg Bh (itK (den 3 (kretr [.t 4] KK) (qh KK)) n K)).trans (congrArg (fun q => qg v0 v7 v8 Ai Aj Ak Al a1 A2 A3 A4 A5 Be Bf Bg Bh q (qbb K) (qbe KK)) (funext fun v8 => funext fun Ai => funext fun Aj => funext fun Ak => funext fun Al => funext fun a1 => funext fun A2 => funext fun A3 => funext fun A4 => funext fun A5 => funext fun Be => funext fun Bf => funext fun Bg => funext fun Bh => ih v8 Ai Aj Ak Al a1 A2 A3 A4 A5 Be Bf Bg Bh))
def qc2 {R : Type} (KK : AV → Mem → Option R) := subE (R := R) qe6 fun t m K => qf (bxC (m.s 2)) (qd (bxC (m.s 0)) (qbn (gL [t 0] 0) (gI [t 7] 0) (qbb K) (qbe KK) FU (gI [t 8] 0)) (arL (m.s 1)))
theorem qfp {R : Type} (KK : AV → Mem → Option R) : SubOk Try.prog (TIof Try.prog) 19 3 (kretr [.t 4] KK) (.loop (scOf (qh KK))) (qc2 KK) :=
  loop_mk tabOk follows (qfg KK) (er_of (by kernel_rfl)) fun t m K => qfo KK _ _ K FU _ _ _ _ _ _ _ _ _ _ _ _ _ _
def qf2 : Shp := ⟨[(0, .one (.l (.sl 8))), (1, .one (.fn 67 [(0, 0), (2, 0)]))], [.box true (lk qe), .arr true 8, .box true (lk qa)]⟩
def qdd {R : Type} (KK : AV → Mem → Option R) := (fun v4 Ai Aj Ak Al a1 A2 A3 A4 A5 Be Bf Bg Bh => KK (.int .i64 v4) (memOf [(some (.box true [(.bool Ai), (.int .u64 Aj), (.int .u64 Ak), (.int .i64 Al)])), (some (.arr true 8 a1)), (some (.box true [(.bool A2), (.int .u64 A3), (.int .u64 A4), (.int .i64 A5), (.int .i64 Be), (.str Bf), (.str Bg), (.int .i64 Bh)]))]))
def qch {R : Type}  (v0 : List AV) (Ai : Bool) (Aj Ak Al : Int) (a1 : List AV) (A2 : Bool) (A3 A4 A5 Be : Int) (Bf Bg : List UInt8) (Bh : Int) (kr : Int → Bool → Int → Int → Int → (List AV) → Bool → Int → Int → Int → Int → (List UInt8) → (List UInt8) → Int → Option R) : Option R :=
  (qbn v0 (v0.length : Int) (fun b0_0q1 b0_1q2 b0_2q3 b0_3q4 a1q5 b2_0q6 b2_1q7 b2_2q8 b2_3q9 b2_4q10 b2_5q11 b2_6q12 b2_7q13 => (kr (-1 : Int) b0_0q1 b0_1q2 b0_2q3 b0_3q4 a1q5 b2_0q6 b2_1q7 b2_2q8 b2_3q9 b2_4q10 b2_5q11 b2_6q12 b2_7q13)) kr FU (0 : Int) Ai Aj Ak Al a1 A2 A3 A4 A5 Be Bf Bg Bh)
def qz {R : Type} := hull (qch (R := R))
theorem qde {R : Type} : qz (R := R) = qch := hull_eq _
def qp {R : Type} (KK : AV → Mem → Option R) : AC R :=
  .seq (.reg [ao 4 (.mv (.c (.int .i64 0)))]) (.seq (.seq (.reg [ao 6 (.mv 0),
 ao 7 (.len false 6),
 ao 8 (.mv (.c (.int .i64 0)))]) (.block 0 (.seq (.view [.sel [0, 1, 7, 8] [0, 1, 2]]) (.sub (.loop (scOf (qh KK))) (qc2 KK))))) (.seq (.reg [ao 4 (.mv (.c (.int .i64 (-1))))]) (.seq (.view [.sel [4] [0, 1, 2]]) (.ret))))
theorem qge {R : Type} (KK : AV → Mem → Option R) : AC.ok Try.prog (TIof Try.prog) 19 3 (kretr [.t 4] KK) (qp KK) := ok_of (zA (qfp KK) trivial)
theorem qgs {R : Type} (KK : AV → Mem → Option R) (v0 : List AV) (Ai : Bool) (Aj Ak Al : Int) (a1 : List AV) (A2 : Bool) (A3 A4 A5 Be : Int) (Bf Bg : List UInt8) (Bh : Int) : den 3 (kretr [.t 4] KK) (qp KK) (envOf [(0, (.sl 8 v0)), (1, (.func 67 [(.ptr 0 0), (.ptr 2 0)]))]) (memOf [(some (.box true (qb Ai Aj Ak Al))), (some (.arr true 8 a1)), (some (.box true (qc A2 A3 A4 A5 Be Bf Bg Bh)))]) (kend (kretr [.t 4] KK)) = qz v0 Ai Aj Ak Al a1 A2 A3 A4 A5 Be Bf Bg Bh (qdd KK) := by
  rw [qde]; kernel_rfl
theorem qgt : cFn (TIof Try.prog) Try.f88 = some ⟨19, [.t 4], scOf (qp (R := Unit) (fun _ _ => none))⟩ := by kernel_rfl
theorem qgu {R : Type} (KK : AV → Mem → Option R) : (qp KK).er = some (scOf (qp (R := Unit) (fun _ _ => none))) := by kernel_rfl
def qdi {R : Type} : List AV → Mem → (AV → Mem → Option R) → Option R := refE qf2 fun xs m KK => qf (bxC (m.s 2)) (qd (bxC (m.s 0)) (qz (gL [(entry xs) 0] 0)) (arL (m.s 1))) (qdd KK)
theorem qgv {R : Type} : RefOk Try.prog 88 (qdi (R := R)) :=
  ref_mk (ac := fun KK => qp KK) tabOk follows Try.func88 (by kernel_rfl) qgt (fun KK => qge KK) (fun KK => qgu KK) rfl fun xs m KK => qgs KK _ _ _ _ _ _ _ _ _ _ _ _ _ _
def qe8 : Shp := ⟨[(0, .one (.l (.sl 8))), (1, .one (.fn 67 [(0, 0), (2, 0)]))], [.box true (lk qe), .arr true 8, .box true (lk qa)]⟩
def qcx {R : Type} (KK : AV → Mem → Option R) := (fun v4 Ai Aj Ak Al a1 A2 A3 A4 A5 Be Bf Bg Bh => KK (.bool v4) (memOf [(some (.box true [(.bool Ai), (.int .u64 Aj), (.int .u64 Ak), (.int .i64 Al)])), (some (.arr true 8 a1)), (some (.box true [(.bool A2), (.int .u64 A3), (.int .u64 A4), (.int .i64 A5), (.int .i64 Be), (.str Bf), (.str Bg), (.int .i64 Bh)]))]))
def qca {R : Type}  (v0 : List AV) (Ai : Bool) (Aj Ak Al : Int) (a1 : List AV) (A2 : Bool) (A3 A4 A5 Be : Int) (Bf Bg : List UInt8) (Bh : Int) (kr : Bool → Bool → Int → Int → Int → (List AV) → Bool → Int → Int → Int → Int → (List UInt8) → (List UInt8) → Int → Option R) : Option R :=
  (qz v0 Ai Aj Ak Al a1 A2 A3 A4 A5 Be Bf Bg Bh fun v4q1 b0_0q2 b0_1q3 b0_2q4 b0_3q5 a1q6 b2_0q7 b2_1q8 b2_2q9 b2_3q10 b2_4q11 b2_5q12 b2_6q13 b2_7q14 => (kr (decide (v4q1 ≥ (0 : Int))) b0_0q2 b0_1q3 b0_2q4 b0_3q5 a1q6 b2_0q7 b2_1q8 b2_2q9 b2_3q10 b2_4q11 b2_5q12 b2_6q13 b2_7q14))
def qbo {R : Type} := hull (qca (R := R))
theorem qcy {R : Type} : qbo (R := R) = qca := hull_eq _
def qi {R : Type} (KK : AV → Mem → Option R) : AC R :=
  .seq (.reg [ao 4 (.mv (.c (.bool false)))]) (.seq (.reg [ao 5 (.mv 0),
 ao 6 (.mv 1),
 .st (.sel [5, 6] [0, 1, 2]),
 .callr (po 7 (.call 88 [5, 6])) 88 qdi,
 ao 8 (.bin .geq 7 (.c (.int .i64 0))),
 ao 4 (.mv 8)]) (.seq (.view [.sel [4] [0, 1, 2]]) (.ret)))
theorem qfh {R : Type} (KK : AV → Mem → Option R) : AC.ok Try.prog (TIof Try.prog) 9 3 (kretr [.t 4] KK) (qi KK) := ok_of (zA qgv trivial)
theorem qfq {R : Type} (KK : AV → Mem → Option R) (v0 : List AV) (Ai : Bool) (Aj Ak Al : Int) (a1 : List AV) (A2 : Bool) (A3 A4 A5 Be : Int) (Bf Bg : List UInt8) (Bh : Int) : den 3 (kretr [.t 4] KK) (qi KK) (envOf [(0, (.sl 8 v0)), (1, (.func 67 [(.ptr 0 0), (.ptr 2 0)]))]) (memOf [(some (.box true (qb Ai Aj Ak Al))), (some (.arr true 8 a1)), (some (.box true (qc A2 A3 A4 A5 Be Bf Bg Bh)))]) (kend (kretr [.t 4] KK)) = qbo v0 Ai Aj Ak Al a1 A2 A3 A4 A5 Be Bf Bg Bh (qcx KK) := by
  rw [qcy]; kernel_rfl
theorem qfr : cFn (TIof Try.prog) Try.f68 = some ⟨9, [.t 4], scOf (qi (R := Unit) (fun _ _ => none))⟩ := by kernel_rfl
theorem qfs {R : Type} (KK : AV → Mem → Option R) : (qi KK).er = some (scOf (qi (R := Unit) (fun _ _ => none))) := by kernel_rfl
def qc3 {R : Type} : List AV → Mem → (AV → Mem → Option R) → Option R := refE qe8 fun xs m KK => qf (bxC (m.s 2)) (qd (bxC (m.s 0)) (qbo (gL [(entry xs) 0] 0)) (arL (m.s 1))) (qcx KK)
theorem qft {R : Type} : RefOk Try.prog 68 (qc3 (R := R)) :=
  ref_mk (ac := fun KK => qi KK) tabOk follows Try.func68 (by kernel_rfl) qfr (fun KK => qfh KK) (fun KK => qfs KK) rfl fun xs m KK => qfq KK _ _ _ _ _ _ _ _ _ _ _ _ _ _
def qpv  (v0 v9 : List AV) (v10 v11 : Int) (K : Ex → Env → Mem → Option (List AV)) := (fun z_v25 z_b0_0 z_b0_1 z_b0_2 z_b0_3 z_a1 z_b2_0 z_b2_1 z_b2_2 z_b2_3 z_b2_4 z_b2_5 z_b2_6 z_b2_7 => K .norm (envOf [(0, (.sl 8 v0)), (3, (.ptr 0 0)), (5, (.own 1 z_a1.length)), (7, (.ptr 2 0)), (9, (.sl 8 v9)), (10, (.int .i64 v10)), (11, (.int .i64 v11)), (25, (.bool z_v25))]) (memOf [(some (.box true (qb z_b0_0 z_b0_1 z_b0_2 z_b0_3))), (some (.arr true 8 z_a1)), (some (.box true (qc z_b2_0 z_b2_1 z_b2_2 z_b2_3 z_b2_4 z_b2_5 z_b2_6 z_b2_7)))]))
def qxn : Shp := ⟨[(0, .one (.l (.sl 8))), (3, .one (.ptr 0 0)), (5, .one (.own 1)), (7, .one (.ptr 2 0)), (8, .one (.fn 67 [(0, 0), (2, 0)])), (9, .one (.l (.sl 8))), (10, .one (.l (.i .i64))), (11, .one (.l (.i .i64)))], [.box true (lk qe), .arr true 8, .box true (lk qa)]⟩
def qln  (v0 v9 : List AV) (v10 v11 : Int) (Ai : Bool) (Aj Ak Al : Int) (a1 : List AV) (A2 : Bool) (A3 A4 A5 Be : Int) (Bf Bg : List UInt8) (Bh : Int) (kn : Bool → Bool → Int → Int → Int → (List AV) → Bool → Int → Int → Int → Int → (List UInt8) → (List UInt8) → Int → Option (List AV)) : Option (List AV) :=
  (oB (qez A2 A3 A4 A5 Ai Aj Ak Al) fun r1 => (bif r1 then (qbo v0 Ai Aj Ak Al a1 A2 A3 A4 A5 Be Bf Bg Bh fun v4q2 b0_0q3 b0_1q4 b0_2q5 b0_3q6 a1q7 b2_0q8 b2_1q9 b2_2q10 b2_3q11 b2_4q12 b2_5q13 b2_6q14 b2_7q15 => (bif hd a1q7 a1.length then (kn (!v4q2) b0_0q3 b0_1q4 b0_2q5 b0_3q6 a1q7 b2_0q8 b2_1q9 b2_2q10 b2_3q11 b2_4q12 b2_5q13 b2_6q14 b2_7q15) else none)) else (bif hd a1 a1.length then (kn false Ai Aj Ak Al a1 A2 A3 A4 A5 Be Bf Bg Bh) else none)))
def qhm := hull (qln)
theorem qpw : qhm = qln := hull_eq _
def qiq : AC (List AV) :=
  .seq (.reg [ao 16 (.fa 0 7),
 ao 17 (.load true 4 16),
 ao 18 (.load true 4 3),
 .call (po 19 (.call 64 [17, 18])) 64 qet,
 ao 20 (.mv 19),
 ag 21 20 true (.mv 0),
 ag 22 20 true (.mv 8),
 .stg 20 true (.sel [0, 3, 5, 7, 9, 10, 11, 20, 21, 22] [0, 1, 2]),
 .callr (pg 23 20 true (.call 68 [21, 22])) 68 qc3,
 ag 24 20 true (.un .not 23),
 ao 25 (.pick 20 24 (.c (.bool false)))]) (.view [.hd 5, .sel [0, 3, 5, 7, 9, 10, 11, 25] [0, 1, 2]])
theorem qyp : AC.ok Try.prog (TIof Try.prog) 32 0 (kret [.t 4] (decF true 8)) qiq := ok_of (zA (EntOkB.ok qit) (zA qft trivial))
theorem qzl (v0 v9 : List AV) (v10 v11 : Int) (Ai : Bool) (Aj Ak Al : Int) (a1 : List AV) (A2 : Bool) (A3 A4 A5 Be : Int) (Bf Bg : List UInt8) (Bh : Int) (K : Ex → Env → Mem → Option (List AV)) : den 0 (kret [.t 4] (decF true 8)) qiq (envOf [(0, (.sl 8 v0)), (3, (.ptr 0 0)), (5, (.own 1 a1.length)), (7, (.ptr 2 0)), (8, (.func 67 [(.ptr 0 0), (.ptr 2 0)])), (9, (.sl 8 v9)), (10, (.int .i64 v10)), (11, (.int .i64 v11))]) (memOf [(some (.box true (qb Ai Aj Ak Al))), (some (.arr true 8 a1)), (some (.box true (qc A2 A3 A4 A5 Be Bf Bg Bh)))]) K = qhm v0 v9 v10 v11 Ai Aj Ak Al a1 A2 A3 A4 A5 Be Bf Bg Bh (qpv v0 v9 v10 v11 K) := by
  rw [qpw]; kernel_rfl
def qq7 := subE (R := (List AV)) qxn fun t m K => qf (bxC (m.s 2)) (qd (bxC (m.s 0)) (qhm (gL [t 0] 0) (gL [t 9] 0) (gI [t 10] 0) (gI [t 11] 0)) (arL (m.s 1))) (qpv (gL [t 0] 0) (gL [t 9] 0) (gI [t 10] 0) (gI [t 11] 0) K)
theorem qzm : SubOk Try.prog (TIof Try.prog) 32 0 (kret [.t 4] (decF true 8)) (scOf qiq) (qq7) :=
  sub_mk tabOk follows (qyp) (er_of (by kernel_rfl)) fun t m K => qzl _ _ _ _ _ _ _ _ _ _ _ _ _ _ _ _ _ K
def qh9  (K : Ex → Env → Mem → Option (List AV)) := (fun z_a0 => K (.exit 0) (envOf [(5, (.own 0 z_a0.length))]) (memOf [(some (.arr true 8 z_a0))]))
def qyq : Shp := ⟨[(0, .one (.l (.sl 8))), (3, .one (.ptr 0 0)), (5, .one (.own 1)), (9, .one (.l (.sl 8))), (10, .one (.l (.i .i64))), (11, .one (.l (.i .i64)))], [.box true (lk qe), .arr true 8]⟩
def qlo (v0 v9 : List AV) (v10 v11 : Int) (Ai : Bool) (Aj Ak Al : Int) (a1 : List AV) : Env := envOf [(0, (.sl 8 v0)), (3, (.ptr 0 0)), (5, (.own 1 a1.length)), (9, (.sl 8 v9)), (10, (.int .i64 v10)), (11, (.int .i64 v11))]
def qlp (v0 v9 : List AV) (v10 v11 : Int) (Ai : Bool) (Aj Ak Al : Int) (a1 : List AV) : Mem := memOf [(some (.box true (qb Ai Aj Ak Al))), (some (.arr true 8 a1))]
def qer  (v0 v9 : List AV) (v10 v11 : Int) (Ai : Bool) (Aj Ak Al : Int) (a1 : List AV) (next : Int → Bool → Int → Int → Int → (List AV) → Option (List AV)) (kx0 : (List AV) → Option (List AV)) : Option (List AV) :=
  (bif (decide (v11 < v10)) then (oB (ixB v9 v11) fun y1 => (bif fitC qa y1.cells then (bif (hd a1 (a1.length) && true) then (qhm v0 v9 v10 v11 Ai Aj Ak Al a1 (gB y1.cells 0) (gI y1.cells 1) (gI y1.cells 2) (gI y1.cells 3) (gI y1.cells 4) (gS y1.cells 5) (gS y1.cells 6) (gI y1.cells 7) (fun v25q2 b0_0q3 b0_1q4 b0_2q5 b0_3q6 a1q7 b2_0q8 b2_1q9 b2_2q10 b2_3q11 b2_4q12 b2_5q13 b2_6q14 b2_7q15 => (bif v25q2 then (bif hd a1q7 a1q7.length then (bif hd ([(.agg [(.bool b2_0q8), (.int .u64 b2_1q9), (.int .u64 b2_2q10), (.int .i64 b2_3q11), (.int .i64 b2_4q12), (.str b2_5q13), (.str b2_6q14), (.int .i64 b2_7q15)])] : List AV) (([(.agg [(.bool b2_0q8), (.int .u64 b2_1q9), (.int .u64 b2_2q10), (.int .i64 b2_3q11), (.int .i64 b2_4q12), (.str b2_5q13), (.str b2_6q14), (.int .i64 b2_7q15)])] : List AV).length) then (bif decide ((a1q7.length + ([(.agg [(.bool b2_0q8), (.int .u64 b2_1q9), (.int .u64 b2_2q10), (.int .i64 b2_3q11), (.int .i64 b2_4q12), (.str b2_5q13), (.str b2_6q14), (.int .i64 b2_7q15)])] : List AV).length) * 80 ≤ 140737488355328) then (next (IntKind.i64.wrap (v11 + (1 : Int))) b0_0q3 b0_1q4 b0_2q5 b0_3q6 (a1q7 ++ ([(.agg [(.bool b2_0q8), (.int .u64 b2_1q9), (.int .u64 b2_2q10), (.int .i64 b2_3q11), (.int .i64 b2_4q12), (.str b2_5q13), (.str b2_6q14), (.int .i64 b2_7q15)])] : List AV))) else none) else none) else none) else (next (IntKind.i64.wrap (v11 + (1 : Int))) b0_0q3 b0_1q4 b0_2q5 b0_3q6 a1q7)))) else none) else none)) else (kx0 a1))
def qjf  (v0 v9 : List AV) (v10 : Int) (kx0 : (List AV) → Option (List AV)) : Nat → Int → Bool → Int → Int → Int → (List AV) → Option (List AV)
  | 0 => (fun _ _ _ _ _ _ => none)
  | n + 1 => (fun v11 Ai Aj Ak Al a1 => qer v0 v9 v10 v11 Ai Aj Ak Al a1 (qjf v0 v9 v10 kx0 n) kx0)
def qkp := hull (qjf)
theorem qq8 : qkp = qjf := hull_eq _
def qes : AC (List AV) :=
  .seq (.reg [ao 12 (.bin .lss 11 10)]) (.seq (.cond 12 (.skip) (.seq (.view [.sel [5] [1]]) (.exit 0))) (.seq (.block 1 (.seq (.reg [ao 13 (.ia 8 9 11),
 .st (.etac 13 qa),
 ao 14 (.load true 8 13),
 ao 7 (.alloc [(.bool false), (.int .u64 0), (.int .u64 0), (.int .i64 0), (.int .i64 0), (.str []), (.str []), (.int .i64 0)]),
 an (.store 8 7 14)]) (.seq (.reg [ao 15 (.mkf 67 [3, 7]),
 ao 8 (.mv 15)]) (.seq (.seq (.view [.sel [0, 3, 5, 7, 8, 9, 10, 11] [0, 1, 2]]) (.sub (scOf qiq) qq7)) (.cond 25 (.reg [ao 26 (.mv 5),
 ao 27 (.load true 8 7),
 ao 28 (.bsl 8 [27]),
 ao 29 (.app 8 80 26 28),
 ao 5 (.mv 29)]) (.skip)))))) (.seq (.reg [ao 30 (.bin .add 11 (.c (.int .i64 1))),
 ao 11 (.mv 30)]) (.view [.sel [0, 3, 5, 9, 10, 11] [0, 1]]))))
theorem qzn : AC.ok Try.prog (TIof Try.prog) 32 0 (kret [.t 4] (decF true 8)) qes := ok_of (zA qzm trivial)
theorem qyr (v0 v9 : List AV) (v10 v11 : Int) (Ai : Bool) (Aj Ak Al : Int) (a1 : List AV) (K : Ex → Env → Mem → Option (List AV)) : den 0 (kret [.t 4] (decF true 8)) qes (qlo v0 v9 v10 v11 Ai Aj Ak Al a1) (qlp v0 v9 v10 v11 Ai Aj Ak Al a1) K = qer v0 v9 v10 v11 Ai Aj Ak Al a1 (fun z_v11 z_b0_0 z_b0_1 z_b0_2 z_b0_3 z_a1 => K .norm (qlo v0 v9 v10 z_v11 z_b0_0 z_b0_1 z_b0_2 z_b0_3 z_a1) (qlp v0 v9 v10 z_v11 z_b0_0 z_b0_1 z_b0_2 z_b0_3 z_a1)) (qh9 K) := by kernel_rfl
theorem q0u (v0 v9 : List AV) (v10 : Int) (K : Ex → Env → Mem → Option (List AV)) : ∀ (n : Nat) (v11 : Int) (Ai : Bool) (Aj Ak Al : Int) (a1 : List AV), iterD (den 0 (kret [.t 4] (decF true 8)) qes) n (qlo v0 v9 v10 v11 Ai Aj Ak Al a1) (qlp v0 v9 v10 v11 Ai Aj Ak Al a1) K = qkp v0 v9 v10 (qh9 K) n v11 Ai Aj Ak Al a1 := by
  rw [qq8]
  intro n
  induction n with
  | zero => intros; rfl
  | succ n ih =>
 intro v11 Ai Aj Ak Al a1
 exact (qyr v0 v9 v10 v11 Ai Aj Ak Al a1 (itK (den 0 (kret [.t 4] (decF true 8)) qes) n K)).trans (congrArg (fun q => qer v0 v9 v10 v11 Ai Aj Ak Al a1 q (qh9 K)) (funext fun v11 => funext fun Ai => funext fun Aj => funext fun Ak => funext fun Al => funext fun a1 => ih v11 Ai Aj Ak Al a1))
def qsf := subE (R := (List AV)) qyq fun t m K => qd (bxC (m.s 0)) (qkp (gL [t 0] 0) (gL [t 9] 0) (gI [t 10] 0) (qh9 K) FU (gI [t 11] 0)) (arL (m.s 1))
theorem q0v : SubOk Try.prog (TIof Try.prog) 32 0 (kret [.t 4] (decF true 8)) (.loop (scOf qes)) (qsf) :=
  loop_mk tabOk follows (qzn) (er_of (by kernel_rfl)) fun t m K => q0u _ _ _ K FU _ _ _ _ _ _
def q14 : Shp := ⟨[(0, .one (.l (.sl 8))), (1, .st (lk qe))], []⟩
def qpd (v0 : List AV) (Aq : Bool) (Ar As At : Int) : Option (List AV) :=
  (bif (hd ([] : List AV) (([] : List AV).length) && true) then (qkp v0 v0 (v0.length : Int) (fun a0q1 => (bif hd a0q1 a0q1.length then (some a0q1) else none)) FU (0 : Int) Aq Ar As At ([] : List AV)) else none)
def qir := hull qpd
theorem qun : qir = qpd := hull_eq _
def qpe : AC (List AV) :=
  .seq (.reg [ao 3 (.box 1),
 ao 4 (.mv (.c .nils))]) (.seq (.reg [ao 5 (.mv (.c .nils))]) (.seq (.seq (.reg [ao 9 (.mv 0),
 ao 10 (.len false 9),
 ao 11 (.mv (.c (.int .i64 0)))]) (.block 0 (.seq (.view [.own 5 8, .sel [0, 3, 5, 9, 10, 11] [0, 1]]) (.sub (.loop (scOf qes)) qsf)))) (.seq (.reg [ao 31 (.mv 5),
 ao 4 (.mv 31)]) (.ret))))
theorem q3u : AC.ok Try.prog (TIof Try.prog) 32 0 (kret [.t 4] (decF true 8)) qpe := ok_of (zA q0v trivial)
theorem q5t (v0 : List AV) (Aq : Bool) (Ar As At : Int) : den 0 (kret [.t 4] (decF true 8)) qpe (envOf [(0, (.sl 8 v0)), (1, .agg (qb Aq Ar As At))]) (memOf []) (kend (kret [.t 4] (decF true 8))) = qir v0 Aq Ar As At := by
  rw [qun]; kernel_rfl
theorem q5u : cFn (TIof Try.prog) Try.f30 = some ⟨32, [.t 4], scOf qpe⟩ := by kernel_rfl
def q5v (xs : List AV) : Option (List AV) := qd ((entry xs) 1).cells (qir (gL [(entry xs) 0] 0))
def qs3 {R : Type} : List AV → (AV → Option R) → Option R := entF q14 q5v (AV.fr true 8)
theorem q5w {R : Type} : EntOkB Try.prog 30 (qs3 (R := R)) :=
  ent_mk tabOk follows Try.func30 (by kernel_rfl) q5u hdeF q3u (er_of (by kernel_rfl)) fun xs => q5t _ _ _ _ _
def q3v : Shp := ⟨[(0, .st (lk qe)), (1, .st (lk qe))], []⟩
def qqq (Aa : Bool) (Ab Ac Ad : Int) (Aq : Bool) (Ar As At : Int) : Option Bool :=
  (oB (qgx Aa Ab Ac Ad Aq Ar As At) fun r1 => (bif r1 then (some true) else (oB (qgx Aq Ar As At Aa Ab Ac Ad) fun r2 => (some r2))))
def qlq := hull qqq
theorem qv6 : qlq = qqq := hull_eq _
def qqr : AC Bool :=
  .seq (.reg [ao 2 (.box 0),
 ao 3 (.box 1),
 ao 4 (.mv (.c (.bool false)))]) (.seq (.reg [ao 5 (.load true 4 2),
 ao 6 (.load true 4 3),
 .call (po 7 (.call 37 [5, 6])) 37 qiy,
 ao 8 (.mv 7),
 ag 9 8 false (.load true 4 3),
 ag 10 8 false (.load true 4 2),
 .call (pg 11 8 false (.call 37 [9, 10])) 37 qiy,
 ao 12 (.pick 8 (.c (.bool true)) 11),
 ao 4 (.mv 12)]) (.ret))
theorem q5x : AC.ok Try.prog (TIof Try.prog) 13 0 (kret [.t 4] decB) qqr := ok_of (zA (EntOkB.ok qm6) (zA (EntOkB.ok qm6) trivial))
theorem q7r (Aa : Bool) (Ab Ac Ad : Int) (Aq : Bool) (Ar As At : Int) : den 0 (kret [.t 4] decB) qqr (envOf [(0, .agg (qb Aa Ab Ac Ad)), (1, .agg (qb Aq Ar As At))]) (memOf []) (kend (kret [.t 4] decB)) = qlq Aa Ab Ac Ad Aq Ar As At := by
  rw [qv6]; kernel_rfl
theorem q7s : cFn (TIof Try.prog) Try.f36 = some ⟨13, [.t 4], scOf qqr⟩ := by kernel_rfl
def q7t (xs : List AV) : Option Bool := qd ((entry xs) 1).cells (qd ((entry xs) 0).cells (qlq))
def qup {R : Type} : List AV → (AV → Option R) → Option R := entF q3v q7t AV.bool
theorem q7u {R : Type} : EntOkB Try.prog 36 (qup (R := R)) :=
  ent_mk tabOk follows Try.func36 (by kernel_rfl) q7s hdeB q5x (er_of (by kernel_rfl)) fun xs => q7r _ _ _ _ _ _ _ _
def qsg : Shp := ⟨[(0, .one (.own 0)), (1, .one (.l (.sl 8))), (2, .st (lk qe))], [.arr true 4]⟩
def qei (rec : (List AV) → (List AV) → Bool → Int → Int → Int → Option (List AV)) (xs cl : List AV) : Option (List AV) := chk (fitS0 qsg (entry (.own 0 xs.length :: cl)) (M1 4 xs)) (cond (hdS qsg (entry (.own 0 xs.length :: cl)) (M1 4 xs)) (rec xs (gL [(entry (.own 0 xs.length :: cl)) 1] 0) (gB ((entry (.own 0 xs.length :: cl)) 2).cells 0) (gI ((entry (.own 0 xs.length :: cl)) 2).cells 1) (gI ((entry (.own 0 xs.length :: cl)) 2).cells 2) (gI ((entry (.own 0 xs.length :: cl)) 2).cells 3)) none)
def qkq  (a0 : List AV) (Au : Bool) (Av Aw Ax : Int) (K : Ex → Env → Mem → Option (List AV)) := (fun z_a2 => K (.exit 0) (envOf [(0, (.own 0 a0.length)), (5, (.ptr 1 0)), (7, (.own 2 z_a2.length))]) (memOf [(some (.arr true 4 a0)), (some (.box true (qb Au Av Aw Ax))), (some (.arr true 8 z_a2))]))
def q3w : Shp := ⟨[(0, .one (.own 0)), (5, .one (.ptr 1 0)), (7, .one (.own 2)), (13, .one (.l (.sl 8))), (14, .one (.l (.i .i64))), (15, .one (.l (.i .i64)))], [.arr true 4, .box true (lk qe), .arr true 8]⟩
def qpf (v13 : List AV) (v14 v15 : Int) (a0 : List AV) (Au : Bool) (Av Aw Ax : Int) (a2 : List AV) : Env := envOf [(0, (.own 0 a0.length)), (5, (.ptr 1 0)), (7, (.own 2 a2.length)), (13, (.sl 8 v13)), (14, (.int .i64 v14)), (15, (.int .i64 v15))]
def qpg (v13 : List AV) (v14 v15 : Int) (a0 : List AV) (Au : Bool) (Av Aw Ax : Int) (a2 : List AV) : Mem := memOf [(some (.arr true 4 a0)), (some (.box true (qb Au Av Aw Ax))), (some (.arr true 8 a2))]
def qht  (rec : (List AV) → (List AV) → Bool → Int → Int → Int → Option (List AV)) (v13 : List AV) (v14 v15 : Int) (a0 : List AV) (Au : Bool) (Av Aw Ax : Int) (a2 : List AV) (next : Int → (List AV) → Option (List AV)) (kx0 : (List AV) → Option (List AV)) : Option (List AV) :=
  (bif (decide (v15 < v14)) then (oB (ixB v13 v15) fun y1 => (bif fitC qa y1.cells then (oB (qgx Au Av Aw Ax (gB y1.cells 0) (gI y1.cells 1) (gI y1.cells 2) (gI y1.cells 3)) fun r2 => (bif r2 then (bif hd a0 a0.length then (some a0) else none) else (oB (qlq (gB y1.cells 0) (gI y1.cells 1) (gI y1.cells 2) (gI y1.cells 3) Au Av Aw Ax) fun r3 => (bif r3 then (bif hd a2 a2.length then (bif hd ([(.agg [(.bool (gB y1.cells 0)), (.int .u64 (gI y1.cells 1)), (.int .u64 (gI y1.cells 2)), (.int .i64 (gI y1.cells 3)), (.int .i64 (gI y1.cells 4)), (.str (gS y1.cells 5)), (.str (gS y1.cells 6)), (.int .i64 (gI y1.cells 7))])] : List AV) (([(.agg [(.bool (gB y1.cells 0)), (.int .u64 (gI y1.cells 1)), (.int .u64 (gI y1.cells 2)), (.int .i64 (gI y1.cells 3)), (.int .i64 (gI y1.cells 4)), (.str (gS y1.cells 5)), (.str (gS y1.cells 6)), (.int .i64 (gI y1.cells 7))])] : List AV).length) then (bif decide ((a2.length + ([(.agg [(.bool (gB y1.cells 0)), (.int .u64 (gI y1.cells 1)), (.int .u64 (gI y1.cells 2)), (.int .i64 (gI y1.cells 3)), (.int .i64 (gI y1.cells 4)), (.str (gS y1.cells 5)), (.str (gS y1.cells 6)), (.int .i64 (gI y1.cells 7))])] : List AV).length) * 80 ≤ 140737488355328) then (next (IntKind.i64.wrap (v15 + (1 : Int))) (a2 ++ ([(.agg [(.bool (gB y1.cells 0)), (.int .u64 (gI y1.cells 1)), (.int .u64 (gI y1.cells 2)), (.int .i64 (gI y1.cells 3)), (.int .i64 (gI y1.cells 4)), (.str (gS y1.cells 5)), (.str (gS y1.cells 6)), (.int .i64 (gI y1.cells 7))])] : List AV))) else none) else none) else none) else (next (IntKind.i64.wrap (v15 + (1 : Int))) a2))))) else none)) else (kx0 a2))
def qmb  (rec : (List AV) → (List AV) → Bool → Int → Int → Int → Option (List AV)) (v13 : List AV) (v14 : Int) (a0 : List AV) (Au : Bool) (Av Aw Ax : Int) (kx0 : (List AV) → Option (List AV)) : Nat → Int → (List AV) → Option (List AV)
  | 0 => (fun _ _ => none)
  | n + 1 => (fun v15 a2 => qht rec v13 v14 v15 a0 Au Av Aw Ax a2 (qmb rec v13 v14 a0 Au Av Aw Ax kx0 n) kx0)
def qlr  (rec : (List AV) → (List AV) → Bool → Int → Int → Int → Option (List AV)):= hull (qmb rec)
theorem qv7  (rec : (List AV) → (List AV) → Bool → Int → Int → Int → Option (List AV)): qlr rec = qmb rec := hull_eq _
def qhu (rec : (List AV) → (List AV) → Bool → Int → Int → Int → Option (List AV)) : AC (List AV) :=
  .seq (.reg [ao 16 (.bin .lss 15 14)]) (.seq (.cond 16 (.skip) (.seq (.view [.sel [0, 5, 7] [0, 1, 2]]) (.exit 0))) (.seq (.block 1 (.seq (.reg [ao 17 (.ia 8 13 15),
 .st (.etac 17 qa),
 ao 18 (.load true 8 17),
 ao 9 (.alloc [(.bool false), (.int .u64 0), (.int .u64 0), (.int .i64 0), (.int .i64 0), (.str []), (.str []), (.int .i64 0)]),
 an (.store 8 9 18)]) (.seq (.seq (.reg [ao 19 (.load true 4 5),
 ao 20 (.fa 0 9),
 ao 21 (.load true 4 20),
 .call (po 22 (.call 37 [19, 21])) 37 qiy]) (.cond 22 (.seq (.reg [ao 23 (.mv 0),
 ao 6 (.mv 23)]) (.ret)) (.skip))) (.seq (.reg [ao 24 (.fa 0 9),
 ao 25 (.load true 4 24),
 ao 26 (.load true 4 5),
 .call (po 27 (.call 36 [25, 26])) 36 qup]) (.cond 27 (.reg [ao 28 (.mv 7),
 ao 29 (.load true 8 9),
 ao 30 (.bsl 8 [29]),
 ao 31 (.app 8 80 28 30),
 ao 7 (.mv 31)]) (.skip)))))) (.seq (.reg [ao 32 (.bin .add 15 (.c (.int .i64 1))),
 ao 15 (.mv 32)]) (.view [.sel [0, 5, 7, 13, 14, 15] [0, 1, 2]]))))
theorem q5y (rec : (List AV) → (List AV) → Bool → Int → Int → Int → Option (List AV)) (hrec : GrowOk Try.prog 69 4 (qei rec)) : AC.ok Try.prog (TIof Try.prog) 56 1 (kretr [.t 6] (grK 4)) (qhu rec) := ok_of (zA (EntOkB.ok qm6) (zA (EntOkB.ok q7u) trivial))
theorem q3x (rec : (List AV) → (List AV) → Bool → Int → Int → Int → Option (List AV)) (v13 : List AV) (v14 v15 : Int) (a0 : List AV) (Au : Bool) (Av Aw Ax : Int) (a2 : List AV) (K : Ex → Env → Mem → Option (List AV)) : den 1 (kretr [.t 6] (grK 4)) (qhu rec) (qpf v13 v14 v15 a0 Au Av Aw Ax a2) (qpg v13 v14 v15 a0 Au Av Aw Ax a2) K = qht rec v13 v14 v15 a0 Au Av Aw Ax a2 (fun z_v15 z_a2 => K .norm (qpf v13 v14 z_v15 a0 Au Av Aw Ax z_a2) (qpg v13 v14 z_v15 a0 Au Av Aw Ax z_a2)) (qkq a0 Au Av Aw Ax K) := by kernel_rfl
theorem q7v (rec : (List AV) → (List AV) → Bool → Int → Int → Int → Option (List AV)) (v13 : List AV) (v14 : Int) (a0 : List AV) (Au : Bool) (Av Aw Ax : Int) (K : Ex → Env → Mem → Option (List AV)) : ∀ (n : Nat) (v15 : Int) (a2 : List AV), iterD (den 1 (kretr [.t 6] (grK 4)) (qhu rec)) n (qpf v13 v14 v15 a0 Au Av Aw Ax a2) (qpg v13 v14 v15 a0 Au Av Aw Ax a2) K = qlr rec v13 v14 a0 Au Av Aw Ax (qkq a0 Au Av Aw Ax K) n v15 a2 := by
  rw [qv7]
  intro n
  induction n with
  | zero => intros; rfl
  | succ n ih =>
 intro v15 a2
 exact (q3x rec v13 v14 v15 a0 Au Av Aw Ax a2 (itK (den 1 (kretr [.t 6] (grK 4)) (qhu rec)) n K)).trans (congrArg (fun q => qht rec v13 v14 v15 a0 Au Av Aw Ax a2 q (qkq a0 Au Av Aw Ax K)) (funext fun v15 => funext fun a2 => ih v15 a2))
def qxc (rec : (List AV) → (List AV) → Bool → Int → Int → Int → Option (List AV)) := subE (R := List AV) q3w fun t m K => qd (bxC (m.s 1)) (qlr rec (gL [t 13] 0) (gI [t 14] 0) (arL (m.s 0))) (qkq (arL (m.s 0)) (gB (bxC (m.s 1)) 0) (gI (bxC (m.s 1)) 1) (gI (bxC (m.s 1)) 2) (gI (bxC (m.s 1)) 3) K) FU (gI [t 15] 0) (arL (m.s 2))
theorem q7w (rec : (List AV) → (List AV) → Bool → Int → Int → Int → Option (List AV)) (hrec : GrowOk Try.prog 69 4 (qei rec)) : SubOk Try.prog (TIof Try.prog) 56 1 (kretr [.t 6] (grK 4)) (.loop (scOf (qhu rec))) (qxc rec) :=
  loop_mk tabOk follows (q5y rec hrec) (er_of (by kernel_rfl)) fun t m K => q7v rec _ _ _ _ _ _ _ K FU _ _
def qpy (rec : (List AV) → (List AV) → Bool → Int → Int → Int → Option (List AV)) (a0 v1 : List AV) (Br : Bool) (Bs Bt Bu : Int) : Option (List AV) :=
  (bif (hd a0 (a0.length) && (hd ([] : List AV) (([] : List AV).length) && true)) then (qlr rec v1 (v1.length : Int) a0 Br Bs Bt Bu (fun a2q1 => (bif ((a2q1.length : Int) == (0 : Int)) then (bif hd a0 a0.length then (bif hd ([(.agg [(.bool Br), (.int .u64 Bs), (.int .u64 Bt), (.int .i64 Bu)])] : List AV) (([(.agg [(.bool Br), (.int .u64 Bs), (.int .u64 Bt), (.int .i64 Bu)])] : List AV).length) then (bif decide ((a0.length + ([(.agg [(.bool Br), (.int .u64 Bs), (.int .u64 Bt), (.int .i64 Bu)])] : List AV).length) * 32 ≤ 140737488355328) then (bif hd (a0 ++ ([(.agg [(.bool Br), (.int .u64 Bs), (.int .u64 Bt), (.int .i64 Bu)])] : List AV)) ((a0 ++ ([(.agg [(.bool Br), (.int .u64 Bs), (.int .u64 Bt), (.int .i64 Bu)])] : List AV)).length) then (some (a0 ++ ([(.agg [(.bool Br), (.int .u64 Bs), (.int .u64 Bt), (.int .i64 Bu)])] : List AV))) else none) else none) else none) else none) else (oB (qiv Br Bs Bt Bu) fun r2 => (bif (!r2.2.2) then (bif hd a0 a0.length then (some a0) else none) else (bif hd a2q1 a2q1.length then (bif hd a0 a0.length then (oB (bif (hd a0 (a0.length) && true) then (rec a0 a2q1 (gB r2.1.cells 0) (gI r2.1.cells 1) (gI r2.1.cells 2) (gI r2.1.cells 3)) else none) fun r3 => (bif hd r3 r3.length then (oB (bif (hd r3 (r3.length) && true) then (rec r3 a2q1 (gB r2.2.1.cells 0) (gI r2.2.1.cells 1) (gI r2.2.1.cells 2) (gI r2.2.1.cells 3)) else none) fun r4 => (bif hd r4 r4.length then (some r4) else none)) else none)) else none) else none))))) FU (0 : Int) ([] : List AV)) else none)
def qd2 : Nat → (List AV) → (List AV) → Bool → Int → Int → Int → Option (List AV)
  | 0 => (fun _ _ _ _ _ _ => none)
  | n + 1 => (fun a0 v1 Br Bs Bt Bu => qpy (qd2 n) a0 v1 Br Bs Bt Bu)
def qts : (List AV) → (List AV) → Bool → Int → Int → Int → Option (List AV) := hull (qd2 FU)
theorem qzo : qts = qd2 FU := hull_eq _
def qmn (rec : (List AV) → (List AV) → Bool → Int → Int → Int → Option (List AV)) : AC (List AV) :=
  .seq (.reg [ao 5 (.box 2),
 ao 6 (.mv (.c .nils))]) (.seq (.reg [ao 7 (.mv (.c .nils))]) (.seq (.seq (.reg [ao 13 (.mv 1),
 ao 14 (.len false 13),
 ao 15 (.mv (.c (.int .i64 0)))]) (.block 0 (.seq (.view [.own 7 8, .sel [0, 5, 7, 13, 14, 15] [0, 1, 2]]) (.sub (.loop (scOf (qhu rec))) (qxc rec))))) (.seq (.seq (.reg [ao 33 (.mv 7),
 ao 34 (.len false 33),
 ao 35 (.bin .eql 34 (.c (.int .i64 0)))]) (.cond 35 (.seq (.reg [ao 36 (.mv 0),
 ao 37 (.load true 4 5),
 ao 38 (.bsl 4 [37]),
 ao 39 (.app 4 32 36 38),
 ao 6 (.mv 39)]) (.ret)) (.skip))) (.seq (.reg [ao 41 (.load true 4 5),
 .call (po 42 (.call 59 [41])) 59 qk6,
 ao 40 (.mv 42),
 ao 43 (.ext 40 0),
 ao 44 (.ext 40 1),
 ao 45 (.ext 40 2),
 ao 10 (.alloc [(.bool false), (.int .u64 0), (.int .u64 0), (.int .i64 0)]),
 ao 11 (.alloc [(.bool false), (.int .u64 0), (.int .u64 0), (.int .i64 0)]),
 an (.store 4 10 43),
 an (.store 4 11 44),
 ao 12 (.mv 45)]) (.seq (.seq (.reg [ao 46 (.mv 12),
 ao 47 (.un .not 46)]) (.cond 47 (.seq (.reg [ao 48 (.mv 0),
 ao 6 (.mv 48)]) (.ret)) (.skip))) (.seq (.seq (.view [.snap 7]) (.draw4 [(po 49 (.mv 0)), (po 50 (.mv 7)), (po 51 (.load true 4 10))] 52 69 4 49 [50, 51] (qei rec) [(po 53 (.mv 7)), (po 54 (.load true 4 11))] [.callr (po 55 (.call 69 [52, 53, 54])) 69 (e_grow 4 (qei rec)),
 ao 6 (.mv 55)])) (.ret)))))))
theorem qba6 (rec : (List AV) → (List AV) → Bool → Int → Int → Int → Option (List AV)) (hrec : GrowOk Try.prog 69 4 (qei rec)) : AC.ok Try.prog (TIof Try.prog) 56 1 (kretr [.t 6] (grK 4)) (qmn rec) := ok_of (zA (q7w rec hrec) (zA (EntOkB.ok qr9) (zA hrec (zA (grow_lift hrec) trivial))))
theorem qbb6 (rec : (List AV) → (List AV) → Bool → Int → Int → Int → Option (List AV)) (v1 : List AV) (Br : Bool) (Bs Bt Bu : Int) (a0 : List AV) : den 1 (kretr [.t 6] (grK 4)) (qmn rec) (envOf [(0, (.own 0 a0.length)), (1, (.sl 8 v1)), (2, .agg (qb Br Bs Bt Bu))]) (memOf [(some (.arr true 4 a0))]) (kend (kretr [.t 6] (grK 4))) = qpy rec a0 v1 Br Bs Bt Bu := by
  kernel_rfl
theorem qbb7 : cFn (TIof Try.prog) Try.f69 = some ⟨56, [.t 6], scOf (qmn (fun _ _ _ _ _ _ => none))⟩ := by kernel_rfl
theorem qbb8 (rec : (List AV) → (List AV) → Bool → Int → Int → Int → Option (List AV)) : (qmn rec).er = some (scOf (qmn (fun _ _ _ _ _ _ => none))) := by kernel_rfl
theorem qzp : ∀ (k : Nat), GrowOk Try.prog 69 4 (qei (qd2 k))
  | 0 => fun xs cl zs h => by
   unfold qei at h
   obtain ⟨h1, h2⟩ := chk_some h
   obtain ⟨h3, h4⟩ := cond_some h2
   cases h4
  | k + 1 => fun xs cl zs h => by
   unfold qei at h
   obtain ⟨h1, h2⟩ := chk_some h
   obtain ⟨h3, h4⟩ := cond_some h2
   exact ref_of tabOk follows Try.func69 (by kernel_rfl) qbb7 (qba6 (qd2 k) (qzp k)) (qbb8 (qd2 k)) qsg (fitS_of h1 h3) ((qbb6 (qd2 k) (gL [(entry (.own 0 xs.length :: cl)) 1] 0) (gB ((entry (.own 0 xs.length :: cl)) 2).cells 0) (gI ((entry (.own 0 xs.length :: cl)) 2).cells 1) (gI ((entry (.own 0 xs.length :: cl)) 2).cells 2) (gI ((entry (.own 0 xs.length :: cl)) 2).cells 3) (arL ((M1 4 xs).s 0))).trans h4)
theorem qbb9 : GrowOk Try.prog 69 4 (qei qts) := by
  have h := qzp FU
  rw [← qzo] at h
  exact h
def qjz  (Ai : Bool) (Aj Ak Al : Int) (K : Ex → Env → Mem → Option (List AV)) := (fun z_a1 => K (.exit 0) (envOf [(3, (.ptr 0 0)), (7, (.own 1 z_a1.length))]) (memOf [(some (.box true (qb Ai Aj Ak Al))), (some (.arr true 8 z_a1))]))
def q15 : Shp := ⟨[(3, .one (.ptr 0 0)), (7, .one (.own 1)), (23, .one (.l (.sl 8))), (24, .one (.l (.i .i64))), (25, .one (.l (.i .i64)))], [.box true (lk qe), .arr true 8]⟩
def qod (v23 : List AV) (v24 v25 : Int) (Ai : Bool) (Aj Ak Al : Int) (a1 : List AV) : Env := envOf [(3, (.ptr 0 0)), (7, (.own 1 a1.length)), (23, (.sl 8 v23)), (24, (.int .i64 v24)), (25, (.int .i64 v25))]
def qoe (v23 : List AV) (v24 v25 : Int) (Ai : Bool) (Aj Ak Al : Int) (a1 : List AV) : Mem := memOf [(some (.box true (qb Ai Aj Ak Al))), (some (.arr true 8 a1))]
def qgl  (v23 : List AV) (v24 v25 : Int) (Ai : Bool) (Aj Ak Al : Int) (a1 : List AV) (next : Int → (List AV) → Option (List AV)) (kx0 : (List AV) → Option (List AV)) : Option (List AV) :=
  (bif (decide (v25 < v24)) then (oB (ixB v23 v25) fun y1 => (bif fitC qa y1.cells then (oB (qez (gB y1.cells 0) (gI y1.cells 1) (gI y1.cells 2) (gI y1.cells 3) Ai Aj Ak Al) fun r2 => (bif r2 then (bif hd a1 a1.length then (bif hd ([(.agg [(.bool (gB y1.cells 0)), (.int .u64 (gI y1.cells 1)), (.int .u64 (gI y1.cells 2)), (.int .i64 (gI y1.cells 3)), (.int .i64 (gI y1.cells 4)), (.str (gS y1.cells 5)), (.str (gS y1.cells 6)), (.int .i64 (gI y1.cells 7))])] : List AV) (([(.agg [(.bool (gB y1.cells 0)), (.int .u64 (gI y1.cells 1)), (.int .u64 (gI y1.cells 2)), (.int .i64 (gI y1.cells 3)), (.int .i64 (gI y1.cells 4)), (.str (gS y1.cells 5)), (.str (gS y1.cells 6)), (.int .i64 (gI y1.cells 7))])] : List AV).length) then (bif decide ((a1.length + ([(.agg [(.bool (gB y1.cells 0)), (.int .u64 (gI y1.cells 1)), (.int .u64 (gI y1.cells 2)), (.int .i64 (gI y1.cells 3)), (.int .i64 (gI y1.cells 4)), (.str (gS y1.cells 5)), (.str (gS y1.cells 6)), (.int .i64 (gI y1.cells 7))])] : List AV).length) * 80 ≤ 140737488355328) then (next (IntKind.i64.wrap (v25 + (1 : Int))) (a1 ++ ([(.agg [(.bool (gB y1.cells 0)), (.int .u64 (gI y1.cells 1)), (.int .u64 (gI y1.cells 2)), (.int .i64 (gI y1.cells 3)), (.int .i64 (gI y1.cells 4)), (.str (gS y1.cells 5)), (.str (gS y1.cells 6)), (.int .i64 (gI y1.cells 7))])] : List AV))) else none) else none) else none) else (next (IntKind.i64.wrap (v25 + (1 : Int))) a1))) else none)) else (kx0 a1))
def qk8  (v23 : List AV) (v24 : Int) (Ai : Bool) (Aj Ak Al : Int) (kx0 : (List AV) → Option (List AV)) : Nat → Int → (List AV) → Option (List AV)
  | 0 => (fun _ _ => none)
  | n + 1 => (fun v25 a1 => qgl v23 v24 v25 Ai Aj Ak Al a1 (qk8 v23 v24 Ai Aj Ak Al kx0 n) kx0)
def qkr := hull (qk8)
theorem quq : qkr = qk8 := hull_eq _
def qgm : AC (List AV) :=
  .seq (.reg [ao 26 (.bin .lss 25 24)]) (.seq (.cond 26 (.skip) (.seq (.view [.sel [3, 7] [0, 1]]) (.exit 0))) (.seq (.block 1 (.seq (.reg [ao 27 (.ia 8 23 25),
 .st (.etac 27 qa),
 ao 28 (.load true 8 27),
 ao 9 (.alloc [(.bool false), (.int .u64 0), (.int .u64 0), (.int .i64 0), (.int .i64 0), (.str []), (.str []), (.int .i64 0)]),
 an (.store 8 9 28)]) (.seq (.reg [ao 29 (.fa 0 9),
 ao 30 (.load true 4 29),
 ao 31 (.load true 4 3),
 .call (po 32 (.call 64 [30, 31])) 64 qet]) (.cond 32 (.reg [ao 33 (.mv 7),
 ao 34 (.load true 8 9),
 ao 35 (.bsl 8 [34]),
 ao 36 (.app 8 80 33 35),
 ao 7 (.mv 36)]) (.skip))))) (.seq (.reg [ao 37 (.bin .add 25 (.c (.int .i64 1))),
 ao 25 (.mv 37)]) (.view [.sel [3, 7, 23, 24, 25] [0, 1]]))))
theorem q3y : AC.ok Try.prog (TIof Try.prog) 41 0 (kret [.t 4] (decF true 4)) qgm := ok_of (zA (EntOkB.ok qit) trivial)
theorem q16 (v23 : List AV) (v24 v25 : Int) (Ai : Bool) (Aj Ak Al : Int) (a1 : List AV) (K : Ex → Env → Mem → Option (List AV)) : den 0 (kret [.t 4] (decF true 4)) qgm (qod v23 v24 v25 Ai Aj Ak Al a1) (qoe v23 v24 v25 Ai Aj Ak Al a1) K = qgl v23 v24 v25 Ai Aj Ak Al a1 (fun z_v25 z_a1 => K .norm (qod v23 v24 z_v25 Ai Aj Ak Al z_a1) (qoe v23 v24 z_v25 Ai Aj Ak Al z_a1)) (qjz Ai Aj Ak Al K) := by kernel_rfl
theorem q5z (v23 : List AV) (v24 : Int) (Ai : Bool) (Aj Ak Al : Int) (K : Ex → Env → Mem → Option (List AV)) : ∀ (n : Nat) (v25 : Int) (a1 : List AV), iterD (den 0 (kret [.t 4] (decF true 4)) qgm) n (qod v23 v24 v25 Ai Aj Ak Al a1) (qoe v23 v24 v25 Ai Aj Ak Al a1) K = qkr v23 v24 Ai Aj Ak Al (qjz Ai Aj Ak Al K) n v25 a1 := by
  rw [quq]
  intro n
  induction n with
  | zero => intros; rfl
  | succ n ih =>
 intro v25 a1
 exact (q16 v23 v24 v25 Ai Aj Ak Al a1 (itK (den 0 (kret [.t 4] (decF true 4)) qgm) n K)).trans (congrArg (fun q => qgl v23 v24 v25 Ai Aj Ak Al a1 q (qjz Ai Aj Ak Al K)) (funext fun v25 => funext fun a1 => ih v25 a1))
def qv8 := subE (R := (List AV)) q15 fun t m K => qd (bxC (m.s 0)) (qkr (gL [t 23] 0) (gI [t 24] 0)) (qjz (gB (bxC (m.s 0)) 0) (gI (bxC (m.s 0)) 1) (gI (bxC (m.s 0)) 2) (gI (bxC (m.s 0)) 3) K) FU (gI [t 25] 0) (arL (m.s 1))
theorem q50 : SubOk Try.prog (TIof Try.prog) 41 0 (kret [.t 4] (decF true 4)) (.loop (scOf qgm)) (qv8) :=
  loop_mk tabOk follows (q3y) (er_of (by kernel_rfl)) fun t m K => q5z _ _ _ _ _ _ K FU _ _
def q9o : Shp := ⟨[(0, .one (.l (.sl 8))), (1, .st (lk qe))], []⟩
def qva (v0 : List AV) (Aq : Bool) (Ar As At : Int) : Option (List AV) :=
  (oB (qkx v0 Aq Ar As At) fun r1 => (bif ((!r1.2) || ((gI r1.1.cells 4) != (1 : Int))) then (bif hd ([] : List AV) (([] : List AV).length) then (some ([] : List AV)) else none) else (bif (hd ([] : List AV) (([] : List AV).length) && true) then (qkr v0 (v0.length : Int) Aq Ar As At (fun a1q2 => (bif hd a1q2 a1q2.length then (oB (bif (hd ([] : List AV) (([] : List AV).length) && true) then (qts ([] : List AV) a1q2 Aq Ar As At) else none) fun r3 => (bif hd r3 r3.length then (some r3) else none)) else none)) FU (0 : Int) ([] : List AV)) else none)))
def qmp := hull qva
theorem qzq : qmp = qva := hull_eq _
def qvb : AC (List AV) :=
  .seq (.reg [ao 3 (.box 1),
 ao 4 (.mv (.c .nils))]) (.seq (.seq (.reg [ao 11 (.mv 0),
 ao 12 (.load true 4 3),
 .call (po 13 (.call 24 [11, 12])) 24 qnc,
 ao 10 (.mv 13),
 ao 14 (.ext 10 0),
 ao 15 (.ext 10 1),
 ao 5 (.alloc [(.bool false), (.int .u64 0), (.int .u64 0), (.int .i64 0), (.int .i64 0), (.str []), (.str []), (.int .i64 0)]),
 an (.store 8 5 14),
 ao 6 (.mv 15)]) (.seq (.reg [ao 16 (.mv 6),
 ao 17 (.un .not 16),
 ao 18 (.mv 17),
 .grp 18 false [(pg 19 18 false (.fa 4 5)), (pg 20 18 false (.load false 1 19)), (pg 21 18 false (.bin .neq 20 (.c (.int .i64 1))))] 22 21]) (.cond 22 (.seq (.reg [ao 4 (.mv (.c .nils))]) (.seq (.view [.own 4 4]) (.ret))) (.skip)))) (.seq (.reg [ao 7 (.mv (.c .nils))]) (.seq (.seq (.reg [ao 23 (.mv 0),
 ao 24 (.len false 23),
 ao 25 (.mv (.c (.int .i64 0)))]) (.block 0 (.seq (.view [.own 7 8, .sel [3, 7, 23, 24, 25] [0, 2]]) (.sub (.loop (scOf qgm)) qv8)))) (.seq (.reg [ao 38 (.mv 7),
 ao 39 (.load true 4 3),
 .st (.snap 38),
 .callr (po 40 (.call 69 [(.c .nils), 38, 39])) 69 (e_grow 4 (qei qts)),
 ao 4 (.mv 40)]) (.ret)))))
theorem qba7 : AC.ok Try.prog (TIof Try.prog) 41 0 (kret [.t 4] (decF true 4)) qvb := ok_of (zA (EntOkB.ok qu6) (zA q50 (zA (grow_lift qbb9) trivial)))
theorem qbca (v0 : List AV) (Aq : Bool) (Ar As At : Int) : den 0 (kret [.t 4] (decF true 4)) qvb (envOf [(0, (.sl 8 v0)), (1, .agg (qb Aq Ar As At))]) (memOf []) (kend (kret [.t 4] (decF true 4))) = qmp v0 Aq Ar As At := by
  rw [qzq]; kernel_rfl
theorem qbcb : cFn (TIof Try.prog) Try.f33 = some ⟨41, [.t 4], scOf qvb⟩ := by kernel_rfl
def qbcc (xs : List AV) : Option (List AV) := qd ((entry xs) 1).cells (qmp (gL [(entry xs) 0] 0))
def qx8 {R : Type} : List AV → (AV → Option R) → Option R := entF q9o qbcc (AV.fr true 4)
theorem qbcd {R : Type} : EntOkB Try.prog 33 (qx8 (R := R)) :=
  ent_mk tabOk follows Try.func33 (by kernel_rfl) qbcb hdeF qba7 (er_of (by kernel_rfl)) fun xs => qbca _ _ _ _ _
def qis  (K : Ex → Env → Mem → Option Bool) := (fun (_ : Unit) => K (.exit 0) (envOf []) (memOf []))
def qzr : Shp := ⟨[(0, .one (.l (.sl 8))), (1, .one (.l (.sl 8))), (12, .one (.l (.i .i64))), (13, .one (.l (.i .i64)))], []⟩
def qmc (v0 v1 : List AV) (v12 v13 : Int) : Env := envOf [(0, (.sl 8 v0)), (1, (.sl 8 v1)), (12, (.int .i64 v12)), (13, (.int .i64 v13))]
def qmd (v0 v1 : List AV) (v12 v13 : Int) : Mem := memOf []
def qew  (v0 v1 : List AV) (v12 v13 : Int) (next : Int → Option Bool) (kx0 : Unit → Option Bool) : Option Bool :=
  (bif (decide (v13 < v12)) then (oB (ixB v0 v13) fun y1 => (bif fitC qa y1.cells then (oB (ixB v1 v13) fun y2 => (bif fitC qa y2.cells then (bif (!(((gB y1.cells 0) == (gB y2.cells 0)) && (((gI y1.cells 1) == (gI y2.cells 1)) && (((gI y1.cells 2) == (gI y2.cells 2)) && (((gI y1.cells 3) == (gI y2.cells 3)) && (((gI y1.cells 4) == (gI y2.cells 4)) && (((gS y1.cells 5) == (gS y2.cells 5)) && (((gS y1.cells 6) == (gS y2.cells 6)) && (((gI y1.cells 7) == (gI y2.cells 7)) && true))))))))) then (some false) else (next (IntKind.i64.wrap (v13 + (1 : Int))))) else none)) else none)) else (kx0 ()))
def qj0  (v0 v1 : List AV) (v12 : Int) (kx0 : Unit → Option Bool) : Nat → Int → Option Bool
  | 0 => (fun _ => none)
  | n + 1 => (fun v13 => qew v0 v1 v12 v13 (qj0 v0 v1 v12 kx0 n) kx0)
def qk9 := hull (qj0)
theorem qsh : qk9 = qj0 := hull_eq _
def qex : AC Bool :=
  .seq (.reg [ao 14 (.bin .lss 13 12)]) (.seq (.cond 14 (.skip) (.seq (.view [.sel [] []]) (.exit 0))) (.seq (.block 1 (.seq (.reg [ao 15 (.mv 13),
 ao 5 (.mv 15)]) (.seq (.draw [] [ao 16 (.mv 0),
 ao 17 (.mv 5),
 ao 18 (.ia 8 16 17),
 .et 18 qa,
 ao 19 (.load true 8 18),
 ao 20 (.mv 1),
 ao 21 (.mv 5),
 ao 22 (.ia 8 20 21),
 .et 22 qa,
 ao 23 (.load true 8 22)] [ao 24 (.eq true true [.b, (.i .u64), (.i .u64), (.i .i64), (.i .i64), .s, .s, (.i .i64)] 19 23)]) (.cond 24 (.seq (.reg [ao 4 (.mv (.c (.bool false)))]) (.ret)) (.skip))))) (.seq (.reg [ao 25 (.bin .add 13 (.c (.int .i64 1))),
 ao 13 (.mv 25)]) (.view [.sel [0, 1, 12, 13] []]))))
theorem q0w : AC.ok Try.prog (TIof Try.prog) 26 0 (kret [.t 4] decB) qex := ok_of (zA rfl trivial)
theorem qzs (v0 v1 : List AV) (v12 v13 : Int) (K : Ex → Env → Mem → Option Bool) : den 0 (kret [.t 4] decB) qex (qmc v0 v1 v12 v13) (qmd v0 v1 v12 v13) K = qew v0 v1 v12 v13 (fun z_v13 => K .norm (qmc v0 v1 v12 z_v13) (qmd v0 v1 v12 z_v13)) (qis K) := by kernel_rfl
theorem q17 (v0 v1 : List AV) (v12 : Int) (K : Ex → Env → Mem → Option Bool) : ∀ (n : Nat) (v13 : Int), iterD (den 0 (kret [.t 4] decB) qex) n (qmc v0 v1 v12 v13) (qmd v0 v1 v12 v13) K = qk9 v0 v1 v12 (qis K) n v13 := by
  rw [qsh]
  intro n
  induction n with
  | zero => intros; rfl
  | succ n ih =>
 intro v13
 exact (qzs v0 v1 v12 v13 (itK (den 0 (kret [.t 4] decB) qex) n K)).trans (congrArg (fun q => qew v0 v1 v12 v13 q (qis K)) (funext fun v13 => ih v13))
def qs4 := subE (R := Bool) qzr fun t m K => qk9 (gL [t 0] 0) (gL [t 1] 0) (gI [t 12] 0) (qis K) FU (gI [t 13] 0)
theorem q18 : SubOk Try.prog (TIof Try.prog) 26 0 (kret [.t 4] decB) (.loop (scOf qex)) (qs4) :=
  loop_mk tabOk follows (q0w) (er_of (by kernel_rfl)) fun t m K => q17 _ _ _ K FU _
def q51 : Shp := ⟨[(0, .one (.l (.sl 8))), (1, .one (.l (.sl 8)))], []⟩
def qsi (v0 v1 : List AV) : Option Bool :=
  (bif ((v0.length : Int) != (v1.length : Int)) then (some false) else (qk9 v0 v1 (v0.length : Int) (fun (_ : Unit) => (some true)) FU (0 : Int)))
def qiw := hull qsi
theorem qxd : qiw = qsi := hull_eq _
def qsj : AC Bool :=
  .seq (.reg [ao 4 (.mv (.c (.bool false)))]) (.seq (.seq (.reg [ao 6 (.mv 0),
 ao 7 (.len false 6),
 ao 8 (.mv 1),
 ao 9 (.len false 8),
 ao 10 (.bin .neq 7 9)]) (.cond 10 (.seq (.reg [ao 4 (.mv (.c (.bool false)))]) (.ret)) (.skip))) (.seq (.seq (.reg [ao 11 (.mv 0),
 ao 12 (.len false 11),
 ao 13 (.mv (.c (.int .i64 0)))]) (.block 0 (.seq (.view [.sel [0, 1, 12, 13] []]) (.sub (.loop (scOf qex)) qs4)))) (.seq (.reg [ao 4 (.mv (.c (.bool true)))]) (.ret))))
theorem q7x : AC.ok Try.prog (TIof Try.prog) 26 0 (kret [.t 4] decB) qsj := ok_of (zA q18 trivial)
theorem q9p (v0 v1 : List AV) : den 0 (kret [.t 4] decB) qsj (envOf [(0, (.sl 8 v0)), (1, (.sl 8 v1))]) (memOf []) (kend (kret [.t 4] decB)) = qiw v0 v1 := by
  rw [qxd]; kernel_rfl
theorem q9q : cFn (TIof Try.prog) Try.f19 = some ⟨26, [.t 4], scOf qsj⟩ := by kernel_rfl
def q9r (xs : List AV) : Option Bool := qiw (gL [(entry xs) 0] 0) (gL [(entry xs) 1] 0)
def qv9 {R : Type} : List AV → (AV → Option R) → Option R := entF q51 q9r AV.bool
theorem q9s {R : Type} : EntOkB Try.prog 19 (qv9 (R := R)) :=
  ent_mk tabOk follows Try.func19 (by kernel_rfl) q9q hdeB q7x (er_of (by kernel_rfl)) fun xs => q9p _ _
def qq9  (v1 : List AV) (v11 v13 : Bool) (v14 v15 : List AV) (Ai : Bool) (Aj Ak Al Am : Int) (An Ao : List UInt8) (Ap : Int) (Au : Bool) (Av Aw Ax Bv : Int) (Bw Bx : List UInt8) (By : Int) (K : Ex → Env → Mem → Option Bool) := (fun z_v125 => K .norm (envOf [(1, (.sl 8 v1)), (10, (.ptr 0 0)), (11, (.bool v11)), (12, (.ptr 1 0)), (13, (.bool v13)), (14, (.sl 8 v14)), (15, (.sl 4 v15)), (125, (.bool z_v125))]) (memOf [(some (.box true (qc Ai Aj Ak Al Am An Ao Ap))), (some (.box true (qc Au Av Aw Ax Bv Bw Bx By)))]))
def qys : Shp := ⟨[(1, .one (.l (.sl 8))), (3, .one (.l (.i .i64))), (4, .one (.l (.sl 8))), (5, .one (.l (.i .i64))), (6, .one (.l (.sl 8))), (7, .one (.l (.i .i64))), (8, .one (.l (.sl 8))), (9, .one (.l (.i .i64))), (10, .one (.ptr 0 0)), (11, .one (.l .b)), (12, .one (.ptr 1 0)), (13, .one (.l .b)), (14, .one (.l (.sl 8))), (15, .one (.l (.sl 4)))], [.box true (lk qa), .box true (lk qa)]⟩
def qme  (v1 : List AV) (v3 : Int) (v4 : List AV) (v5 : Int) (v6 : List AV) (v7 : Int) (v8 : List AV) (v9 : Int) (v11 v13 : Bool) (v14 v15 : List AV) (Ai : Bool) (Aj Ak Al Am : Int) (An Ao : List UInt8) (Ap : Int) (Au : Bool) (Av Aw Ax Bv : Int) (Bw Bx : List UInt8) (By : Int) (kn : Bool → Option Bool) : Option Bool :=
  (oB (qjo v1) fun r1 => (bif (r1 != (0 : Int)) then (kn true) else (bif (v3 != (25 : Int)) then (kn true) else (bif (v5 != (0 : Int)) then (kn true) else (bif ((v4.length : Int) != (4 : Int)) then (kn true) else (oB (ixB v4 (3 : Int)) fun y2 => (bif fitC qa y2.cells then (bif (!((gS y2.cells 5) == ([120] : List UInt8))) then (kn true) else (bif (v7 != (0 : Int)) then (kn true) else (bif ((v6.length : Int) != (5 : Int)) then (kn true) else (oB (ixB v6 (3 : Int)) fun y3 => (bif fitC qa y3.cells then (bif (!((gS y3.cells 5) == ([120, 45, 48] : List UInt8))) then (kn true) else (oB (ixB v6 (4 : Int)) fun y4 => (bif fitC qa y4.cells then (oB (qe0 (167870464 : Int) (17 : Int)) fun r5 => (bif (!(((gB y4.cells 0) == (gB r5.cells 0)) && (((gI y4.cells 1) == (gI r5.cells 1)) && (((gI y4.cells 2) == (gI r5.cells 2)) && (((gI y4.cells 3) == (gI r5.cells 3)) && true))))) then (kn true) else (bif (v9 != (0 : Int)) then (kn true) else (oB (qiw v8 v4) fun r6 => (kn (!r6)))))) else none))) else none))))) else none)))))))
def qks := hull (qme)
theorem qra : qks = qme := hull_eq _
def qjg : AC Bool :=
  .seq (.draw [] [ao 69 (.mv 1),
 .call (po 70 (.call 11 [69])) 11 qp8,
 ao 71 (.bin .neq 70 (.c (.int .i64 0))),
 ao 72 (.mv 71),
 ag 73 72 false (.mv 3),
 ag 74 72 false (.bin .neq 73 (.c (.int .i64 25))),
 ao 75 (.pick 72 (.c (.bool true)) 74),
 ao 76 (.mv 75),
 ag 77 76 false (.mv 5),
 ag 78 76 false (.bin .neq 77 (.c (.int .i64 0))),
 ao 79 (.pick 76 (.c (.bool true)) 78),
 ao 80 (.mv 79),
 ag 81 80 false (.mv 4),
 ag 82 80 false (.len false 81),
 ag 83 80 false (.bin .neq 82 (.c (.int .i64 4))),
 ao 84 (.pick 80 (.c (.bool true)) 83),
 ao 85 (.mv 84),
 ag 86 85 false (.mv 4),
 ag 87 85 false (.ia 8 86 (.c (.int .i64 3))),
 .et 87 qa,
 ag 88 85 false (.fa 5 87),
 ag 89 85 false (.load false 1 88),
 ag 90 85 false (.bin .neq 89 (.c (.str [120]))),
 ao 91 (.pick 85 (.c (.bool true)) 90),
 ao 92 (.mv 91),
 ag 93 92 false (.mv 7),
 ag 94 92 false (.bin .neq 93 (.c (.int .i64 0))),
 ao 95 (.pick 92 (.c (.bool true)) 94),
 ao 96 (.mv 95),
 ag 97 96 false (.mv 6),
 ag 98 96 false (.len false 97),
 ag 99 96 false (.bin .neq 98 (.c (.int .i64 5))),
 ao 100 (.pick 96 (.c (.bool true)) 99),
 ao 101 (.mv 100),
 ag 102 101 false (.mv 6),
 ag 103 101 false (.ia 8 102 (.c (.int .i64 3))),
 .et 103 qa,
 ag 104 101 false (.fa 5 103),
 ag 105 101 false (.load false 1 104),
 ag 106 101 false (.bin .neq 105 (.c (.str [120, 45, 48]))),
 ao 107 (.pick 101 (.c (.bool true)) 106),
 ao 108 (.mv 107),
 ag 109 108 false (.mv 6),
 ag 110 108 false (.ia 8 109 (.c (.int .i64 4))),
 .et 110 qa,
 ag 111 108 false (.fa 0 110),
 ag 112 108 false (.load true 4 111),
 .call (pg 113 108 false (.call 50 [(.c (.int .u64 167870464)), (.c (.int .i64 17))])) 50 qeu,
 ag 114 108 false (.eq true true [.b, (.i .u64), (.i .u64), (.i .i64)] 112 113),
 ao 115 (.pick 108 (.c (.bool true)) 114),
 ao 116 (.mv 115),
 ag 117 116 false (.mv 9),
 ag 118 116 false (.bin .neq 117 (.c (.int .i64 0))),
 ao 119 (.pick 116 (.c (.bool true)) 118),
 ao 120 (.mv 119),
 ag 121 120 false (.mv 8),
 ag 122 120 false (.mv 4)] [.call (pg 123 120 false (.call 19 [121, 122])) 19 qv9,
 ag 124 120 false (.un .not 123),
 ao 125 (.pick 120 (.c (.bool true)) 124)]) (.view [.sel [1, 10, 11, 12, 13, 14, 15, 125] [0, 1]])
theorem qzt : AC.ok Try.prog (TIof Try.prog) 177 0 (kret [.t 0] decB) qjg := ok_of (zA (EntOkB.ok qy0) (zA (EntOkB.ok qiu) (zA (EntOkB.ok q9s) (zA rfl trivial))))
theorem q0x (v1 : List AV) (v3 : Int) (v4 : List AV) (v5 : Int) (v6 : List AV) (v7 : Int) (v8 : List AV) (v9 : Int) (v11 v13 : Bool) (v14 v15 : List AV) (Ai : Bool) (Aj Ak Al Am : Int) (An Ao : List UInt8) (Ap : Int) (Au : Bool) (Av Aw Ax Bv : Int) (Bw Bx : List UInt8) (By : Int) (K : Ex → Env → Mem → Option Bool) : den 0 (kret [.t 0] decB) qjg (envOf [(1, (.sl 8 v1)), (3, (.int .i64 v3)), (4, (.sl 8 v4)), (5, (.int .i64 v5)), (6, (.sl 8 v6)), (7, (.int .i64 v7)), (8, (.sl 8 v8)), (9, (.int .i64 v9)), (10, (.ptr 0 0)), (11, (.bool v11)), (12, (.ptr 1 0)), (13, (.bool v13)), (14, (.sl 8 v14)), (15, (.sl 4 v15))]) (memOf [(some (.box true (qc Ai Aj Ak Al Am An Ao Ap))), (some (.box true (qc Au Av Aw Ax Bv Bw Bx By)))]) K = qks v1 v3 v4 v5 v6 v7 v8 v9 v11 v13 v14 v15 Ai Aj Ak Al Am An Ao Ap Au Av Aw Ax Bv Bw Bx By (qq9 v1 v11 v13 v14 v15 Ai Aj Ak Al Am An Ao Ap Au Av Aw Ax Bv Bw Bx By K) := by
  rw [qra]; kernel_rfl
def qsk := subE (R := Bool) qys fun t m K => qf (bxC (m.s 1)) (qf (bxC (m.s 0)) (qks (gL [t 1] 0) (gI [t 3] 0) (gL [t 4] 0) (gI [t 5] 0) (gL [t 6] 0) (gI [t 7] 0) (gL [t 8] 0) (gI [t 9] 0) (gB [t 11] 0) (gB [t 13] 0) (gL [t 14] 0) (gL [t 15] 0))) (qq9 (gL [t 1] 0) (gB [t 11] 0) (gB [t 13] 0) (gL [t 14] 0) (gL [t 15] 0) (gB (bxC (m.s 0)) 0) (gI (bxC (m.s 0)) 1) (gI (bxC (m.s 0)) 2) (gI (bxC (m.s 0)) 3) (gI (bxC (m.s 0)) 4) (gS (bxC (m.s 0)) 5) (gS (bxC (m.s 0)) 6) (gI (bxC (m.s 0)) 7) (gB (bxC (m.s 1)) 0) (gI (bxC (m.s 1)) 1) (gI (bxC (m.s 1)) 2) (gI (bxC (m.s 1)) 3) (gI (bxC (m.s 1)) 4) (gS (bxC (m.s 1)) 5) (gS (bxC (m.s 1)) 6) (gI (bxC (m.s 1)) 7) K)
theorem q0y : SubOk Try.prog (TIof Try.prog) 177 0 (kret [.t 0] decB) (scOf qjg) (qsk) :=
  sub_mk tabOk follows (qzt) (er_of (by kernel_rfl)) fun t m K => q0x _ _ _ _ _ _ _ _ _ _ _ _ _ _ _ _ _ _ _ _ _ _ _ _ _ _ _ _ K
def q3z : Shp := ⟨[], []⟩
def qqs : Option Bool :=
  (oB (qjt) fun r1 => (oB (ixB r1 (1 : Int)) fun y2 => (bif fitC qa y2.cells then (oB (qj7 r1 (gB y2.cells 0) (gI y2.cells 1) (gI y2.cells 2) (gI y2.cells 3)) fun r3 => (oB (qe0 (167837696 : Int) (16 : Int)) fun r4 => (oB (qom r1 (gB r4.cells 0) (gI r4.cells 1) (gI r4.cells 2) (gI r4.cells 3) (2 : Int) ([120] : List UInt8) ([] : List UInt8) (0 : Int)) fun r5 => (oB (qe0 (167837696 : Int) (16 : Int)) fun r6 => (oB (qll r5.1 (gB r6.cells 0) (gI r6.cells 1) (gI r6.cells 2) (gI r6.cells 3)) fun r7 => (oB (qe0 (167837696 : Int) (16 : Int)) fun r8 => (oB (qmo r7.1 (gB r8.cells 0) (gI r8.cells 1) (gI r8.cells 2) (gI r8.cells 3)) fun r9 => (oB (qe0 (167772166 : Int) (32 : Int)) fun r10 => (oB (qj8 r1 (gB r10.cells 0) (gI r10.cells 1) (gI r10.cells 2) (gI r10.cells 3)) fun r11 => (oB (qj9 r1 false (0 : Int) (168361984 : Int)) fun r12 => (oB (ixB r1 (0 : Int)) fun y13 => (bif fitC qa y13.cells then (oB (qir r1 (gB y13.cells 0) (gI y13.cells 1) (gI y13.cells 2) (gI y13.cells 3)) fun r14 => (oB (ixB r1 (0 : Int)) fun y15 => (bif fitC qa y15.cells then (oB (qmp r1 (gB y15.cells 0) (gI y15.cells 1) (gI y15.cells 2) (gI y15.cells 3)) fun r16 => (qks r1 r3.2 r5.1 r5.2 r7.1 r7.2 r9.1 r9.2 r11.2 r12.2 r14 r16 (gB r11.1.cells 0) (gI r11.1.cells 1) (gI r11.1.cells 2) (gI r11.1.cells 3) (gI r11.1.cells 4) (gS r11.1.cells 5) (gS r11.1.cells 6) (gI r11.1.cells 7) (gB r12.1.cells 0) (gI r12.1.cells 1) (gI r12.1.cells 2) (gI r12.1.cells 3) (gI r12.1.cells 4) (gS r12.1.cells 5) (gS r12.1.cells 6) (gI r12.1.cells 7) (fun v125q17 => (bif v125q17 then (some false) else (bif r11.2 then (oB (ixB r1 (1 : Int)) fun y18 => (bif fitC qa y18.cells then (bif (((gB r11.1.cells 0) == (gB y18.cells 0)) && (((gI r11.1.cells 1) == (gI y18.cells 1)) && (((gI r11.1.cells 2) == (gI y18.cells 2)) && (((gI r11.1.cells 3) == (gI y18.cells 3)) && (((gI r11.1.cells 4) == (gI y18.cells 4)) && (((gS r11.1.cells 5) == (gS y18.cells 5)) && (((gS r11.1.cells 6) == (gS y18.cells 6)) && (((gI r11.1.cells 7) == (gI y18.cells 7)) && true)))))))) then (bif r12.2 then (oB (ixB r1 (0 : Int)) fun y19 => (bif fitC qa y19.cells then (bif (((gB r12.1.cells 0) == (gB y19.cells 0)) && (((gI r12.1.cells 1) == (gI y19.cells 1)) && (((gI r12.1.cells 2) == (gI y19.cells 2)) && (((gI r12.1.cells 3) == (gI y19.cells 3)) && (((gI r12.1.cells 4) == (gI y19.cells 4)) && (((gS r12.1.cells 5) == (gS y19.cells 5)) && (((gS r12.1.cells 6) == (gS y19.cells 6)) && (((gI r12.1.cells 7) == (gI y19.cells 7)) && true)))))))) then (bif ((r14.length : Int) == (1 : Int)) then (oB (ixB r14 (0 : Int)) fun y20 => (bif fitC qa y20.cells then (oB (ixB r1 (1 : Int)) fun y21 => (bif fitC qa y21.cells then (bif (((gB y20.cells 0) == (gB y21.cells 0)) && (((gI y20.cells 1) == (gI y21.cells 1)) && (((gI y20.cells 2) == (gI y21.cells 2)) && (((gI y20.cells 3) == (gI y21.cells 3)) && (((gI y20.cells 4) == (gI y21.cells 4)) && (((gS y20.cells 5) == (gS y21.cells 5)) && (((gS y20.cells 6) == (gS y21.cells 6)) && (((gI y20.cells 7) == (gI y21.cells 7)) && true)))))))) then (bif ((r16.length : Int) == (16 : Int)) then (oB (ixB r16 (0 : Int)) fun y22 => (bif fitC qe y22.cells then (oB (qe0 (167772416 : Int) (24 : Int)) fun r23 => (bif (((gB y22.cells 0) == (gB r23.cells 0)) && (((gI y22.cells 1) == (gI r23.cells 1)) && (((gI y22.cells 2) == (gI r23.cells 2)) && (((gI y22.cells 3) == (gI r23.cells 3)) && true)))) then (oB (ixB r16 (15 : Int)) fun y24 => (bif fitC qe y24.cells then (oB (qe0 (176160768 : Int) (9 : Int)) fun r25 => (some (((gB y24.cells 0) == (gB r25.cells 0)) && (((gI y24.cells 1) == (gI r25.cells 1)) && (((gI y24.cells 2) == (gI r25.cells 2)) && (((gI y24.cells 3) == (gI r25.cells 3)) && true)))))) else none)) else (some false))) else none)) else (some false)) else (some false)) else none)) else none)) else (some false)) else (some false)) else none)) else (some false)) else (some false)) else none)) else (some false)))))) else none))) else none)))))))))))) else none)))
def qls := hull qqs
theorem qwa : qls = qqs := hull_eq _
def qqt : AC Bool :=
  .seq (.reg [ao 0 (.mv (.c (.bool false)))]) (.seq (.reg [.callc (po 16 (.call 49 [])) 49 qrz,
 ao 1 (.mv 16)]) (.seq (.reg [ao 18 (.mv 1),
 ao 19 (.mv 1),
 ao 20 (.ia 8 19 (.c (.int .i64 1))),
 .st (.etac 20 qa),
 ao 21 (.fa 0 20),
 ao 22 (.load true 4 21),
 .callc (po 23 (.call 17 [18, 22])) 17 qvt,
 ao 17 (.mv 23),
 ao 24 (.ext 17 0),
 ao 25 (.ext 17 1),
 ao 2 (.mv 24),
 ao 3 (.mv 25)]) (.seq (.reg [ao 27 (.mv 1),
 .call (po 28 (.call 50 [(.c (.int .u64 167837696)), (.c (.int .i64 16))])) 50 qeu,
 ao 29 (.build [(.bool false), (.int .u64 0), (.int .u64 0), (.int .i64 0), (.int .i64 0), (.str []), (.str []), (.int .i64 0)] [(0, (4, 28)), (4, (1, (.c (.int .i64 2)))), (5, (1, (.c (.str [120]))))]),
 .callc (po 30 (.call 15 [27, 29])) 15 qzd,
 ao 26 (.mv 30),
 ao 31 (.ext 26 0),
 ao 32 (.ext 26 1),
 ao 4 (.mv 31),
 ao 5 (.mv 32)]) (.seq (.reg [ao 34 (.mv 4),
 .call (po 35 (.call 50 [(.c (.int .u64 167837696)), (.c (.int .i64 16))])) 50 qeu,
 .callc (po 36 (.call 20 [34, 35])) 20 qw4,
 ao 33 (.mv 36),
 ao 37 (.ext 33 0),
 ao 38 (.ext 33 1),
 ao 6 (.mv 37),
 ao 7 (.mv 38)]) (.seq (.reg [ao 40 (.mv 6),
 .call (po 41 (.call 50 [(.c (.int .u64 167837696)), (.c (.int .i64 16))])) 50 qeu,
 .callc (po 42 (.call 22 [40, 41])) 22 qx7,
 ao 39 (.mv 42),
 ao 43 (.ext 39 0),
 ao 44 (.ext 39 1),
 ao 8 (.mv 43),
 ao 9 (.mv 44)]) (.seq (.reg [ao 46 (.mv 1),
 .call (po 47 (.call 50 [(.c (.int .u64 167772166)), (.c (.int .i64 32))])) 50 qeu,
 .call (po 48 (.call 26 [46, 47])) 26 qv3,
 ao 45 (.mv 48),
 ao 49 (.ext 45 0),
 ao 50 (.ext 45 1),
 ao 10 (.alloc [(.bool false), (.int .u64 0), (.int .u64 0), (.int .i64 0), (.int .i64 0), (.str []), (.str []), (.int .i64 0)]),
 an (.store 8 10 49),
 ao 11 (.mv 50)]) (.seq (.reg [ao 52 (.mv 1),
 ao 53 (.build [(.bool false), (.int .u64 0), (.int .u64 0)] [(2, (1, (.c (.int .u64 168361984))))]),
 .call (po 54 (.call 28 [52, 53])) 28 qv5,
 ao 51 (.mv 54),
 ao 55 (.ext 51 0),
 ao 56 (.ext 51 1),
 ao 12 (.alloc [(.bool false), (.int .u64 0), (.int .u64 0), (.int .i64 0), (.int .i64 0), (.str []), (.str []), (.int .i64 0)]),
 an (.store 8 12 55),
 ao 13 (.mv 56)]) (.seq (.reg [ao 57 (.mv 1),
 ao 58 (.mv 1),
 ao 59 (.ia 8 58 (.c (.int .i64 0))),
 .st (.etac 59 qa),
 ao 60 (.fa 0 59),
 ao 61 (.load true 4 60),
 .callc (po 62 (.call 30 [57, 61])) 30 qs3,
 ao 14 (.mv 62)]) (.seq (.reg [ao 63 (.mv 1),
 ao 64 (.mv 1),
 ao 65 (.ia 8 64 (.c (.int .i64 0))),
 .st (.etac 65 qa),
 ao 66 (.fa 0 65),
 ao 67 (.load true 4 66),
 .callc (po 68 (.call 33 [63, 67])) 33 qx8,
 ao 15 (.mv 68)]) (.seq (.seq (.seq (.view [.sel [1, 3, 4, 5, 6, 7, 8, 9, 10, 11, 12, 13, 14, 15] [0, 1]]) (.sub (scOf qjg) qsk)) (.cond 125 (.seq (.reg [ao 0 (.mv (.c (.bool false)))]) (.ret)) (.skip))) (.seq (.draw [] [ao 126 (.mv 11),
 ao 127 (.mv 126),
 ag 128 127 true (.load true 8 10),
 ag 129 127 true (.mv 1),
 ag 130 127 true (.ia 8 129 (.c (.int .i64 1))),
 .et 130 qa,
 ag 131 127 true (.load true 8 130),
 ag 132 127 true (.eq false true [.b, (.i .u64), (.i .u64), (.i .i64), (.i .i64), .s, .s, (.i .i64)] 128 131),
 ao 133 (.pick 127 132 (.c (.bool false))),
 ao 134 (.mv 133),
 ag 135 134 true (.mv 13),
 ao 136 (.pick 134 135 (.c (.bool false))),
 ao 137 (.mv 136),
 ag 138 137 true (.load true 8 12),
 ag 139 137 true (.mv 1),
 ag 140 137 true (.ia 8 139 (.c (.int .i64 0))),
 .et 140 qa,
 ag 141 137 true (.load true 8 140),
 ag 142 137 true (.eq false true [.b, (.i .u64), (.i .u64), (.i .i64), (.i .i64), .s, .s, (.i .i64)] 138 141),
 ao 143 (.pick 137 142 (.c (.bool false))),
 ao 144 (.mv 143),
 ag 145 144 true (.mv 14),
 ag 146 144 true (.len false 145),
 ag 147 144 true (.bin .eql 146 (.c (.int .i64 1))),
 ao 148 (.pick 144 147 (.c (.bool false))),
 ao 149 (.mv 148),
 ag 150 149 true (.mv 14),
 ag 151 149 true (.ia 8 150 (.c (.int .i64 0))),
 .et 151 qa,
 ag 152 149 true (.load true 8 151),
 ag 153 149 true (.mv 1),
 ag 154 149 true (.ia 8 153 (.c (.int .i64 1))),
 .et 154 qa,
 ag 155 149 true (.load true 8 154),
 ag 156 149 true (.eq false true [.b, (.i .u64), (.i .u64), (.i .i64), (.i .i64), .s, .s, (.i .i64)] 152 155),
 ao 157 (.pick 149 156 (.c (.bool false))),
 ao 158 (.mv 157),
 ag 159 158 true (.mv 15),
 ag 160 158 true (.len false 159),
 ag 161 158 true (.bin .eql 160 (.c (.int .i64 16))),
 ao 162 (.pick 158 161 (.c (.bool false))),
 ao 163 (.mv 162),
 ag 164 163 true (.mv 15),
 ag 165 163 true (.ia 4 164 (.c (.int .i64 0))),
 .et 165 qe,
 ag 166 163 true (.load true 4 165),
 .call (pg 167 163 true (.call 50 [(.c (.int .u64 167772416)), (.c (.int .i64 24))])) 50 qeu,
 ag 168 163 true (.eq false true [.b, (.i .u64), (.i .u64), (.i .i64)] 166 167),
 ao 169 (.pick 163 168 (.c (.bool false))),
 ao 170 (.mv 169),
 ag 171 170 true (.mv 15),
 ag 172 170 true (.ia 4 171 (.c (.int .i64 15))),
 .et 172 qe,
 ag 173 170 true (.load true 4 172),
 .call (pg 174 170 true (.call 50 [(.c (.int .u64 176160768)), (.c (.int .i64 9))])) 50 qeu] [ag 175 170 true (.eq false true [.b, (.i .u64), (.i .u64), (.i .i64)] 173 174),
 ao 176 (.pick 170 175 (.c (.bool false))),
 ao 0 (.mv 176)]) (.ret))))))))))))
theorem q52 : AC.ok Try.prog (TIof Try.prog) 177 0 (kret [.t 0] decB) qqt := ok_of (zA (EntOkB.ok q3c) (zA (EntOkB.ok q81) (zA (EntOkB.ok qiu) (zA (EntOkB.ok qbcn) (zA (EntOkB.ok qiu) (zA (EntOkB.ok qba3) (zA (EntOkB.ok qiu) (zA (EntOkB.ok qbb5) (zA (EntOkB.ok qiu) (zA (EntOkB.ok q9j) (zA (EntOkB.ok q9n) (zA (EntOkB.ok q5w) (zA (EntOkB.ok qbcd) (zA q0y (zA (EntOkB.ok qiu) (zA (EntOkB.ok qiu) (zA rfl trivial)))))))))))))))))
theorem q7y : den 0 (kret [.t 0] decB) qqt (envOf []) (memOf []) (kend (kret [.t 0] decB)) = qls := by
  rw [qwa]; kernel_rfl
theorem q7z : cFn (TIof Try.prog) Try.f13 = some ⟨177, [.t 0], scOf qqt⟩ := by kernel_rfl
def q70 (xs : List AV) : Option Bool := qls
def qur {R : Type} : List AV → (AV → Option R) → Option R := entF q3z q70 AV.bool
theorem q71 {R : Type} : EntOkB Try.prog 13 (qur (R := R)) :=
  ent_mk tabOk follows Try.func13 (by kernel_rfl) q7z hdeB q52 (er_of (by kernel_rfl)) fun xs => q7y
def qeb : Shp := ⟨[(0, .one (.l (.sl 8)))], []⟩
def qj3 (v0 : List AV) : Option Bool :=
  (oB (qnr v0) fun r1 => (oB (qjo r1) fun r2 => (oB (qlj r1) fun r3 => (bif (r2 == r3) then (oB (qls) fun r4 => (some r4)) else (some false)))))
def qef := hull qj3
theorem qof : qef = qj3 := hull_eq _
def qj4 : AC Bool :=
  .seq (.reg [ao 2 (.mv (.c (.bool false)))]) (.seq (.reg [ao 3 (.mv 0),
 .callc (po 4 (.call 10 [3])) 10 qwg,
 ao 0 (.mv 4)]) (.seq (.reg [ao 5 (.mv 0),
 .call (po 6 (.call 11 [5])) 11 qp8,
 ao 7 (.mv 0),
 .call (po 8 (.call 12 [7])) 12 qt9,
 ao 9 (.bin .eql 6 8),
 ao 10 (.mv 9),
 .call (pg 11 10 true (.call 13 [])) 13 qur,
 ao 12 (.pick 10 11 (.c (.bool false))),
 ao 2 (.mv 12)]) (.ret)))
theorem qxe : AC.ok Try.prog (TIof Try.prog) 13 0 (kret [.t 2] decB) qj4 := ok_of (zA (EntOkB.ok q9w) (zA (EntOkB.ok qy0) (zA (EntOkB.ok q67) (zA (EntOkB.ok q71) trivial))))
theorem qxo (v0 : List AV) : den 0 (kret [.t 2] decB) qj4 (envOf [(0, (.sl 8 v0))]) (memOf []) (kend (kret [.t 2] decB)) = qef v0 := by
  rw [qof]; kernel_rfl
theorem qxp : cFn (TIof Try.prog) Try.f3 = some ⟨13, [.t 2], scOf qj4⟩ := by kernel_rfl
def qxq (xs : List AV) : Option Bool := qef (gL [(entry xs) 0] 0)
def qwf {R : Type} : List AV → (AV → Option R) → Option R := entF qeb qxq AV.bool
theorem qxr {R : Type} : EntOkB Try.prog 3 (qwf (R := R)) :=
  ent_mk tabOk follows Try.func3 (by kernel_rfl) qxp hdeB qxe (er_of (by kernel_rfl)) fun xs => qxo _
end
end Go.Proofs.Ytmjdngnagiloeaa.Dn
