import Derived.Test.YtmjdngnagiloeaaProg
import Derived.Test.YtmjdngnagiloeaaBfLibD
import Derived.Test.YtmjdngnagiloeaaBfDn46x2
set_option linter.all false
namespace Go.Proofs.Ytmjdngnagiloeaa.Dn
open Go Go.Pev
set_option linter.unusedVariables false
set_option linter.unusedSimpArgs false
set_option maxRecDepth 100000
set_option maxHeartbeats 4000000
def qdk (z : AV) : Option (AV × Bool) := cond (qhy [(.st [.b, (.i .u64), (.i .u64), (.i .i64)]), (.one .b)] z) (some ((gC (tpL z) 0), aB (gC (tpL z) 1))) none
def qbn1 (r : AV × Bool) : AV := .tup [qll (.st [.b, (.i .u64), (.i .u64), (.i .i64)]) r.1, .bool r.2]
def q14  (v1 v2 : Int) (Ai : Bool) (Aj Ak Al : Int) (Au : Bool) (Av Aw Ax : Int) (K : Ex → Env → Mem → Option (AV × Bool)) := (fun z_v30 => K .norm (qh [(1, (.int .i64 v1)), (2, (.int .u64 v2)), (3, (.ptr 0 0)), (6, (.ptr 1 0)), (30, (.bool z_v30))]) (qg [(some (.box true (qb Ai Aj Ak Al))), (some (.box true (qb Au Av Aw Ax)))]))
def qbes : Shp := ⟨[(1, .one (.l (.i .i64))), (2, .one (.l (.i .u64))), (3, .one (.ptr 0 0)), (6, .one (.ptr 1 0))], [.box true (lk qf), .box true (lk qf)]⟩
noncomputable section
def quu  (v1 v2 : Int) (Ai : Bool) (Aj Ak Al : Int) (Au : Bool) (Av Aw Ax : Int) (kn : Bool → Option (AV × Bool)) : Option (AV × Bool) :=
  (oB (qge Ai Aj Ak Al) fun r1 => (bif ((!r1) || (decide (v1 < Al))) then (kn true) else (oB (qf9 Ai) fun r2 => (kn (decide (v1 > r2))))))
def qn1 := hull (quu)
theorem q15 : qn1 = quu := qi _
def qo9 : AC (AV × Bool) :=
  .seq (.reg [ao 14 (.load true 4 3),
 .call (po 15 (.call 45 [14])) 45 qho,
 ao 16 (.un .not 15),
 ao 17 (.mv 16),
 .grp 17 false [(pg 18 17 false (.mv 1)), (pg 19 17 false (.fa 3 3)), (pg 20 17 false (.load false 1 19)), (pg 21 17 false (.bin .lss 18 20))] 22 21,
 ao 23 (.mv 22),
 ag 24 23 false (.mv 1),
 ag 25 23 false (.fa 0 3),
 ag 26 23 false (.fa 0 25),
 ag 27 23 false (.load false 1 26),
 .call (pg 28 23 false (.call 82 [27])) 82 qgs,
 ag 29 23 false (.bin .gtr 24 28),
 ao 30 (.pick 23 (.c (.bool true)) 29)]) (.view [.sel [1, 2, 3, 6, 30] [0, 1]])
theorem qbhi : AC.ok Try.prog (TIof Try.prog) 78 0 (kret [(.cell 6 true 4), .t 7] qdk) qo9 := qm (zA (qc.ok qns) (zA (qc.ok ql0) trivial))
theorem qbju (v1 v2 : Int) (Ai : Bool) (Aj Ak Al : Int) (Au : Bool) (Av Aw Ax : Int) (K : Ex → Env → Mem → Option (AV × Bool)) : den 0 (kret [(.cell 6 true 4), .t 7] qdk) qo9 (qh [(1, (.int .i64 v1)), (2, (.int .u64 v2)), (3, (.ptr 0 0)), (6, (.ptr 1 0))]) (qg [(some (.box true (qb Ai Aj Ak Al))), (some (.box true (qb Au Av Aw Ax)))]) K = qn1 v1 v2 Ai Aj Ak Al Au Av Aw Ax (q14 v1 v2 Ai Aj Ak Al Au Av Aw Ax K) := by
  rw [q15]; kernel_rfl
def q4m := subE (R := AV × Bool) qbes fun t m K => qe (bxC (m.s 1)) (qe (bxC (m.s 0)) (qn1 (gI [t 1] 0) (gI [t 2] 0))) (q14 (gI [t 1] 0) (gI [t 2] 0) (gB (bxC (m.s 0)) 0) (gI (bxC (m.s 0)) 1) (gI (bxC (m.s 0)) 2) (gI (bxC (m.s 0)) 3) (gB (bxC (m.s 1)) 0) (gI (bxC (m.s 1)) 1) (gI (bxC (m.s 1)) 2) (gI (bxC (m.s 1)) 3) K)
theorem qbjv : qcb Try.prog (TIof Try.prog) 78 0 (kret [(.cell 6 true 4), .t 7] qdk) (scOf qo9) (q4m) :=
  qfa tabOk follows (qbhi) (qn (by kernel_rfl)) fun t m K => qbju _ _ _ _ _ _ _ _ _ _ K
def ql8  (v1 : Int) (Ai : Bool) (Aj Ak Al : Int) (Au : Bool) (Av Aw Ax : Int) (K : Ex → Env → Mem → Option (AV × Bool)) := (fun z_v10 z_v11 => K (.exit 0) (qh [(1, (.int .i64 v1)), (3, (.ptr 0 0)), (6, (.ptr 1 0)), (10, (.int .u64 z_v10)), (11, (.int .u64 z_v11))]) (qg [(some (.box true (qb Ai Aj Ak Al))), (some (.box true (qb Au Av Aw Ax)))]))
def qbcp : Shp := ⟨[(1, .one (.l (.i .i64))), (3, .one (.ptr 0 0)), (6, .one (.ptr 1 0)), (10, .one (.l (.i .u64))), (11, .one (.l (.i .u64))), (12, .one (.l (.i .i64)))], [.box true (lk qf), .box true (lk qf)]⟩
def qrv (v1 v10 v11 v12 : Int) (Ai : Bool) (Aj Ak Al : Int) (Au : Bool) (Av Aw Ax : Int) : Env := qh [(1, (.int .i64 v1)), (3, (.ptr 0 0)), (6, (.ptr 1 0)), (10, (.int .u64 v10)), (11, (.int .u64 v11)), (12, (.int .i64 v12))]
def qrw (v1 v10 v11 v12 : Int) (Ai : Bool) (Aj Ak Al : Int) (Au : Bool) (Av Aw Ax : Int) : Mem := qg [(some (.box true (qb Ai Aj Ak Al))), (some (.box true (qb Au Av Aw Ax)))]
def qks  (v1 v10 v11 v12 : Int) (Ai : Bool) (Aj Ak Al : Int) (Au : Bool) (Av Aw Ax : Int) (next : Int → Int → Int → Option (AV × Bool)) (kx0 : Int → Int → Option (AV × Bool)) : Option (AV × Bool) :=
  (oB (qf9 Ai) fun r1 => (bif (decide (v12 < r1)) then (next (IntKind.u64.wrap ((IntKind.u64.wrap (v10 * (2 : Int))) + (IntKind.u64.wrap (v11.tdiv (9223372036854775808 : Int))))) (IntKind.u64.wrap (v11 * (2 : Int))) (IntKind.i64.wrap (v12 + (1 : Int)))) else (kx0 v10 v11)))
def qg1  (v1 : Int) (Ai : Bool) (Aj Ak Al : Int) (Au : Bool) (Av Aw Ax : Int) (kx0 : Int → Int → Option (AV × Bool)) : Nat → Int → Int → Int → Option (AV × Bool)
  | 0 => (fun _ _ _ => none)
  | n + 1 => (fun v10 v11 v12 => qks v1 v10 v11 v12 Ai Aj Ak Al Au Av Aw Ax (qg1 v1 Ai Aj Ak Al Au Av Aw Ax kx0 n) kx0)
def qqc := hull (qg1)
theorem q0u : qqc = qg1 := qi _
def qg2 : AC (AV × Bool) :=
  .seq (.seq (.reg [ao 46 (.mv 12),
 ao 47 (.fa 0 3),
 ao 48 (.fa 0 47),
 ao 49 (.load false 1 48),
 .call (po 50 (.call 82 [49])) 82 qgs,
 ao 51 (.bin .lss 46 50)]) (.cond 51 (.skip) (.seq (.view [.sel [1, 3, 6, 10, 11] [0, 1]]) (.exit 0)))) (.seq (.block 1 (.seq (.reg [ao 54 (.mv 10),
 ao 55 (.bin .mul 54 (.c (.int .u64 2))),
 ao 56 (.mv 11),
 ao 57 (.bin .quo 56 (.c (.int .u64 9223372036854775808))),
 ao 58 (.bin .add 55 57),
 ao 10 (.mv 58)]) (.reg [ao 59 (.mv 11),
 ao 60 (.bin .mul 59 (.c (.int .u64 2))),
 ao 11 (.mv 60)]))) (.seq (.reg [ao 52 (.mv 12),
 ao 53 (.bin .add 52 (.c (.int .i64 1))),
 ao 12 (.mv 53)]) (.view [.sel [1, 3, 6, 10, 11, 12] [0, 1]])))
theorem qbet : AC.ok Try.prog (TIof Try.prog) 78 0 (kret [(.cell 6 true 4), .t 7] qdk) qg2 := qm (zA (qc.ok ql0) trivial)
theorem qbcq (v1 v10 v11 v12 : Int) (Ai : Bool) (Aj Ak Al : Int) (Au : Bool) (Av Aw Ax : Int) (K : Ex → Env → Mem → Option (AV × Bool)) : den 0 (kret [(.cell 6 true 4), .t 7] qdk) qg2 (qrv v1 v10 v11 v12 Ai Aj Ak Al Au Av Aw Ax) (qrw v1 v10 v11 v12 Ai Aj Ak Al Au Av Aw Ax) K = qks v1 v10 v11 v12 Ai Aj Ak Al Au Av Aw Ax (fun z_v10 z_v11 z_v12 => K .norm (qrv v1 z_v10 z_v11 z_v12 Ai Aj Ak Al Au Av Aw Ax) (qrw v1 z_v10 z_v11 z_v12 Ai Aj Ak Al Au Av Aw Ax)) (ql8 v1 Ai Aj Ak Al Au Av Aw Ax K) := by kernel_rfl
theorem qbhj (v1 : Int) (Ai : Bool) (Aj Ak Al : Int) (Au : Bool) (Av Aw Ax : Int) (K : Ex → Env → Mem → Option (AV × Bool)) : ∀ (n : Nat) (v10 v11 v12 : Int), qep (den 0 (kret [(.cell 6 true 4), .t 7] qdk) qg2) n (qrv v1 v10 v11 v12 Ai Aj Ak Al Au Av Aw Ax) (qrw v1 v10 v11 v12 Ai Aj Ak Al Au Av Aw Ax) K = qqc v1 Ai Aj Ak Al Au Av Aw Ax (ql8 v1 Ai Aj Ak Al Au Av Aw Ax K) n v10 v11 v12 := by
  rw [q0u]
  intro n
  induction n with
  | zero => intros; rfl
  | succ n ih =>
 intro v10 v11 v12
 exact (qbcq v1 v10 v11 v12 Ai Aj Ak Al Au Av Aw Ax (itK (den 0 (kret [(.cell 6 true 4), .t 7] qdk) qg2) n K)).trans (congrArg (fun q => qks v1 v10 v11 v12 Ai Aj Ak Al Au Av Aw Ax q (ql8 v1 Ai Aj Ak Al Au Av Aw Ax K)) (funext fun v10 => funext fun v11 => funext fun v12 => ih v10 v11 v12))
def q16 := subE (R := AV × Bool) qbcp fun t m K => qe (bxC (m.s 1)) (qe (bxC (m.s 0)) (qqc (gI [t 1] 0))) (ql8 (gI [t 1] 0) (gB (bxC (m.s 0)) 0) (gI (bxC (m.s 0)) 1) (gI (bxC (m.s 0)) 2) (gI (bxC (m.s 0)) 3) (gB (bxC (m.s 1)) 0) (gI (bxC (m.s 1)) 1) (gI (bxC (m.s 1)) 2) (gI (bxC (m.s 1)) 3) K) FU (gI [t 10] 0) (gI [t 11] 0) (gI [t 12] 0)
theorem qbhk : qcb Try.prog (TIof Try.prog) 78 0 (kret [(.cell 6 true 4), .t 7] qdk) (.loop (scOf qg2)) (q16) :=
  qdt tabOk follows (qbet) (qn (by kernel_rfl)) fun t m K => qbhj _ _ _ _ _ _ _ _ _ K FU _ _ _
def qbn2 : Shp := ⟨[(0, .st (lk qf)), (1, .one (.l (.i .i64))), (2, .one (.l (.i .u64)))], []⟩
def q0v (Aa : Bool) (Ab Ac Ad v1 v2 : Int) : Option (AV × Bool) :=
  (qn1 v1 v2 Aa Ab Ac Ad false (0 : Int) (0 : Int) (0 : Int) (fun v30q1 => (bif v30q1 then (some ((.agg [(.bool false), (.int .u64 (0 : Int)), (.int .u64 (0 : Int)), (.int .i64 (0 : Int))]), false)) else (oB (qmf (IntKind.i64.wrap (v1 - Ad))) fun r2 => (bif (decide (v2 > r2.2)) then (some ((.agg [(.bool false), (.int .u64 (0 : Int)), (.int .u64 (0 : Int)), (.int .i64 (0 : Int))]), false)) else (qqc v1 Aa Ab Ac Ad false (0 : Int) (0 : Int) (0 : Int) (fun v10q3 v11q4 => (some ((.agg [(.bool Aa), (.int .u64 (IntKind.u64.wrap (Ab + v10q3))), (.int .u64 (IntKind.u64.wrap (Ac + v11q4))), (.int .i64 v1)]), true))) FU (0 : Int) v2 v1))))))
def qmk := hull q0v
theorem q8f : qmk = q0v := qi _
def q0w : AC (AV × Bool) :=
  .seq (.reg [ao 3 (.box 0),
 ao 6 (.alloc [(.bool false), (.int .u64 0), (.int .u64 0), (.int .i64 0)]),
 ao 7 (.mv (.c (.bool false)))]) (.seq (.seq (.seq (.view [.sel [1, 2, 3, 6] [0, 1]]) (.sub (scOf qo9) q4m)) (.cond 30 (.seq (.reg [ao 31 (.build [(.bool false), (.int .u64 0), (.int .u64 0), (.int .i64 0)] []),
 an (.store 4 6 31),
 ao 7 (.mv (.c (.bool false)))]) (.ret)) (.skip))) (.seq (.reg [ao 33 (.mv 1),
 ao 34 (.fa 3 3),
 ao 35 (.load false 1 34),
 ao 36 (.bin .sub 33 35),
 .call (po 37 (.call 83 [36])) 83 qp0,
 ao 32 (.mv 37),
 ao 38 (.ext 32 0),
 ao 39 (.ext 32 1),
 ao 8 (.mv 38),
 ao 9 (.mv 39)]) (.seq (.seq (.reg [ao 40 (.mv 2),
 ao 41 (.mv 9),
 ao 42 (.bin .gtr 40 41)]) (.cond 42 (.seq (.reg [ao 43 (.build [(.bool false), (.int .u64 0), (.int .u64 0), (.int .i64 0)] []),
 an (.store 4 6 43),
 ao 7 (.mv (.c (.bool false)))]) (.ret)) (.skip))) (.seq (.reg [ao 44 (.mv 2),
 ao 10 (.mv (.c (.int .u64 0))),
 ao 11 (.mv 44)]) (.seq (.seq (.reg [ao 45 (.mv 1),
 ao 12 (.mv 45)]) (.block 0 (.seq (.view [.sel [1, 3, 6, 10, 11, 12] [0, 1]]) (.sub (.loop (scOf qg2)) q16)))) (.seq (.reg [ao 61 (.fa 0 3),
 ao 62 (.fa 0 61),
 ao 63 (.load false 1 62),
 ao 64 (.fa 0 3),
 ao 65 (.fa 1 64),
 ao 66 (.load false 1 65),
 ao 67 (.mv 10),
 ao 68 (.bin .add 66 67),
 ao 69 (.fa 0 3),
 ao 70 (.fa 2 69),
 ao 71 (.load false 1 70),
 ao 72 (.mv 11),
 ao 73 (.bin .add 71 72),
 ao 74 (.build [(.bool false), (.int .u64 0), (.int .u64 0)] [(0, (1, 63)), (1, (1, 68)), (2, (1, 73))]),
 ao 13 (.alloc [(.bool false), (.int .u64 0), (.int .u64 0)]),
 an (.store 3 13 74)]) (.seq (.reg [ao 75 (.load true 3 13),
 ao 76 (.mv 1),
 ao 77 (.build [(.bool false), (.int .u64 0), (.int .u64 0), (.int .i64 0)] [(0, (3, 75)), (3, (1, 76))]),
 an (.store 4 6 77),
 ao 7 (.mv (.c (.bool true)))]) (.ret))))))))
theorem qbqz : AC.ok Try.prog (TIof Try.prog) 78 0 (kret [(.cell 6 true 4), .t 7] qdk) q0w := qm (zA qbjv (zA (qc.ok qzu) (zA qbhk trivial)))
theorem qbs9 (Aa : Bool) (Ab Ac Ad v1 v2 : Int) : den 0 (kret [(.cell 6 true 4), .t 7] qdk) q0w (qh [(0, .agg (qb Aa Ab Ac Ad)), (1, (.int .i64 v1)), (2, (.int .u64 v2))]) (qg []) (kend (kret [(.cell 6 true 4), .t 7] qdk)) = qmk Aa Ab Ac Ad v1 v2 := by
  rw [q8f]; kernel_rfl
theorem qbta : cFn (TIof Try.prog) Try.f97 = some ⟨78, [(.cell 6 true 4), .t 7], scOf q0w⟩ := by kernel_rfl
def qbtb (xs : List AV) : Option (AV × Bool) := qe ((qk xs) 0).cells (qmk) (gI [(qk xs) 1] 0) (gI [(qk xs) 2] 0)
def qwh {R : Type} : List AV → (AV → Option R) → Option R := entF qbn2 qbtb qbn1
theorem q97 {R : Type} : qc Try.prog 97 (qwh (R := R)) :=
  qba tabOk follows Try.func97 (by kernel_rfl) qbta (fun z r h => by
 obtain ⟨h1, h2⟩ := qo h
 cases h2
 exact (qez h1).symm) qbqz (qn (by kernel_rfl)) fun xs => qbs9 _ _ _ _ _ _
def qs7 (z : AV) : Option (AV × AV × Bool) := cond (qhy [(.st [.b, (.i .u64), (.i .u64), (.i .i64)]), (.st [.b, (.i .u64), (.i .u64), (.i .i64)]), (.one .b)] z) (some ((gC (tpL z) 0), (gC (tpL z) 1), aB (gC (tpL z) 2))) none
def qbhl (r : AV × AV × Bool) : AV := .tup [qll (.st [.b, (.i .u64), (.i .u64), (.i .i64)]) r.1, qll (.st [.b, (.i .u64), (.i .u64), (.i .i64)]) r.2.1, .bool r.2.2]
def qbhm : Shp := ⟨[(0, .st (lk qf))], []⟩
def qwi (Aa : Bool) (Ab Ac Ad : Int) : Option (AV × AV × Bool) :=
  (oB (qmk Aa Ab Ac Ad (IntKind.i64.wrap (Ad + (1 : Int))) (0 : Int)) fun r1 => (oB (qmk Aa Ab Ac Ad (IntKind.i64.wrap (Ad + (1 : Int))) (1 : Int)) fun r2 => (bif (!r2.2) then (some ((.agg [(.bool false), (.int .u64 (0 : Int)), (.int .u64 (0 : Int)), (.int .i64 (0 : Int))]), (.agg [(.bool false), (.int .u64 (0 : Int)), (.int .u64 (0 : Int)), (.int .i64 (0 : Int))]), false)) else (some ((.agg [(.bool (gB r1.1.cells 0)), (.int .u64 (gI r1.1.cells 1)), (.int .u64 (gI r1.1.cells 2)), (.int .i64 (gI r1.1.cells 3))]), (.agg [(.bool (gB r2.1.cells 0)), (.int .u64 (gI r2.1.cells 1)), (.int .u64 (gI r2.1.cells 2)), (.int .i64 (gI r2.1.cells 3))]), true)))))
def qpa := hull qwi
theorem q4n : qpa = qwi := qi _
def qwj : AC (AV × AV × Bool) :=
  .seq (.reg [ao 1 (.box 0),
 ao 2 (.alloc [(.bool false), (.int .u64 0), (.int .u64 0), (.int .i64 0)]),
 ao 3 (.alloc [(.bool false), (.int .u64 0), (.int .u64 0), (.int .i64 0)]),
 ao 4 (.mv (.c (.bool false)))]) (.seq (.reg [ao 10 (.load true 4 1),
 ao 11 (.fa 3 1),
 ao 12 (.load false 1 11),
 ao 13 (.bin .add 12 (.c (.int .i64 1))),
 .call (po 14 (.call 97 [10, 13, (.c (.int .u64 0))])) 97 qwh,
 ao 9 (.mv 14),
 ao 15 (.ext 9 0),
 ao 16 (.ext 9 1),
 ao 5 (.alloc [(.bool false), (.int .u64 0), (.int .u64 0), (.int .i64 0)]),
 an (.store 4 5 15),
 ao 6 (.mv 16)]) (.seq (.reg [ao 18 (.load true 4 1),
 ao 19 (.fa 3 1),
 ao 20 (.load false 1 19),
 ao 21 (.bin .add 20 (.c (.int .i64 1))),
 .call (po 22 (.call 97 [18, 21, (.c (.int .u64 1))])) 97 qwh,
 ao 17 (.mv 22),
 ao 23 (.ext 17 0),
 ao 24 (.ext 17 1),
 ao 7 (.alloc [(.bool false), (.int .u64 0), (.int .u64 0), (.int .i64 0)]),
 an (.store 4 7 23),
 ao 8 (.mv 24)]) (.seq (.seq (.reg [ao 25 (.mv 8),
 ao 26 (.un .not 25)]) (.cond 26 (.seq (.reg [ao 27 (.build [(.bool false), (.int .u64 0), (.int .u64 0), (.int .i64 0)] []),
 ao 28 (.build [(.bool false), (.int .u64 0), (.int .u64 0), (.int .i64 0)] []),
 an (.store 4 2 27),
 an (.store 4 3 28),
 ao 4 (.mv (.c (.bool false)))]) (.ret)) (.skip))) (.seq (.draw [] [ao 29 (.load true 4 5),
 ao 30 (.load true 4 7),
 an (.held [] [((.c (.bool true)), 7), (2, 7), (3, 7)])] [an (.store 4 2 29),
 an (.store 4 3 30),
 ao 4 (.mv (.c (.bool true)))]) (.ret)))))
theorem qbjw : AC.ok Try.prog (TIof Try.prog) 31 0 (kret [(.cell 2 true 4), (.cell 3 true 4), .t 4] qs7) qwj := qm (zA (qc.ok q97) (zA (qc.ok q97) (zA rfl trivial)))
theorem qbn3 (Aa : Bool) (Ab Ac Ad : Int) : den 0 (kret [(.cell 2 true 4), (.cell 3 true 4), .t 4] qs7) qwj (qh [(0, .agg (qb Aa Ab Ac Ad))]) (qg []) (kend (kret [(.cell 2 true 4), (.cell 3 true 4), .t 4] qs7)) = qpa Aa Ab Ac Ad := by
  rw [q4n]; kernel_rfl
theorem qbn4 : cFn (TIof Try.prog) Try.f60 = some ⟨31, [(.cell 2 true 4), (.cell 3 true 4), .t 4], scOf qwj⟩ := by kernel_rfl
def qbn5 (xs : List AV) : Option (AV × AV × Bool) := qe ((qk xs) 0).cells (qpa)
def q17 {R : Type} : List AV → (AV → Option R) → Option R := entF qbhm qbn5 qbhl
theorem qbn6 {R : Type} : qc Try.prog 60 (q17 (R := R)) :=
  qba tabOk follows Try.func60 (by kernel_rfl) qbn4 (fun z r h => by
 obtain ⟨h1, h2⟩ := qo h
 cases h2
 exact (qez h1).symm) qbjw (qn (by kernel_rfl)) fun xs => qbn3 _ _ _ _
def qdc (z : AV) : Option (AV × Bool) := cond (qhy [(.st [.b, (.i .u64), (.i .u64), (.i .i64), (.i .i64), .s, .s, (.i .i64)]), (.one .b)] z) (some ((gC (tpL z) 0), aB (gC (tpL z) 1))) none
def qbhn (r : AV × Bool) : AV := .tup [qll (.st [.b, (.i .u64), (.i .u64), (.i .i64), (.i .i64), .s, .s, (.i .i64)]) r.1, .bool r.2]
def qw4  (v0 : List AV) (v6 v7 : Int) (Ai : Bool) (Aj Ak Al : Int) (Au : Bool) (Av Aw Ax Bv : Int) (Bw Bx : List UInt8) (By : Int) (K : Ex → Env → Mem → Option (AV × Bool)) := (fun z_v39 => K .norm (qh [(0, (.sl 8 v0)), (3, (.ptr 0 0)), (4, (.ptr 1 0)), (6, (.int .i64 v6)), (7, (.int .i64 v7)), (39, (.bool z_v39))]) (qg [(some (.box true (qb Ai Aj Ak Al))), (some (.box true (qd Au Av Aw Ax Bv Bw Bx By)))]))
def q9h : Shp := ⟨[(0, .one (.l (.sl 8))), (3, .one (.ptr 0 0)), (4, .one (.ptr 1 0)), (6, .one (.l (.i .i64))), (7, .one (.l (.i .i64)))], [.box true (lk qf), .box true (lk qa)]⟩
def qqx  (v0 : List AV) (v6 v7 : Int) (Ai : Bool) (Aj Ak Al : Int) (Au : Bool) (Av Aw Ax Bv : Int) (Bw Bx : List UInt8) (By : Int) (kn : Bool → Option (AV × Bool)) : Option (AV × Bool) :=
  (oB (ixB v0 v7) fun y1 => (bif fitC qa y1.cells then (oB (qk8 Ai Aj Ak Al (gB y1.cells 0) (gI y1.cells 1) (gI y1.cells 2) (gI y1.cells 3)) fun r2 => (bif r2 then (bif (decide (v6 < (0 : Int))) then (kn true) else (oB (ixB v0 v7) fun y3 => (bif fitC qa y3.cells then (oB (ixB v0 v6) fun y4 => (bif fitC qa y4.cells then (kn (decide ((gI y3.cells 3) > (gI y4.cells 3)))) else none)) else none))) else (kn false))) else none))
def qoe := hull (qqx)
theorem qw5 : qoe = qqx := qi _
def ql9 : AC (AV × Bool) :=
  .seq (.draw [] [ao 14 (.load true 4 3),
 ao 15 (.mv 0),
 ao 16 (.mv 7),
 ao 17 (.ia 8 15 16),
 .et 17 qa,
 ao 18 (.fa 0 17),
 ao 19 (.load true 4 18),
 .call (po 20 (.call 54 [14, 19])) 54 ql3,
 ao 21 (.mv 20),
 ag 22 21 true (.mv 6),
 ag 23 21 true (.bin .lss 22 (.c (.int .i64 0))),
 ag 24 21 true (.mv 23),
 ag 25 24 false (.mv 0),
 ag 26 24 false (.mv 7),
 ag 27 24 false (.ia 8 25 26),
 .et 27 qa,
 ag 28 24 false (.fa 0 27),
 ag 29 24 false (.fa 3 28),
 ag 30 24 false (.load false 1 29),
 ag 31 24 false (.mv 0),
 ag 32 24 false (.mv 6),
 ag 33 24 false (.ia 8 31 32),
 .et 33 qa,
 ag 34 24 false (.fa 0 33),
 ag 35 24 false (.fa 3 34),
 ag 36 24 false (.load false 1 35)] [ag 37 24 false (.bin .gtr 30 36),
 ag 38 21 true (.pick 24 (.c (.bool true)) 37),
 ao 39 (.pick 21 38 (.c (.bool false)))]) (.view [.sel [0, 3, 4, 6, 7, 39] [0, 1]])
theorem qba8 : AC.ok Try.prog (TIof Try.prog) 48 0 (kret [(.cell 4 true 8), .t 5] qdc) ql9 := qm (zA (qc.ok qsa) (zA rfl trivial))
theorem qbcr (v0 : List AV) (v6 v7 : Int) (Ai : Bool) (Aj Ak Al : Int) (Au : Bool) (Av Aw Ax Bv : Int) (Bw Bx : List UInt8) (By : Int) (K : Ex → Env → Mem → Option (AV × Bool)) : den 0 (kret [(.cell 4 true 8), .t 5] qdc) ql9 (qh [(0, (.sl 8 v0)), (3, (.ptr 0 0)), (4, (.ptr 1 0)), (6, (.int .i64 v6)), (7, (.int .i64 v7))]) (qg [(some (.box true (qb Ai Aj Ak Al))), (some (.box true (qd Au Av Aw Ax Bv Bw Bx By)))]) K = qoe v0 v6 v7 Ai Aj Ak Al Au Av Aw Ax Bv Bw Bx By (qw4 v0 v6 v7 Ai Aj Ak Al Au Av Aw Ax Bv Bw Bx By K) := by
  rw [qw5]; kernel_rfl
def qy0 := subE (R := AV × Bool) q9h fun t m K => qj (bxC (m.s 1)) (qe (bxC (m.s 0)) (qoe (gL [t 0] 0) (gI [t 6] 0) (gI [t 7] 0))) (qw4 (gL [t 0] 0) (gI [t 6] 0) (gI [t 7] 0) (gB (bxC (m.s 0)) 0) (gI (bxC (m.s 0)) 1) (gI (bxC (m.s 0)) 2) (gI (bxC (m.s 0)) 3) (gB (bxC (m.s 1)) 0) (gI (bxC (m.s 1)) 1) (gI (bxC (m.s 1)) 2) (gI (bxC (m.s 1)) 3) (gI (bxC (m.s 1)) 4) (gS (bxC (m.s 1)) 5) (gS (bxC (m.s 1)) 6) (gI (bxC (m.s 1)) 7) K)
theorem qbcs : qcb Try.prog (TIof Try.prog) 48 0 (kret [(.cell 4 true 8), .t 5] qdc) (scOf ql9) (qy0) :=
  qfa tabOk follows (qba8) (qn (by kernel_rfl)) fun t m K => qbcr _ _ _ _ _ _ _ _ _ _ _ _ _ _ _ K
def qli  (v0 : List AV) (Au : Bool) (Av Aw Ax Bv : Int) (Bw Bx : List UInt8) (By : Int) (K : Ex → Env → Mem → Option (AV × Bool)) := (fun z_v6 => K (.exit 0) (qh [(0, (.sl 8 v0)), (4, (.ptr 0 0)), (6, (.int .i64 z_v6))]) (qg [(some (.box true (qd Au Av Aw Ax Bv Bw Bx By)))]))
def qba9 : Shp := ⟨[(0, .one (.l (.sl 8))), (3, .one (.ptr 0 0)), (4, .one (.ptr 1 0)), (6, .one (.l (.i .i64))), (7, .one (.l (.i .i64)))], [.box true (lk qf), .box true (lk qa)]⟩
def qqy (v0 : List AV) (v6 v7 : Int) (Ai : Bool) (Aj Ak Al : Int) (Au : Bool) (Av Aw Ax Bv : Int) (Bw Bx : List UInt8) (By : Int) : Env := qh [(0, (.sl 8 v0)), (3, (.ptr 0 0)), (4, (.ptr 1 0)), (6, (.int .i64 v6)), (7, (.int .i64 v7))]
def qqz (v0 : List AV) (v6 v7 : Int) (Ai : Bool) (Aj Ak Al : Int) (Au : Bool) (Av Aw Ax Bv : Int) (Bw Bx : List UInt8) (By : Int) : Mem := qg [(some (.box true (qb Ai Aj Ak Al))), (some (.box true (qd Au Av Aw Ax Bv Bw Bx By)))]
def qgm  (v0 : List AV) (v6 v7 : Int) (Ai : Bool) (Aj Ak Al : Int) (Au : Bool) (Av Aw Ax Bv : Int) (Bw Bx : List UInt8) (By : Int) (next : Int → Int → Option (AV × Bool)) (kx0 : Int → Option (AV × Bool)) : Option (AV × Bool) :=
  (bif (decide (v7 < (v0.length : Int))) then (qoe v0 v6 v7 Ai Aj Ak Al Au Av Aw Ax Bv Bw Bx By (fun v39q1 => (bif v39q1 then (next v7 (IntKind.i64.wrap (v7 + (1 : Int)))) else (next v6 (IntKind.i64.wrap (v7 + (1 : Int))))))) else (kx0 v6))
def qi3  (v0 : List AV) (Ai : Bool) (Aj Ak Al : Int) (Au : Bool) (Av Aw Ax Bv : Int) (Bw Bx : List UInt8) (By : Int) (kx0 : Int → Option (AV × Bool)) : Nat → Int → Int → Option (AV × Bool)
  | 0 => (fun _ _ => none)
  | n + 1 => (fun v6 v7 => qgm v0 v6 v7 Ai Aj Ak Al Au Av Aw Ax Bv Bw Bx By (qi3 v0 Ai Aj Ak Al Au Av Aw Ax Bv Bw Bx By kx0 n) kx0)
def qpb := hull (qi3)
theorem qy1 : qpb = qi3 := qi _
def qgn : AC (AV × Bool) :=
  .seq (.seq (.reg [ao 8 (.mv 7),
 ao 9 (.mv 0),
 ao 10 (.len false 9),
 ao 11 (.bin .lss 8 10)]) (.cond 11 (.skip) (.seq (.view [.sel [0, 4, 6] [1]]) (.exit 0)))) (.seq (.block 1 (.seq (.seq (.view [.sel [0, 3, 4, 6, 7] [0, 1]]) (.sub (scOf ql9) qy0)) (.cond 39 (.reg [ao 40 (.mv 7),
 ao 6 (.mv 40)]) (.skip)))) (.seq (.reg [ao 12 (.mv 7),
 ao 13 (.bin .add 12 (.c (.int .i64 1))),
 ao 7 (.mv 13)]) (.view [.sel [0, 3, 4, 6, 7] [0, 1]])))
theorem qbct : AC.ok Try.prog (TIof Try.prog) 48 0 (kret [(.cell 4 true 8), .t 5] qdc) qgn := qm (zA qbcs trivial)
theorem qbba (v0 : List AV) (v6 v7 : Int) (Ai : Bool) (Aj Ak Al : Int) (Au : Bool) (Av Aw Ax Bv : Int) (Bw Bx : List UInt8) (By : Int) (K : Ex → Env → Mem → Option (AV × Bool)) : den 0 (kret [(.cell 4 true 8), .t 5] qdc) qgn (qqy v0 v6 v7 Ai Aj Ak Al Au Av Aw Ax Bv Bw Bx By) (qqz v0 v6 v7 Ai Aj Ak Al Au Av Aw Ax Bv Bw Bx By) K = qgm v0 v6 v7 Ai Aj Ak Al Au Av Aw Ax Bv Bw Bx By (fun z_v6 z_v7 => K .norm (qqy v0 z_v6 z_v7 Ai Aj Ak Al Au Av Aw Ax Bv Bw Bx By) (qqz v0 z_v6 z_v7 Ai Aj Ak Al Au Av Aw Ax Bv Bw Bx By)) (qli v0 Au Av Aw Ax Bv Bw Bx By K) := by kernel_rfl
theorem qbeu (v0 : List AV) (Ai : Bool) (Aj Ak Al : Int) (Au : Bool) (Av Aw Ax Bv : Int) (Bw Bx : List UInt8) (By : Int) (K : Ex → Env → Mem → Option (AV × Bool)) : ∀ (n : Nat) (v6 v7 : Int), qep (den 0 (kret [(.cell 4 true 8), .t 5] qdc) qgn) n (qqy v0 v6 v7 Ai Aj Ak Al Au Av Aw Ax Bv Bw Bx By) (qqz v0 v6 v7 Ai Aj Ak Al Au Av Aw Ax Bv Bw Bx By) K = qpb v0 Ai Aj Ak Al Au Av Aw Ax Bv Bw Bx By (qli v0 Au Av Aw Ax Bv Bw Bx By K) n v6 v7 := by
  rw [qy1]
  intro n
  induction n with
  | zero => intros; rfl
  | succ n ih =>
 intro v6 v7
 exact (qbba v0 v6 v7 Ai Aj Ak Al Au Av Aw Ax Bv Bw Bx By (itK (den 0 (kret [(.cell 4 true 8), .t 5] qdc) qgn) n K)).trans (congrArg (fun q => qgm v0 v6 v7 Ai Aj Ak Al Au Av Aw Ax Bv Bw Bx By q (qli v0 Au Av Aw Ax Bv Bw Bx By K)) (funext fun v6 => funext fun v7 => ih v6 v7))
def q0x := subE (R := AV × Bool) qba9 fun t m K => qj (bxC (m.s 1)) (qe (bxC (m.s 0)) (qpb (gL [t 0] 0))) (qli (gL [t 0] 0) (gB (bxC (m.s 1)) 0) (gI (bxC (m.s 1)) 1) (gI (bxC (m.s 1)) 2) (gI (bxC (m.s 1)) 3) (gI (bxC (m.s 1)) 4) (gS (bxC (m.s 1)) 5) (gS (bxC (m.s 1)) 6) (gI (bxC (m.s 1)) 7) K) FU (gI [t 6] 0) (gI [t 7] 0)
theorem qbev : qcb Try.prog (TIof Try.prog) 48 0 (kret [(.cell 4 true 8), .t 5] qdc) (.loop (scOf qgn)) (q0x) :=
  qdt tabOk follows (qbct) (qn (by kernel_rfl)) fun t m K => qbeu _ _ _ _ _ _ _ _ _ _ _ _ _ K FU _ _
def qbho : Shp := ⟨[(0, .one (.l (.sl 8))), (1, .st (lk qf))], []⟩
def qwk (v0 : List AV) (Aq : Bool) (Ar As At : Int) : Option (AV × Bool) :=
  (qpb v0 Aq Ar As At false (0 : Int) (0 : Int) (0 : Int) (0 : Int) ([] : List UInt8) ([] : List UInt8) (0 : Int) (fun v6q1 => (bif (decide (v6q1 < (0 : Int))) then (some ((.agg [(.bool false), (.int .u64 (0 : Int)), (.int .u64 (0 : Int)), (.int .i64 (0 : Int)), (.int .i64 (0 : Int)), (.str ([] : List UInt8)), (.str ([] : List UInt8)), (.int .i64 (0 : Int))]), false)) else (oB (ixB v0 v6q1) fun y2 => (bif fitC qa y2.cells then (some ((.agg [(.bool (gB y2.cells 0)), (.int .u64 (gI y2.cells 1)), (.int .u64 (gI y2.cells 2)), (.int .i64 (gI y2.cells 3)), (.int .i64 (gI y2.cells 4)), (.str (gS y2.cells 5)), (.str (gS y2.cells 6)), (.int .i64 (gI y2.cells 7))]), true)) else none)))) FU (-1 : Int) (0 : Int))
def qpc := hull qwk
theorem q4o : qpc = qwk := qi _
def qwl : AC (AV × Bool) :=
  .seq (.reg [ao 3 (.box 1),
 ao 4 (.alloc [(.bool false), (.int .u64 0), (.int .u64 0), (.int .i64 0), (.int .i64 0), (.str []), (.str []), (.int .i64 0)]),
 ao 5 (.mv (.c (.bool false)))]) (.seq (.reg [ao 6 (.mv (.c (.int .i64 (-1))))]) (.seq (.seq (.reg [ao 7 (.mv (.c (.int .i64 0)))]) (.block 0 (.seq (.view [.sel [0, 3, 4, 6, 7] [0, 1]]) (.sub (.loop (scOf qgn)) q0x)))) (.seq (.seq (.reg [ao 41 (.mv 6),
 ao 42 (.bin .lss 41 (.c (.int .i64 0)))]) (.cond 42 (.seq (.reg [ao 43 (.build [(.bool false), (.int .u64 0), (.int .u64 0), (.int .i64 0), (.int .i64 0), (.str []), (.str []), (.int .i64 0)] []),
 an (.store 8 4 43),
 ao 5 (.mv (.c (.bool false)))]) (.ret)) (.skip))) (.seq (.reg [ao 44 (.mv 0),
 ao 45 (.mv 6),
 ao 46 (.ia 8 44 45),
 .st (.etac 46 qa),
 ao 47 (.load true 8 46),
 an (.store 8 4 47),
 ao 5 (.mv (.c (.bool true)))]) (.ret)))))
theorem qbjx : AC.ok Try.prog (TIof Try.prog) 48 0 (kret [(.cell 4 true 8), .t 5] qdc) qwl := qm (zA qbev trivial)
theorem qbn7 (v0 : List AV) (Aq : Bool) (Ar As At : Int) : den 0 (kret [(.cell 4 true 8), .t 5] qdc) qwl (qh [(0, (.sl 8 v0)), (1, .agg (qb Aq Ar As At))]) (qg []) (kend (kret [(.cell 4 true 8), .t 5] qdc)) = qpc v0 Aq Ar As At := by
  rw [q4o]; kernel_rfl
theorem qbn8 : cFn (TIof Try.prog) Try.f27 = some ⟨48, [(.cell 4 true 8), .t 5], scOf qwl⟩ := by kernel_rfl
def qbn9 (xs : List AV) : Option (AV × Bool) := qe ((qk xs) 1).cells (qpc (gL [(qk xs) 0] 0))
def q18 {R : Type} : List AV → (AV → Option R) → Option R := entF qbho qbn9 qbhn
theorem qboa {R : Type} : qc Try.prog 27 (q18 (R := R)) :=
  qba tabOk follows Try.func27 (by kernel_rfl) qbn8 (fun z r h => by
 obtain ⟨h1, h2⟩ := qo h
 cases h2
 exact (qez h1).symm) qbjx (qn (by kernel_rfl)) fun xs => qbn7 _ _ _ _ _
def qdd (z : AV) : Option (AV × Bool) := cond (qhy [(.st [.b, (.i .u64), (.i .u64), (.i .i64), (.i .i64), .s, .s, (.i .i64)]), (.one .b)] z) (some ((gC (tpL z) 0), aB (gC (tpL z) 1))) none
def qbhp (r : AV × Bool) : AV := .tup [qll (.st [.b, (.i .u64), (.i .u64), (.i .i64), (.i .i64), .s, .s, (.i .i64)]) r.1, .bool r.2]
def qw6  (v0 : List AV) (v6 v7 : Int) (Ai : Bool) (Aj Ak : Int) (Au : Bool) (Av Aw Ax Bv : Int) (Bw Bx : List UInt8) (By : Int) (K : Ex → Env → Mem → Option (AV × Bool)) := (fun z_v39 => K .norm (qh [(0, (.sl 8 v0)), (3, (.ptr 0 0)), (4, (.ptr 1 0)), (6, (.int .i64 v6)), (7, (.int .i64 v7)), (39, (.bool z_v39))]) (qg [(some (.box true (qbj Ai Aj Ak))), (some (.box true (qd Au Av Aw Ax Bv Bw Bx By)))]))
def q9i : Shp := ⟨[(0, .one (.l (.sl 8))), (3, .one (.ptr 0 0)), (4, .one (.ptr 1 0)), (6, .one (.l (.i .i64))), (7, .one (.l (.i .i64)))], [.box true (lk qcy), .box true (lk qa)]⟩
def qq0  (v0 : List AV) (v6 v7 : Int) (Ai : Bool) (Aj Ak : Int) (Au : Bool) (Av Aw Ax Bv : Int) (Bw Bx : List UInt8) (By : Int) (kn : Bool → Option (AV × Bool)) : Option (AV × Bool) :=
  (oB (ixB v0 v7) fun y1 => (bif fitC qa y1.cells then (oB (qi9 (gB y1.cells 0) (gI y1.cells 1) (gI y1.cells 2) (gI y1.cells 3) Ai Aj Ak) fun r2 => (bif r2 then (bif (decide (v6 < (0 : Int))) then (kn true) else (oB (ixB v0 v7) fun y3 => (bif fitC qa y3.cells then (oB (ixB v0 v6) fun y4 => (bif fitC qa y4.cells then (kn (decide ((gI y3.cells 3) > (gI y4.cells 3)))) else none)) else none))) else (kn false))) else none))
def qof := hull (qq0)
theorem qw7 : qof = qq0 := qi _
def qma : AC (AV × Bool) :=
  .seq (.draw [] [ao 14 (.mv 0),
 ao 15 (.mv 7),
 ao 16 (.ia 8 14 15),
 .et 16 qa,
 ao 17 (.fa 0 16),
 ao 18 (.load true 4 17),
 ao 19 (.load true 3 3),
 .call (po 20 (.call 66 [18, 19])) 66 qqj,
 ao 21 (.mv 20),
 ag 22 21 true (.mv 6),
 ag 23 21 true (.bin .lss 22 (.c (.int .i64 0))),
 ag 24 21 true (.mv 23),
 ag 25 24 false (.mv 0),
 ag 26 24 false (.mv 7),
 ag 27 24 false (.ia 8 25 26),
 .et 27 qa,
 ag 28 24 false (.fa 0 27),
 ag 29 24 false (.fa 3 28),
 ag 30 24 false (.load false 1 29),
 ag 31 24 false (.mv 0),
 ag 32 24 false (.mv 6),
 ag 33 24 false (.ia 8 31 32),
 .et 33 qa,
 ag 34 24 false (.fa 0 33),
 ag 35 24 false (.fa 3 34),
 ag 36 24 false (.load false 1 35)] [ag 37 24 false (.bin .gtr 30 36),
 ag 38 21 true (.pick 24 (.c (.bool true)) 37),
 ao 39 (.pick 21 38 (.c (.bool false)))]) (.view [.sel [0, 3, 4, 6, 7, 39] [0, 1]])
theorem qbbb : AC.ok Try.prog (TIof Try.prog) 48 0 (kret [(.cell 4 true 8), .t 5] qdd) qma := qm (zA (qc.ok q1u) (zA rfl trivial))
theorem qbcu (v0 : List AV) (v6 v7 : Int) (Ai : Bool) (Aj Ak : Int) (Au : Bool) (Av Aw Ax Bv : Int) (Bw Bx : List UInt8) (By : Int) (K : Ex → Env → Mem → Option (AV × Bool)) : den 0 (kret [(.cell 4 true 8), .t 5] qdd) qma (qh [(0, (.sl 8 v0)), (3, (.ptr 0 0)), (4, (.ptr 1 0)), (6, (.int .i64 v6)), (7, (.int .i64 v7))]) (qg [(some (.box true (qbj Ai Aj Ak))), (some (.box true (qd Au Av Aw Ax Bv Bw Bx By)))]) K = qof v0 v6 v7 Ai Aj Ak Au Av Aw Ax Bv Bw Bx By (qw6 v0 v6 v7 Ai Aj Ak Au Av Aw Ax Bv Bw Bx By K) := by
  rw [qw7]; kernel_rfl
def qy2 := subE (R := AV × Bool) q9i fun t m K => qj (bxC (m.s 1)) (qbu (bxC (m.s 0)) (qof (gL [t 0] 0) (gI [t 6] 0) (gI [t 7] 0))) (qw6 (gL [t 0] 0) (gI [t 6] 0) (gI [t 7] 0) (gB (bxC (m.s 0)) 0) (gI (bxC (m.s 0)) 1) (gI (bxC (m.s 0)) 2) (gB (bxC (m.s 1)) 0) (gI (bxC (m.s 1)) 1) (gI (bxC (m.s 1)) 2) (gI (bxC (m.s 1)) 3) (gI (bxC (m.s 1)) 4) (gS (bxC (m.s 1)) 5) (gS (bxC (m.s 1)) 6) (gI (bxC (m.s 1)) 7) K)
theorem qbcv : qcb Try.prog (TIof Try.prog) 48 0 (kret [(.cell 4 true 8), .t 5] qdd) (scOf qma) (qy2) :=
  qfa tabOk follows (qbbb) (qn (by kernel_rfl)) fun t m K => qbcu _ _ _ _ _ _ _ _ _ _ _ _ _ _ K
def qlj  (v0 : List AV) (Au : Bool) (Av Aw Ax Bv : Int) (Bw Bx : List UInt8) (By : Int) (K : Ex → Env → Mem → Option (AV × Bool)) := (fun z_v6 => K (.exit 0) (qh [(0, (.sl 8 v0)), (4, (.ptr 0 0)), (6, (.int .i64 z_v6))]) (qg [(some (.box true (qd Au Av Aw Ax Bv Bw Bx By)))]))
def qbbc : Shp := ⟨[(0, .one (.l (.sl 8))), (3, .one (.ptr 0 0)), (4, .one (.ptr 1 0)), (6, .one (.l (.i .i64))), (7, .one (.l (.i .i64)))], [.box true (lk qcy), .box true (lk qa)]⟩
def qq1 (v0 : List AV) (v6 v7 : Int) (Ai : Bool) (Aj Ak : Int) (Au : Bool) (Av Aw Ax Bv : Int) (Bw Bx : List UInt8) (By : Int) : Env := qh [(0, (.sl 8 v0)), (3, (.ptr 0 0)), (4, (.ptr 1 0)), (6, (.int .i64 v6)), (7, (.int .i64 v7))]
def qq2 (v0 : List AV) (v6 v7 : Int) (Ai : Bool) (Aj Ak : Int) (Au : Bool) (Av Aw Ax Bv : Int) (Bw Bx : List UInt8) (By : Int) : Mem := qg [(some (.box true (qbj Ai Aj Ak))), (some (.box true (qd Au Av Aw Ax Bv Bw Bx By)))]
def qgo  (v0 : List AV) (v6 v7 : Int) (Ai : Bool) (Aj Ak : Int) (Au : Bool) (Av Aw Ax Bv : Int) (Bw Bx : List UInt8) (By : Int) (next : Int → Int → Option (AV × Bool)) (kx0 : Int → Option (AV × Bool)) : Option (AV × Bool) :=
  (bif (decide (v7 < (v0.length : Int))) then (qof v0 v6 v7 Ai Aj Ak Au Av Aw Ax Bv Bw Bx By (fun v39q1 => (bif v39q1 then (next v7 (IntKind.i64.wrap (v7 + (1 : Int)))) else (next v6 (IntKind.i64.wrap (v7 + (1 : Int))))))) else (kx0 v6))
def qi4  (v0 : List AV) (Ai : Bool) (Aj Ak : Int) (Au : Bool) (Av Aw Ax Bv : Int) (Bw Bx : List UInt8) (By : Int) (kx0 : Int → Option (AV × Bool)) : Nat → Int → Int → Option (AV × Bool)
  | 0 => (fun _ _ => none)
  | n + 1 => (fun v6 v7 => qgo v0 v6 v7 Ai Aj Ak Au Av Aw Ax Bv Bw Bx By (qi4 v0 Ai Aj Ak Au Av Aw Ax Bv Bw Bx By kx0 n) kx0)
def qpd := hull (qi4)
theorem qy3 : qpd = qi4 := qi _
def qgp : AC (AV × Bool) :=
  .seq (.seq (.reg [ao 8 (.mv 7),
 ao 9 (.mv 0),
 ao 10 (.len false 9),
 ao 11 (.bin .lss 8 10)]) (.cond 11 (.skip) (.seq (.view [.sel [0, 4, 6] [1]]) (.exit 0)))) (.seq (.block 1 (.seq (.seq (.view [.sel [0, 3, 4, 6, 7] [0, 1]]) (.sub (scOf qma) qy2)) (.cond 39 (.reg [ao 40 (.mv 7),
 ao 6 (.mv 40)]) (.skip)))) (.seq (.reg [ao 12 (.mv 7),
 ao 13 (.bin .add 12 (.c (.int .i64 1))),
 ao 7 (.mv 13)]) (.view [.sel [0, 3, 4, 6, 7] [0, 1]])))
theorem qbcw : AC.ok Try.prog (TIof Try.prog) 48 0 (kret [(.cell 4 true 8), .t 5] qdd) qgp := qm (zA qbcv trivial)
theorem qbbd (v0 : List AV) (v6 v7 : Int) (Ai : Bool) (Aj Ak : Int) (Au : Bool) (Av Aw Ax Bv : Int) (Bw Bx : List UInt8) (By : Int) (K : Ex → Env → Mem → Option (AV × Bool)) : den 0 (kret [(.cell 4 true 8), .t 5] qdd) qgp (qq1 v0 v6 v7 Ai Aj Ak Au Av Aw Ax Bv Bw Bx By) (qq2 v0 v6 v7 Ai Aj Ak Au Av Aw Ax Bv Bw Bx By) K = qgo v0 v6 v7 Ai Aj Ak Au Av Aw Ax Bv Bw Bx By (fun z_v6 z_v7 => K .norm (qq1 v0 z_v6 z_v7 Ai Aj Ak Au Av Aw Ax Bv Bw Bx By) (qq2 v0 z_v6 z_v7 Ai Aj Ak Au Av Aw Ax Bv Bw Bx By)) (qlj v0 Au Av Aw Ax Bv Bw Bx By K) := by kernel_rfl
theorem qbew (v0 : List AV) (Ai : Bool) (Aj Ak : Int) (Au : Bool) (Av Aw Ax Bv : Int) (Bw Bx : List UInt8) (By : Int) (K : Ex → Env → Mem → Option (AV × Bool)) : ∀ (n : Nat) (v6 v7 : Int), qep (den 0 (kret [(.cell 4 true 8), .t 5] qdd) qgp) n (qq1 v0 v6 v7 Ai Aj Ak Au Av Aw Ax Bv Bw Bx By) (qq2 v0 v6 v7 Ai Aj Ak Au Av Aw Ax Bv Bw Bx By) K = qpd v0 Ai Aj Ak Au Av Aw Ax Bv Bw Bx By (qlj v0 Au Av Aw Ax Bv Bw Bx By K) n v6 v7 := by
  rw [qy3]
  intro n
  induction n with
  | zero => intros; rfl
  | succ n ih =>
 intro v6 v7
 exact (qbbd v0 v6 v7 Ai Aj Ak Au Av Aw Ax Bv Bw Bx By (itK (den 0 (kret [(.cell 4 true 8), .t 5] qdd) qgp) n K)).trans (congrArg (fun q => qgo v0 v6 v7 Ai Aj Ak Au Av Aw Ax Bv Bw Bx By q (qlj v0 Au Av Aw Ax Bv Bw Bx By K)) (funext fun v6 => funext fun v7 => ih v6 v7))
def q0y := subE (R := AV × Bool) qbbc fun t m K => qj (bxC (m.s 1)) (qbu (bxC (m.s 0)) (qpd (gL [t 0] 0))) (qlj (gL [t 0] 0) (gB (bxC (m.s 1)) 0) (gI (bxC (m.s 1)) 1) (gI (bxC (m.s 1)) 2) (gI (bxC (m.s 1)) 3) (gI (bxC (m.s 1)) 4) (gS (bxC (m.s 1)) 5) (gS (bxC (m.s 1)) 6) (gI (bxC (m.s 1)) 7) K) FU (gI [t 6] 0) (gI [t 7] 0)
theorem qbex : qcb Try.prog (TIof Try.prog) 48 0 (kret [(.cell 4 true 8), .t 5] qdd) (.loop (scOf qgp)) (q0y) :=
  qdt tabOk follows (qbcw) (qn (by kernel_rfl)) fun t m K => qbew _ _ _ _ _ _ _ _ _ _ _ _ K FU _ _
def qbhq : Shp := ⟨[(0, .one (.l (.sl 8))), (1, .st (lk qcy))], []⟩
def qwm (v0 : List AV) (Aq : Bool) (Ar As : Int) : Option (AV × Bool) :=
  (qpd v0 Aq Ar As false (0 : Int) (0 : Int) (0 : Int) (0 : Int) ([] : List UInt8) ([] : List UInt8) (0 : Int) (fun v6q1 => (bif (decide (v6q1 < (0 : Int))) then (some ((.agg [(.bool false), (.int .u64 (0 : Int)), (.int .u64 (0 : Int)), (.int .i64 (0 : Int)), (.int .i64 (0 : Int)), (.str ([] : List UInt8)), (.str ([] : List UInt8)), (.int .i64 (0 : Int))]), false)) else (oB (ixB v0 v6q1) fun y2 => (bif fitC qa y2.cells then (some ((.agg [(.bool (gB y2.cells 0)), (.int .u64 (gI y2.cells 1)), (.int .u64 (gI y2.cells 2)), (.int .i64 (gI y2.cells 3)), (.int .i64 (gI y2.cells 4)), (.str (gS y2.cells 5)), (.str (gS y2.cells 6)), (.int .i64 (gI y2.cells 7))]), true)) else none)))) FU (-1 : Int) (0 : Int))
def qpe := hull qwm
theorem q4p : qpe = qwm := qi _
def qwn : AC (AV × Bool) :=
  .seq (.reg [ao 3 (.box 1),
 ao 4 (.alloc [(.bool false), (.int .u64 0), (.int .u64 0), (.int .i64 0), (.int .i64 0), (.str []), (.str []), (.int .i64 0)]),
 ao 5 (.mv (.c (.bool false)))]) (.seq (.reg [ao 6 (.mv (.c (.int .i64 (-1))))]) (.seq (.seq (.reg [ao 7 (.mv (.c (.int .i64 0)))]) (.block 0 (.seq (.view [.sel [0, 3, 4, 6, 7] [0, 1]]) (.sub (.loop (scOf qgp)) q0y)))) (.seq (.seq (.reg [ao 41 (.mv 6),
 ao 42 (.bin .lss 41 (.c (.int .i64 0)))]) (.cond 42 (.seq (.reg [ao 43 (.build [(.bool false), (.int .u64 0), (.int .u64 0), (.int .i64 0), (.int .i64 0), (.str []), (.str []), (.int .i64 0)] []),
 an (.store 8 4 43),
 ao 5 (.mv (.c (.bool false)))]) (.ret)) (.skip))) (.seq (.reg [ao 44 (.mv 0),
 ao 45 (.mv 6),
 ao 46 (.ia 8 44 45),
 .st (.etac 46 qa),
 ao 47 (.load true 8 46),
 an (.store 8 4 47),
 ao 5 (.mv (.c (.bool true)))]) (.ret)))))
theorem qbjy : AC.ok Try.prog (TIof Try.prog) 48 0 (kret [(.cell 4 true 8), .t 5] qdd) qwn := qm (zA qbex trivial)
theorem qbob (v0 : List AV) (Aq : Bool) (Ar As : Int) : den 0 (kret [(.cell 4 true 8), .t 5] qdd) qwn (qh [(0, (.sl 8 v0)), (1, .agg (qbj Aq Ar As))]) (qg []) (kend (kret [(.cell 4 true 8), .t 5] qdd)) = qpe v0 Aq Ar As := by
  rw [q4p]; kernel_rfl
theorem qboc : cFn (TIof Try.prog) Try.f29 = some ⟨48, [(.cell 4 true 8), .t 5], scOf qwn⟩ := by kernel_rfl
def qbod (xs : List AV) : Option (AV × Bool) := qbu ((qk xs) 1).cells (qpe (gL [(qk xs) 0] 0))
def q19 {R : Type} : List AV → (AV → Option R) → Option R := entF qbhq qbod qbhp
theorem qboe {R : Type} : qc Try.prog 29 (q19 (R := R)) :=
  qba tabOk follows Try.func29 (by kernel_rfl) qboc (fun z r h => by
 obtain ⟨h1, h2⟩ := qo h
 cases h2
 exact (qez h1).symm) qbjy (qn (by kernel_rfl)) fun xs => qbob _ _ _ _
def qh2  (v0 : List AV) (v6 : Int) (Ai : Bool) (Aj Ak Al : Int) (a1 : List AV) (K : Ex → Env → Mem → Option (List AV)) := (fun z_v7 => K (.exit 2) (qh [(0, (.sl 8 v0)), (3, (.ptr 0 0)), (5, (.own 1 a1.length)), (6, (.int .i64 v6)), (7, (.bool z_v7))]) (qg [(some (.box true (qb Ai Aj Ak Al))), (some (.arr true 8 a1))]))
def q6r : Shp := ⟨[(0, .one (.l (.sl 8))), (3, .one (.ptr 0 0)), (5, .one (.own 1)), (6, .one (.l (.i .i64))), (7, .one (.l .b)), (8, .one (.l (.i .i64)))], [.box true (lk qf), .arr true 8]⟩
def qn2 (v0 : List AV) (v6 : Int) (v7 : Bool) (v8 : Int) (Ai : Bool) (Aj Ak Al : Int) (a1 : List AV) : Env := qh [(0, (.sl 8 v0)), (3, (.ptr 0 0)), (5, (.own 1 a1.length)), (6, (.int .i64 v6)), (7, (.bool v7)), (8, (.int .i64 v8))]
def qn3 (v0 : List AV) (v6 : Int) (v7 : Bool) (v8 : Int) (Ai : Bool) (Aj Ak Al : Int) (a1 : List AV) : Mem := qg [(some (.box true (qb Ai Aj Ak Al))), (some (.arr true 8 a1))]
def qfd  (v0 : List AV) (v6 : Int) (v7 : Bool) (v8 : Int) (Ai : Bool) (Aj Ak Al : Int) (a1 : List AV) (next : Bool → Int → Option (List AV)) (kx2 : Bool → Option (List AV)) : Option (List AV) :=
  (bif (decide (v8 < (v0.length : Int))) then (oB (ixB v0 v8) fun y1 => (bif fitC qa y1.cells then (oB (qk8 (gB y1.cells 0) (gI y1.cells 1) (gI y1.cells 2) (gI y1.cells 3) Ai Aj Ak Al) fun r2 => (bif r2 then (oB (ixB v0 v6) fun y3 => (bif fitC qa y3.cells then (oB (ixB v0 v8) fun y4 => (bif fitC qa y4.cells then (oB (qk8 (gB y3.cells 0) (gI y3.cells 1) (gI y3.cells 2) (gI y3.cells 3) (gB y4.cells 0) (gI y4.cells 1) (gI y4.cells 2) (gI y4.cells 3)) fun r5 => (bif r5 then (next false (IntKind.i64.wrap (v8 + (1 : Int)))) else (next v7 (IntKind.i64.wrap (v8 + (1 : Int)))))) else none)) else none)) else (next v7 (IntKind.i64.wrap (v8 + (1 : Int)))))) else none)) else (kx2 v7))
def qj8  (v0 : List AV) (v6 : Int) (Ai : Bool) (Aj Ak Al : Int) (a1 : List AV) (kx2 : Bool → Option (List AV)) : Nat → Bool → Int → Option (List AV)
  | 0 => (fun _ _ => none)
  | n + 1 => (fun v7 v8 => qfd v0 v6 v7 v8 Ai Aj Ak Al a1 (qj8 v0 v6 Ai Aj Ak Al a1 kx2 n) kx2)
def qhu := hull (qj8)
theorem quv : qhu = qj8 := qi _
def qfe : AC (List AV) :=
  .seq (.seq (.reg [ao 23 (.mv 8),
 ao 24 (.mv 0),
 ao 25 (.len false 24),
 ao 26 (.bin .lss 23 25)]) (.cond 26 (.skip) (.seq (.view [.sel [0, 3, 5, 6, 7] [0, 1]]) (.exit 2)))) (.seq (.block 3 (.seq (.draw [] [ao 29 (.mv 0),
 ao 30 (.mv 8),
 ao 31 (.ia 8 29 30),
 .et 31 qa,
 ao 32 (.fa 0 31),
 ao 33 (.load true 4 32),
 ao 34 (.load true 4 3),
 .call (po 35 (.call 54 [33, 34])) 54 ql3,
 ao 36 (.mv 35),
 ag 37 36 true (.mv 0),
 ag 38 36 true (.mv 6),
 ag 39 36 true (.ia 8 37 38),
 .et 39 qa,
 ag 40 36 true (.fa 0 39),
 ag 41 36 true (.load true 4 40),
 ag 42 36 true (.mv 0),
 ag 43 36 true (.mv 8),
 ag 44 36 true (.ia 8 42 43),
 .et 44 qa,
 ag 45 36 true (.fa 0 44),
 ag 46 36 true (.load true 4 45)] [.call (pg 47 36 true (.call 54 [41, 46])) 54 ql3,
 ao 48 (.pick 36 47 (.c (.bool false)))]) (.cond 48 (.reg [ao 7 (.mv (.c (.bool false)))]) (.skip)))) (.seq (.reg [ao 27 (.mv 8),
 ao 28 (.bin .add 27 (.c (.int .i64 1))),
 ao 8 (.mv 28)]) (.view [.sel [0, 3, 5, 6, 7, 8] [0, 1]])))
theorem q8g : AC.ok Try.prog (TIof Try.prog) 58 0 (kret [.t 4] (decF true 8)) qfe := qm (zA (qc.ok qsa) (zA (qc.ok qsa) (zA rfl trivial)))
theorem q6s (v0 : List AV) (v6 : Int) (v7 : Bool) (v8 : Int) (Ai : Bool) (Aj Ak Al : Int) (a1 : List AV) (K : Ex → Env → Mem → Option (List AV)) : den 0 (kret [.t 4] (decF true 8)) qfe (qn2 v0 v6 v7 v8 Ai Aj Ak Al a1) (qn3 v0 v6 v7 v8 Ai Aj Ak Al a1) K = qfd v0 v6 v7 v8 Ai Aj Ak Al a1 (fun z_v7 z_v8 => K .norm (qn2 v0 v6 z_v7 z_v8 Ai Aj Ak Al a1) (qn3 v0 v6 z_v7 z_v8 Ai Aj Ak Al a1)) (qh2 v0 v6 Ai Aj Ak Al a1 K) := by kernel_rfl
theorem q9j (v0 : List AV) (v6 : Int) (Ai : Bool) (Aj Ak Al : Int) (a1 : List AV) (K : Ex → Env → Mem → Option (List AV)) : ∀ (n : Nat) (v7 : Bool) (v8 : Int), qep (den 0 (kret [.t 4] (decF true 8)) qfe) n (qn2 v0 v6 v7 v8 Ai Aj Ak Al a1) (qn3 v0 v6 v7 v8 Ai Aj Ak Al a1) K = qhu v0 v6 Ai Aj Ak Al a1 (qh2 v0 v6 Ai Aj Ak Al a1 K) n v7 v8 := by
  rw [quv]
  intro n
  induction n with
  | zero => intros; rfl
  | succ n ih =>
 intro v7 v8
 exact (q6s v0 v6 v7 v8 Ai Aj Ak Al a1 (itK (den 0 (kret [.t 4] (decF true 8)) qfe) n K)).trans (congrArg (fun q => qfd v0 v6 v7 v8 Ai Aj Ak Al a1 q (qh2 v0 v6 Ai Aj Ak Al a1 K)) (funext fun v7 => funext fun v8 => ih v7 v8))
def qvl := subE (R := (List AV)) q6r fun t m K => qe (bxC (m.s 0)) (qhu (gL [t 0] 0) (gI [t 6] 0)) (arL (m.s 1)) (qh2 (gL [t 0] 0) (gI [t 6] 0) (gB (bxC (m.s 0)) 0) (gI (bxC (m.s 0)) 1) (gI (bxC (m.s 0)) 2) (gI (bxC (m.s 0)) 3) (arL (m.s 1)) K) FU (gB [t 7] 0) (gI [t 8] 0)
theorem q9k : qcb Try.prog (TIof Try.prog) 58 0 (kret [.t 4] (decF true 8)) (.loop (scOf qfe)) (qvl) :=
  qdt tabOk follows (q8g) (qn (by kernel_rfl)) fun t m K => q9j _ _ _ _ _ _ _ K FU _ _
def qi5  (K : Ex → Env → Mem → Option (List AV)) := (fun z_a0 => K (.exit 0) (qh [(5, (.own 0 z_a0.length))]) (qg [(some (.arr true 8 z_a0))]))
def q8h : Shp := ⟨[(0, .one (.l (.sl 8))), (3, .one (.ptr 0 0)), (5, .one (.own 1)), (6, .one (.l (.i .i64)))], [.box true (lk qf), .arr true 8]⟩
def qok (v0 : List AV) (v6 : Int) (Ai : Bool) (Aj Ak Al : Int) (a1 : List AV) : Env := qh [(0, (.sl 8 v0)), (3, (.ptr 0 0)), (5, (.own 1 a1.length)), (6, (.int .i64 v6))]
def qol (v0 : List AV) (v6 : Int) (Ai : Bool) (Aj Ak Al : Int) (a1 : List AV) : Mem := qg [(some (.box true (qb Ai Aj Ak Al))), (some (.arr true 8 a1))]
def qfm  (v0 : List AV) (v6 : Int) (Ai : Bool) (Aj Ak Al : Int) (a1 : List AV) (next : Int → (List AV) → Option (List AV)) (kx0 : (List AV) → Option (List AV)) : Option (List AV) :=
  (bif (decide (v6 < (v0.length : Int))) then (oB (ixB v0 v6) fun y1 => (bif fitC qa y1.cells then (oB (qk8 (gB y1.cells 0) (gI y1.cells 1) (gI y1.cells 2) (gI y1.cells 3) Ai Aj Ak Al) fun r2 => (bif (!r2) then (next (IntKind.i64.wrap (v6 + (1 : Int))) a1) else (bif (hd a1 (a1.length) && true) then (qhu v0 v6 Ai Aj Ak Al a1 (fun v7q3 => (bif v7q3 then (oB (ixB v0 v6) fun y4 => (bif fitC qa y4.cells then (bif hd a1 a1.length then (bif hd ([(.agg [(.bool (gB y4.cells 0)), (.int .u64 (gI y4.cells 1)), (.int .u64 (gI y4.cells 2)), (.int .i64 (gI y4.cells 3)), (.int .i64 (gI y4.cells 4)), (.str (gS y4.cells 5)), (.str (gS y4.cells 6)), (.int .i64 (gI y4.cells 7))])] : List AV) (([(.agg [(.bool (gB y4.cells 0)), (.int .u64 (gI y4.cells 1)), (.int .u64 (gI y4.cells 2)), (.int .i64 (gI y4.cells 3)), (.int .i64 (gI y4.cells 4)), (.str (gS y4.cells 5)), (.str (gS y4.cells 6)), (.int .i64 (gI y4.cells 7))])] : List AV).length) then (bif decide ((a1.length + ([(.agg [(.bool (gB y4.cells 0)), (.int .u64 (gI y4.cells 1)), (.int .u64 (gI y4.cells 2)), (.int .i64 (gI y4.cells 3)), (.int .i64 (gI y4.cells 4)), (.str (gS y4.cells 5)), (.str (gS y4.cells 6)), (.int .i64 (gI y4.cells 7))])] : List AV).length) * 80 ≤ 140737488355328) then (next (IntKind.i64.wrap (v6 + (1 : Int))) (a1 ++ ([(.agg [(.bool (gB y4.cells 0)), (.int .u64 (gI y4.cells 1)), (.int .u64 (gI y4.cells 2)), (.int .i64 (gI y4.cells 3)), (.int .i64 (gI y4.cells 4)), (.str (gS y4.cells 5)), (.str (gS y4.cells 6)), (.int .i64 (gI y4.cells 7))])] : List AV))) else none) else none) else none) else none)) else (next (IntKind.i64.wrap (v6 + (1 : Int))) a1))) FU true (0 : Int)) else none))) else none)) else (kx0 a1))
def qlk  (v0 : List AV) (Ai : Bool) (Aj Ak Al : Int) (kx0 : (List AV) → Option (List AV)) : Nat → Int → (List AV) → Option (List AV)
  | 0 => (fun _ _ => none)
  | n + 1 => (fun v6 a1 => qfm v0 v6 Ai Aj Ak Al a1 (qlk v0 Ai Aj Ak Al kx0 n) kx0)
def qm6 := hull (qlk)
theorem qvm : qm6 = qlk := qi _
def qfn : AC (List AV) :=
  .seq (.seq (.reg [ao 9 (.mv 6),
 ao 10 (.mv 0),
 ao 11 (.len false 10),
 ao 12 (.bin .lss 9 11)]) (.cond 12 (.skip) (.seq (.view [.sel [5] [1]]) (.exit 0)))) (.seq (.block 1 (.seq (.seq (.draw [] [ao 15 (.mv 0),
 ao 16 (.mv 6),
 ao 17 (.ia 8 15 16),
 .et 17 qa,
 ao 18 (.fa 0 17),
 ao 19 (.load true 4 18),
 ao 20 (.load true 4 3)] [.call (po 21 (.call 54 [19, 20])) 54 ql3,
 ao 22 (.un .not 21)]) (.cond 22 (.exit 1) (.skip))) (.seq (.reg [ao 7 (.mv (.c (.bool true)))]) (.seq (.seq (.reg [ao 8 (.mv (.c (.int .i64 0)))]) (.block 2 (.seq (.view [.sel [0, 3, 5, 6, 7, 8] [0, 1]]) (.sub (.loop (scOf qfe)) qvl)))) (.seq (.reg [ao 49 (.mv 7)]) (.cond 49 (.reg [ao 50 (.mv 5),
 ao 51 (.mv 0),
 ao 52 (.mv 6),
 ao 53 (.ia 8 51 52),
 .st (.etac 53 qa),
 ao 54 (.load true 8 53),
 ao 55 (.bsl 8 [54]),
 ao 56 (.app 8 80 50 55),
 ao 5 (.mv 56)]) (.skip))))))) (.seq (.reg [ao 13 (.mv 6),
 ao 14 (.bin .add 13 (.c (.int .i64 1))),
 ao 6 (.mv 14)]) (.view [.sel [0, 3, 5, 6] [0, 1]])))
theorem q9l : AC.ok Try.prog (TIof Try.prog) 58 0 (kret [.t 4] (decF true 8)) qfn := qm (zA (qc.ok qsa) (zA rfl (zA q9k trivial)))
theorem q8i (v0 : List AV) (v6 : Int) (Ai : Bool) (Aj Ak Al : Int) (a1 : List AV) (K : Ex → Env → Mem → Option (List AV)) : den 0 (kret [.t 4] (decF true 8)) qfn (qok v0 v6 Ai Aj Ak Al a1) (qol v0 v6 Ai Aj Ak Al a1) K = qfm v0 v6 Ai Aj Ak Al a1 (fun z_v6 z_a1 => K .norm (qok v0 z_v6 Ai Aj Ak Al z_a1) (qol v0 z_v6 Ai Aj Ak Al z_a1)) (qi5 K) := by kernel_rfl
theorem qbbe (v0 : List AV) (Ai : Bool) (Aj Ak Al : Int) (K : Ex → Env → Mem → Option (List AV)) : ∀ (n : Nat) (v6 : Int) (a1 : List AV), qep (den 0 (kret [.t 4] (decF true 8)) qfn) n (qok v0 v6 Ai Aj Ak Al a1) (qol v0 v6 Ai Aj Ak Al a1) K = qm6 v0 Ai Aj Ak Al (qi5 K) n v6 a1 := by
  rw [qvm]
  intro n
  induction n with
  | zero => intros; rfl
  | succ n ih =>
 intro v6 a1
 exact (q8i v0 v6 Ai Aj Ak Al a1 (itK (den 0 (kret [.t 4] (decF true 8)) qfn) n K)).trans (congrArg (fun q => qfm v0 v6 Ai Aj Ak Al a1 q (qi5 K)) (funext fun v6 => funext fun a1 => ih v6 a1))
def qw8 := subE (R := (List AV)) q8h fun t m K => qe (bxC (m.s 0)) (qm6 (gL [t 0] 0)) (qi5 K) FU (gI [t 6] 0) (arL (m.s 1))
theorem qbbf : qcb Try.prog (TIof Try.prog) 58 0 (kret [.t 4] (decF true 8)) (.loop (scOf qfn)) (qw8) :=
  qdt tabOk follows (q9l) (qn (by kernel_rfl)) fun t m K => qbbe _ _ _ _ _ K FU _ _
def qbcx : Shp := ⟨[(0, .one (.l (.sl 8))), (1, .st (lk qf))], []⟩
def qs8 (v0 : List AV) (Aq : Bool) (Ar As At : Int) : Option (List AV) :=
  (bif (hd ([] : List AV) (([] : List AV).length) && true) then (qm6 v0 Aq Ar As At (fun a0q1 => (bif hd a0q1 a0q1.length then (some a0q1) else none)) FU (0 : Int) ([] : List AV)) else none)
def qjg := hull qs8
theorem q0z : qjg = qs8 := qi _
def qs9 : AC (List AV) :=
  .seq (.reg [ao 3 (.box 1),
 ao 4 (.mv (.c .nils))]) (.seq (.reg [ao 5 (.mv (.c .nils))]) (.seq (.seq (.reg [ao 6 (.mv (.c (.int .i64 0)))]) (.block 0 (.seq (.view [.own 5 8, .sel [0, 3, 5, 6] [0, 1]]) (.sub (.loop (scOf qfn)) qw8)))) (.seq (.reg [ao 57 (.mv 5),
 ao 4 (.mv 57)]) (.ret))))
theorem qbey : AC.ok Try.prog (TIof Try.prog) 58 0 (kret [.t 4] (decF true 8)) qs9 := qm (zA qbbf trivial)
theorem qbhr (v0 : List AV) (Aq : Bool) (Ar As At : Int) : den 0 (kret [.t 4] (decF true 8)) qs9 (qh [(0, (.sl 8 v0)), (1, .agg (qb Aq Ar As At))]) (qg []) (kend (kret [.t 4] (decF true 8))) = qjg v0 Aq Ar As At := by
  rw [q0z]; kernel_rfl
theorem qbhs : cFn (TIof Try.prog) Try.f31 = some ⟨58, [.t 4], scOf qs9⟩ := by kernel_rfl
def qbht (xs : List AV) : Option (List AV) := qe ((qk xs) 1).cells (qjg (gL [(qk xs) 0] 0))
def qq3 {R : Type} : List AV → (AV → Option R) → Option R := entF qbcx qbht (AV.fr true 8)
theorem q2a {R : Type} : qc Try.prog 31 (qq3 (R := R)) :=
  qba tabOk follows Try.func31 (by kernel_rfl) qbhs hdeF qbey (qn (by kernel_rfl)) fun xs => qbhr _ _ _ _ _
def qbez : Shp := ⟨[(0, .st (lk qf)), (1, .st (lk qf))], []⟩
def quw (Aa : Bool) (Ab Ac Ad : Int) (Aq : Bool) (Ar As At : Int) : Option Bool :=
  (oB (qgu Aa Ab Ac Ad Aq Ar As At) fun r1 => (bif r1 then (some true) else (oB (qgu Aq Ar As At Aa Ab Ac Ad) fun r2 => (some r2))))
def qn4 := hull quw
theorem q2b : qn4 = quw := qi _
def qux : AC Bool :=
  .seq (.reg [ao 2 (.box 0),
 ao 3 (.box 1),
 ao 4 (.mv (.c (.bool false)))]) (.seq (.reg [ao 5 (.load true 4 2),
 ao 6 (.load true 4 3),
 .call (po 7 (.call 94 [5, 6])) 94 qkc,
 ao 8 (.mv 7),
 ag 9 8 false (.load true 4 3),
 ag 10 8 false (.load true 4 2),
 .call (pg 11 8 false (.call 94 [9, 10])) 94 qkc,
 ao 12 (.pick 8 (.c (.bool true)) 11),
 ao 4 (.mv 12)]) (.ret))
theorem qbhu : AC.ok Try.prog (TIof Try.prog) 13 0 (kret [.t 4] decB) qux := qm (zA (qc.ok qp3) (zA (qc.ok qp3) trivial))
theorem qbjz (Aa : Bool) (Ab Ac Ad : Int) (Aq : Bool) (Ar As At : Int) : den 0 (kret [.t 4] decB) qux (qh [(0, .agg (qb Aa Ab Ac Ad)), (1, .agg (qb Aq Ar As At))]) (qg []) (kend (kret [.t 4] decB)) = qn4 Aa Ab Ac Ad Aq Ar As At := by
  rw [q2b]; kernel_rfl
theorem qbj0 : cFn (TIof Try.prog) Try.f100 = some ⟨13, [.t 4], scOf qux⟩ := by kernel_rfl
def qbj1 (xs : List AV) : Option Bool := qe ((qk xs) 1).cells (qe ((qk xs) 0).cells (qn4))
def q00 {R : Type} : List AV → (AV → Option R) → Option R := entF qbez qbj1 AV.bool
theorem qbj2 {R : Type} : qc Try.prog 100 (q00 (R := R)) :=
  qba tabOk follows Try.func100 (by kernel_rfl) qbj0 hdeB qbhu (qn (by kernel_rfl)) fun xs => qbjz _ _ _ _ _ _ _ _
def q6k : Shp := ⟨[(0, .one (.l (.sl 8))), (1, .st (lk qf))], []⟩
def qed {R : Type} (rec : (List AV) → Bool → Int → Int → Int → Option (List AV)) (xs : List AV) (K : AV → Option R) : Option R := chk (fitS q6k (qk xs) Mem.none) (oB (rec (gL [(qk xs) 0] 0) (gB ((qk xs) 1).cells 0) (gI ((qk xs) 1).cells 1) (gI ((qk xs) 1).cells 2) (gI ((qk xs) 1).cells 3)) fun r => K ((AV.fr true 4) r))
def qm7  (v0 : List AV) (Ai : Bool) (Aj Ak Al : Int) (K : Ex → Env → Mem → Option (List AV)) := (fun z_v5 => K (.exit 0) (qh [(0, (.sl 8 v0)), (3, (.ptr 0 0)), (5, (.bool z_v5))]) (qg [(some (.box true (qb Ai Aj Ak Al)))]))
def qbe0 : Shp := ⟨[(0, .one (.l (.sl 8))), (3, .one (.ptr 0 0)), (5, .one (.l .b)), (6, .one (.l (.i .i64)))], [.box true (lk qf)]⟩
def qta (v0 : List AV) (v5 : Bool) (v6 : Int) (Ai : Bool) (Aj Ak Al : Int) : Env := qh [(0, (.sl 8 v0)), (3, (.ptr 0 0)), (5, (.bool v5)), (6, (.int .i64 v6))]
def qtb (v0 : List AV) (v5 : Bool) (v6 : Int) (Ai : Bool) (Aj Ak Al : Int) : Mem := qg [(some (.box true (qb Ai Aj Ak Al)))]
def qhv  (rec : (List AV) → Bool → Int → Int → Int → Option (List AV)) (v0 : List AV) (v5 : Bool) (v6 : Int) (Ai : Bool) (Aj Ak Al : Int) (next : Bool → Int → Option (List AV)) (kx0 : Bool → Option (List AV)) : Option (List AV) :=
  (bif (decide (v6 < (v0.length : Int))) then (oB (ixB v0 v6) fun y1 => (bif fitC qa y1.cells then (oB (qgu Ai Aj Ak Al (gB y1.cells 0) (gI y1.cells 1) (gI y1.cells 2) (gI y1.cells 3)) fun r2 => (bif r2 then (bif hd ([] : List AV) (([] : List AV).length) then (some ([] : List AV)) else none) else (oB (ixB v0 v6) fun y3 => (bif fitC qa y3.cells then (oB (qn4 Ai Aj Ak Al (gB y3.cells 0) (gI y3.cells 1) (gI y3.cells 2) (gI y3.cells 3)) fun r4 => (bif r4 then (next true (IntKind.i64.wrap (v6 + (1 : Int)))) else (next v5 (IntKind.i64.wrap (v6 + (1 : Int)))))) else none)))) else none)) else (kx0 v5))
def qpf  (rec : (List AV) → Bool → Int → Int → Int → Option (List AV)) (v0 : List AV) (Ai : Bool) (Aj Ak Al : Int) (kx0 : Bool → Option (List AV)) : Nat → Bool → Int → Option (List AV)
  | 0 => (fun _ _ => none)
  | n + 1 => (fun v5 v6 => qhv rec v0 v5 v6 Ai Aj Ak Al (qpf rec v0 Ai Aj Ak Al kx0 n) kx0)
def qn5  (rec : (List AV) → Bool → Int → Int → Int → Option (List AV)):= hull (qpf rec)
theorem q2c  (rec : (List AV) → Bool → Int → Int → Int → Option (List AV)): qn5 rec = qpf rec := qi _
def qhw (rec : (List AV) → Bool → Int → Int → Int → Option (List AV)) : AC (List AV) :=
  .seq (.seq (.reg [ao 11 (.mv 6),
 ao 12 (.mv 0),
 ao 13 (.len false 12),
 ao 14 (.bin .lss 11 13)]) (.cond 14 (.skip) (.seq (.view [.sel [0, 3, 5] [0]]) (.exit 0)))) (.seq (.block 1 (.seq (.seq (.draw [] [ao 17 (.load true 4 3),
 ao 18 (.mv 0),
 ao 19 (.mv 6),
 ao 20 (.ia 8 18 19),
 .et 20 qa,
 ao 21 (.fa 0 20),
 ao 22 (.load true 4 21)] [.call (po 23 (.call 94 [17, 22])) 94 qkc]) (.cond 23 (.seq (.reg [ao 4 (.mv (.c .nils))]) (.seq (.view [.own 4 4]) (.ret))) (.skip))) (.seq (.draw [] [ao 24 (.load true 4 3),
 ao 25 (.mv 0),
 ao 26 (.mv 6),
 ao 27 (.ia 8 25 26),
 .et 27 qa,
 ao 28 (.fa 0 27),
 ao 29 (.load true 4 28)] [.call (po 30 (.call 100 [24, 29])) 100 q00]) (.cond 30 (.reg [ao 5 (.mv (.c (.bool true)))]) (.skip))))) (.seq (.reg [ao 15 (.mv 6),
 ao 16 (.bin .add 15 (.c (.int .i64 1))),
 ao 6 (.mv 16)]) (.view [.sel [0, 3, 5, 6] [0]])))
theorem qbhv (rec : (List AV) → Bool → Int → Int → Int → Option (List AV)) (hrec : qc Try.prog 70 (qed (R := (List AV)) rec)) : AC.ok Try.prog (TIof Try.prog) 53 0 (kret [.t 4] (decF true 4)) (qhw rec) := qm (zA (qc.ok qp3) (zA rfl (zA (qc.ok qbj2) (zA rfl trivial))))
theorem qbe1 (rec : (List AV) → Bool → Int → Int → Int → Option (List AV)) (v0 : List AV) (v5 : Bool) (v6 : Int) (Ai : Bool) (Aj Ak Al : Int) (K : Ex → Env → Mem → Option (List AV)) : den 0 (kret [.t 4] (decF true 4)) (qhw rec) (qta v0 v5 v6 Ai Aj Ak Al) (qtb v0 v5 v6 Ai Aj Ak Al) K = qhv rec v0 v5 v6 Ai Aj Ak Al (fun z_v5 z_v6 => K .norm (qta v0 z_v5 z_v6 Ai Aj Ak Al) (qtb v0 z_v5 z_v6 Ai Aj Ak Al)) (qm7 v0 Ai Aj Ak Al K) := by kernel_rfl
theorem qbj3 (rec : (List AV) → Bool → Int → Int → Int → Option (List AV)) (v0 : List AV) (Ai : Bool) (Aj Ak Al : Int) (K : Ex → Env → Mem → Option (List AV)) : ∀ (n : Nat) (v5 : Bool) (v6 : Int), qep (den 0 (kret [.t 4] (decF true 4)) (qhw rec)) n (qta v0 v5 v6 Ai Aj Ak Al) (qtb v0 v5 v6 Ai Aj Ak Al) K = qn5 rec v0 Ai Aj Ak Al (qm7 v0 Ai Aj Ak Al K) n v5 v6 := by
  rw [q2c]
  intro n
  induction n with
  | zero => intros; rfl
  | succ n ih =>
 intro v5 v6
 exact (qbe1 rec v0 v5 v6 Ai Aj Ak Al (itK (den 0 (kret [.t 4] (decF true 4)) (qhw rec)) n K)).trans (congrArg (fun q => qhv rec v0 v5 v6 Ai Aj Ak Al q (qm7 v0 Ai Aj Ak Al K)) (funext fun v5 => funext fun v6 => ih v5 v6))
def q4q (rec : (List AV) → Bool → Int → Int → Int → Option (List AV)) := subE (R := (List AV)) qbe0 fun t m K => qe (bxC (m.s 0)) (qn5 rec (gL [t 0] 0)) (qm7 (gL [t 0] 0) (gB (bxC (m.s 0)) 0) (gI (bxC (m.s 0)) 1) (gI (bxC (m.s 0)) 2) (gI (bxC (m.s 0)) 3) K) FU (gB [t 5] 0) (gI [t 6] 0)
theorem qbj4 (rec : (List AV) → Bool → Int → Int → Int → Option (List AV)) (hrec : qc Try.prog 70 (qed (R := (List AV)) rec)) : qcb Try.prog (TIof Try.prog) 53 0 (kret [.t 4] (decF true 4)) (.loop (scOf (qhw rec))) (q4q rec) :=
  qdt tabOk follows (qbhv rec hrec) (qn (by kernel_rfl)) fun t m K => qbj3 rec _ _ _ _ _ K FU _ _
def qpg (rec : (List AV) → Bool → Int → Int → Int → Option (List AV)) (v0 : List AV) (Aq : Bool) (Ar As At : Int) : Option (List AV) :=
  (qn5 rec v0 Aq Ar As At (fun v5q1 => (bif (!v5q1) then (bif hd ([(.agg [(.bool Aq), (.int .u64 Ar), (.int .u64 As), (.int .i64 At)])] : List AV) (([(.agg [(.bool Aq), (.int .u64 Ar), (.int .u64 As), (.int .i64 At)])] : List AV).length) then (some ([(.agg [(.bool Aq), (.int .u64 Ar), (.int .u64 As), (.int .i64 At)])] : List AV)) else none) else (oB (qpa Aq Ar As At) fun r2 => (bif (!r2.2.2) then (bif hd ([] : List AV) (([] : List AV).length) then (some ([] : List AV)) else none) else (oB (rec v0 (gB r2.1.cells 0) (gI r2.1.cells 1) (gI r2.1.cells 2) (gI r2.1.cells 3)) fun r3 => (bif decide ((([] : List AV).length + r3.length) * 32 ≤ 140737488355328) then (oB (rec v0 (gB r2.2.1.cells 0) (gI r2.2.1.cells 1) (gI r2.2.1.cells 2) (gI r2.2.1.cells 3)) fun r4 => (bif hd r3 r3.length then (bif decide ((r3.length + r4.length) * 32 ≤ 140737488355328) then (bif hd (r3 ++ r4) ((r3 ++ r4).length) then (some (r3 ++ r4)) else none) else none) else none)) else none)))))) FU false (0 : Int))
def qdp : Nat → (List AV) → Bool → Int → Int → Int → Option (List AV)
  | 0 => (fun _ _ _ _ _ => none)
  | n + 1 => (fun v0 Aq Ar As At => qpg (qdp n) v0 Aq Ar As At)
def q5k : (List AV) → Bool → Int → Int → Int → Option (List AV) := hull (qdp FU)
theorem q8j : q5k = qdp FU := qi _
def qph (rec : (List AV) → Bool → Int → Int → Int → Option (List AV)) : AC (List AV) :=
  .seq (.reg [ao 3 (.box 1),
 ao 4 (.mv (.c .nils))]) (.seq (.reg [ao 5 (.mv (.c (.bool false)))]) (.seq (.seq (.reg [ao 6 (.mv (.c (.int .i64 0)))]) (.block 0 (.seq (.view [.sel [0, 3, 5, 6] [0]]) (.sub (.loop (scOf (qhw rec))) (q4q rec))))) (.seq (.seq (.reg [ao 31 (.mv 5),
 ao 32 (.un .not 31)]) (.cond 32 (.seq (.reg [ao 33 (.load true 4 3),
 ao 34 (.bsl 4 [33]),
 ao 4 (.mv 34)]) (.ret)) (.skip))) (.seq (.reg [ao 36 (.load true 4 3),
 .call (po 37 (.call 60 [36])) 60 q17,
 ao 35 (.mv 37),
 ao 38 (.ext 35 0),
 ao 39 (.ext 35 1),
 ao 40 (.ext 35 2),
 ao 7 (.alloc [(.bool false), (.int .u64 0), (.int .u64 0), (.int .i64 0)]),
 ao 8 (.alloc [(.bool false), (.int .u64 0), (.int .u64 0), (.int .i64 0)]),
 an (.store 4 7 38),
 an (.store 4 8 39),
 ao 9 (.mv 40)]) (.seq (.seq (.reg [ao 41 (.mv 9),
 ao 42 (.un .not 41)]) (.cond 42 (.seq (.reg [ao 4 (.mv (.c .nils))]) (.seq (.view [.own 4 4]) (.ret))) (.skip))) (.seq (.reg [ao 10 (.mv (.c .nils))]) (.seq (.reg [ao 43 (.mv 10),
 ao 44 (.mv 0),
 ao 45 (.load true 4 7),
 .callc (po 46 (.call 70 [44, 45])) 70 (qed rec),
 ao 47 (.app 4 32 43 46),
 ao 10 (.mv 47)]) (.seq (.reg [ao 48 (.mv 10),
 ao 49 (.mv 0),
 ao 50 (.load true 4 8),
 .callc (po 51 (.call 70 [49, 50])) 70 (qed rec),
 ao 52 (.app 4 32 48 51),
 ao 4 (.mv 52)]) (.ret)))))))))
theorem qbq0 (rec : (List AV) → Bool → Int → Int → Int → Option (List AV)) (hrec : qc Try.prog 70 (qed (R := (List AV)) rec)) : AC.ok Try.prog (TIof Try.prog) 53 0 (kret [.t 4] (decF true 4)) (qph rec) := qm (zA (qbj4 rec hrec) (zA (qc.ok qbn6) (zA (qc.ok hrec) (zA (qc.ok hrec) trivial))))
theorem qbtc (rec : (List AV) → Bool → Int → Int → Int → Option (List AV)) (v0 : List AV) (Aq : Bool) (Ar As At : Int) : den 0 (kret [.t 4] (decF true 4)) (qph rec) (qh [(0, (.sl 8 v0)), (1, .agg (qb Aq Ar As At))]) (qg []) (kend (kret [.t 4] (decF true 4))) = qpg rec v0 Aq Ar As At := by
  kernel_rfl
theorem qbtd : cFn (TIof Try.prog) Try.f70 = some ⟨53, [.t 4], scOf (qph (fun _ _ _ _ _ => none))⟩ := by kernel_rfl
theorem qbte (rec : (List AV) → Bool → Int → Int → Int → Option (List AV)) : (qph rec).er = some (scOf (qph (fun _ _ _ _ _ => none))) := by kernel_rfl
theorem q8k : ∀ (k : Nat) {R : Type}, qc Try.prog 70 (qed (R := R) (qdp k))
  | 0 => fun xs K r h => by
   unfold qed at h
   obtain ⟨_, h2, _⟩ := qfh (qpt h).2
   cases h2
  | k + 1 => qb4e (F := fun xs => qpg (qdp k) (gL [(qk xs) 0] 0) (gB ((qk xs) 1).cells 0) (gI ((qk xs) 1).cells 1) (gI ((qk xs) 1).cells 2) (gI ((qk xs) 1).cells 3)) (enc := (AV.fr true 4)) tabOk follows Try.func70 (by kernel_rfl) qbtd (hdeF) (qbq0 (qdp k) (q8k k)) (qbte (qdp k)) q6k (fun xs => qbtc (qdp k) (gL [(qk xs) 0] 0) (gB ((qk xs) 1).cells 0) (gI ((qk xs) 1).cells 1) (gI ((qk xs) 1).cells 2) (gI ((qk xs) 1).cells 3)) (fun xs K r h => by
 unfold qed at h
 exact ⟨(qpt h).1, qfh (qpt h).2⟩)
def q6l {R : Type} (xs : List AV) (K : AV → Option R) : Option R := qed q5k xs K
theorem qbtf {R : Type} : qc Try.prog 70 (q6l (R := R)) := by
  have h := q8k FU (R := R)
  rw [← q8j] at h
  exact h
def qjh (z : AV) : Option (List AV) := cond (q61 (.one (.sl 4)) z) (some (aL z)) none
def qbof (r : (List AV)) : AV := .sl 4 r
def q2d  (v0 : List AV) (Ai : Bool) (Aj Ak Al : Int) (K : Ex → Env → Mem → Option (List AV)) := (fun z_v24 => K .norm (qh [(0, (.sl 8 v0)), (3, (.ptr 0 0)), (24, (.bool z_v24))]) (qg [(some (.box true (qb Ai Aj Ak Al)))]))
def qbe2 : Shp := ⟨[(0, .one (.l (.sl 8))), (3, .one (.ptr 0 0)), (5, .one (.ptr 1 0)), (6, .one (.l .b))], [.box true (lk qf), .box true (lk qa)]⟩
def qpi  (v0 : List AV) (v6 Ai : Bool) (Aj Ak Al : Int) (Au : Bool) (Av Aw Ax Bv : Int) (Bw Bx : List UInt8) (By : Int) (kn : Bool → Option (List AV)) : Option (List AV) :=
  (bif ((!v6) || (Bv != (1 : Int))) then (kn true) else (oB (qge Ai Aj Ak Al) fun r1 => (kn (!r1))))
def qrx := hull (qpi)
theorem qtc : qrx = qpi := qi _
def qpj : AC (List AV) :=
  .seq (.reg [ao 13 (.mv 6),
 ao 14 (.un .not 13),
 ao 15 (.mv 14),
 .grp 15 false [(pg 16 15 false (.fa 4 5)), (pg 17 15 false (.load false 1 16)), (pg 18 15 false (.bin .neq 17 (.c (.int .i64 1))))] 19 18,
 ao 20 (.mv 19),
 ag 21 20 false (.load true 4 3),
 .call (pg 22 20 false (.call 45 [21])) 45 qho,
 ag 23 20 false (.un .not 22),
 ao 24 (.pick 20 (.c (.bool true)) 23)]) (.view [.sel [0, 3, 24] [0]])
theorem qbhw : AC.ok Try.prog (TIof Try.prog) 30 0 (kret [.t 4] qjh) qpj := qm (zA (qc.ok qns) trivial)
theorem qbj5 (v0 : List AV) (v6 Ai : Bool) (Aj Ak Al : Int) (Au : Bool) (Av Aw Ax Bv : Int) (Bw Bx : List UInt8) (By : Int) (K : Ex → Env → Mem → Option (List AV)) : den 0 (kret [.t 4] qjh) qpj (qh [(0, (.sl 8 v0)), (3, (.ptr 0 0)), (5, (.ptr 1 0)), (6, (.bool v6))]) (qg [(some (.box true (qb Ai Aj Ak Al))), (some (.box true (qd Au Av Aw Ax Bv Bw Bx By)))]) K = qrx v0 v6 Ai Aj Ak Al Au Av Aw Ax Bv Bw Bx By (q2d v0 Ai Aj Ak Al K) := by
  rw [qtc]; kernel_rfl
def q4r := subE (R := (List AV)) qbe2 fun t m K => qj (bxC (m.s 1)) (qe (bxC (m.s 0)) (qrx (gL [t 0] 0) (gB [t 6] 0))) (q2d (gL [t 0] 0) (gB (bxC (m.s 0)) 0) (gI (bxC (m.s 0)) 1) (gI (bxC (m.s 0)) 2) (gI (bxC (m.s 0)) 3) K)
theorem qbj6 : qcb Try.prog (TIof Try.prog) 30 0 (kret [.t 4] qjh) (scOf qpj) (q4r) :=
  qfa tabOk follows (qbhw) (qn (by kernel_rfl)) fun t m K => qbj5 _ _ _ _ _ _ _ _ _ _ _ _ _ _ K
def qbog : Shp := ⟨[(0, .one (.l (.sl 8))), (1, .st (lk qf))], []⟩
def q01 (v0 : List AV) (Aq : Bool) (Ar As At : Int) : Option (List AV) :=
  (oB (qoo v0 Aq Ar As At) fun r1 => (qrx v0 r1.2 Aq Ar As At (gB r1.1.cells 0) (gI r1.1.cells 1) (gI r1.1.cells 2) (gI r1.1.cells 3) (gI r1.1.cells 4) (gS r1.1.cells 5) (gS r1.1.cells 6) (gI r1.1.cells 7) (fun v24q2 => (bif v24q2 then (some ([] : List AV)) else (oB (qjg v0 Aq Ar As At) fun r3 => (oB (q5k r3 Aq Ar As At) fun r4 => (some r4)))))))
def qsj := hull q01
theorem q8l : qsj = q01 := qi _
def q02 : AC (List AV) :=
  .seq (.reg [ao 3 (.box 1),
 ao 4 (.mv (.c .nils))]) (.seq (.reg [ao 8 (.mv 0),
 ao 9 (.load true 4 3),
 .call (po 10 (.call 25 [8, 9])) 25 qwg,
 ao 7 (.mv 10),
 ao 11 (.ext 7 0),
 ao 12 (.ext 7 1),
 ao 5 (.alloc [(.bool false), (.int .u64 0), (.int .u64 0), (.int .i64 0), (.int .i64 0), (.str []), (.str []), (.int .i64 0)]),
 an (.store 8 5 11),
 ao 6 (.mv 12)]) (.seq (.seq (.seq (.view [.sel [0, 3, 5, 6] [0, 1]]) (.sub (scOf qpj) q4r)) (.cond 24 (.seq (.reg [ao 4 (.mv (.c .nils))]) (.seq (.view [.eta 4 (.one (.sl 4))]) (.ret))) (.skip))) (.seq (.draw [] [ao 25 (.mv 0),
 ao 26 (.load true 4 3),
 .call (po 27 (.call 31 [25, 26])) 31 qq3,
 ao 28 (.load true 4 3)] [.callc (po 29 (.call 70 [27, 28])) 70 q6l,
 ao 4 (.mv 29)]) (.ret))))
theorem qbq1 : AC.ok Try.prog (TIof Try.prog) 30 0 (kret [.t 4] qjh) q02 := qm (zA (qc.ok q96) (zA qbj6 (zA (qc.ok q2a) (zA (qc.ok qbtf) (zA rfl trivial)))))
theorem qbtg (v0 : List AV) (Aq : Bool) (Ar As At : Int) : den 0 (kret [.t 4] qjh) q02 (qh [(0, (.sl 8 v0)), (1, .agg (qb Aq Ar As At))]) (qg []) (kend (kret [.t 4] qjh)) = qsj v0 Aq Ar As At := by
  rw [q8l]; kernel_rfl
theorem qbth : cFn (TIof Try.prog) Try.f34 = some ⟨30, [.t 4], scOf q02⟩ := by kernel_rfl
def qbti (xs : List AV) : Option (List AV) := qe ((qk xs) 1).cells (qsj (gL [(qk xs) 0] 0))
def q6m {R : Type} : List AV → (AV → Option R) → Option R := entF qbog qbti qbof
theorem qbtj {R : Type} : qc Try.prog 34 (q6m (R := R)) :=
  qba tabOk follows Try.func34 (by kernel_rfl) qbth (fun z r h => by
 obtain ⟨h1, h2⟩ := qo h
 cases h2
 exact (qyi h1).symm) qbq1 (qn (by kernel_rfl)) fun xs => qbtg _ _ _ _ _
def qh3  (K : Ex → Env → Mem → Option Bool) := (fun (_ : Unit) => K (.exit 0) (qh []) (qg []))
def q6t : Shp := ⟨[(0, .one (.l (.sl 4))), (1, .one (.l (.sl 4))), (12, .one (.l (.i .i64))), (13, .one (.l (.i .i64)))], []⟩
def qn6 (v0 v1 : List AV) (v12 v13 : Int) : Env := qh [(0, (.sl 4 v0)), (1, (.sl 4 v1)), (12, (.int .i64 v12)), (13, (.int .i64 v13))]
def qn7 (v0 v1 : List AV) (v12 v13 : Int) : Mem := qg []
def qff  (v0 v1 : List AV) (v12 v13 : Int) (next : Int → Option Bool) (kx0 : Unit → Option Bool) : Option Bool :=
  (bif (decide (v13 < v12)) then (oB (ixB v0 v13) fun y1 => (bif fitC qf y1.cells then (oB (ixB v1 v13) fun y2 => (bif fitC qf y2.cells then (bif (!(((gB y1.cells 0) == (gB y2.cells 0)) && (((gI y1.cells 1) == (gI y2.cells 1)) && (((gI y1.cells 2) == (gI y2.cells 2)) && (((gI y1.cells 3) == (gI y2.cells 3)) && true))))) then (some false) else (next (IntKind.i64.wrap (v13 + (1 : Int))))) else none)) else none)) else (kx0 ()))
def qj9  (v0 v1 : List AV) (v12 : Int) (kx0 : Unit → Option Bool) : Nat → Int → Option Bool
  | 0 => (fun _ => none)
  | n + 1 => (fun v13 => qff v0 v1 v12 v13 (qj9 v0 v1 v12 kx0 n) kx0)
def qmb := hull (qj9)
theorem quy : qmb = qj9 := qi _
def qfg : AC Bool :=
  .seq (.reg [ao 14 (.bin .lss 13 12)]) (.seq (.cond 14 (.skip) (.seq (.view [.sel [] []]) (.exit 0))) (.seq (.block 1 (.seq (.reg [ao 15 (.mv 13),
 ao 5 (.mv 15)]) (.seq (.draw [] [ao 16 (.mv 0),
 ao 17 (.mv 5),
 ao 18 (.ia 4 16 17),
 .et 18 qf,
 ao 19 (.load true 4 18),
 ao 20 (.mv 1),
 ao 21 (.mv 5),
 ao 22 (.ia 4 20 21),
 .et 22 qf,
 ao 23 (.load true 4 22)] [ao 24 (.eq true true [.b, (.i .u64), (.i .u64), (.i .i64)] 19 23)]) (.cond 24 (.seq (.reg [ao 4 (.mv (.c (.bool false)))]) (.ret)) (.skip))))) (.seq (.reg [ao 25 (.bin .add 13 (.c (.int .i64 1))),
 ao 13 (.mv 25)]) (.view [.sel [0, 1, 12, 13] []]))))
theorem q8m : AC.ok Try.prog (TIof Try.prog) 26 0 (kret [.t 4] decB) qfg := qm (zA rfl trivial)
theorem q6u (v0 v1 : List AV) (v12 v13 : Int) (K : Ex → Env → Mem → Option Bool) : den 0 (kret [.t 4] decB) qfg (qn6 v0 v1 v12 v13) (qn7 v0 v1 v12 v13) K = qff v0 v1 v12 v13 (fun z_v13 => K .norm (qn6 v0 v1 v12 z_v13) (qn7 v0 v1 v12 z_v13)) (qh3 K) := by kernel_rfl
theorem q9m (v0 v1 : List AV) (v12 : Int) (K : Ex → Env → Mem → Option Bool) : ∀ (n : Nat) (v13 : Int), qep (den 0 (kret [.t 4] decB) qfg) n (qn6 v0 v1 v12 v13) (qn7 v0 v1 v12 v13) K = qmb v0 v1 v12 (qh3 K) n v13 := by
  rw [quy]
  intro n
  induction n with
  | zero => intros; rfl
  | succ n ih =>
 intro v13
 exact (q6u v0 v1 v12 v13 (itK (den 0 (kret [.t 4] decB) qfg) n K)).trans (congrArg (fun q => qff v0 v1 v12 v13 q (qh3 K)) (funext fun v13 => ih v13))
def qvn := subE (R := Bool) q6t fun t m K => qmb (gL [t 0] 0) (gL [t 1] 0) (gI [t 12] 0) (qh3 K) FU (gI [t 13] 0)
theorem q9n : qcb Try.prog (TIof Try.prog) 26 0 (kret [.t 4] decB) (.loop (scOf qfg)) (qvn) :=
  qdt tabOk follows (q8m) (qn (by kernel_rfl)) fun t m K => q9m _ _ _ K FU _
def qbcy : Shp := ⟨[(0, .one (.l (.sl 4))), (1, .one (.l (.sl 4)))], []⟩
def qtd (v0 v1 : List AV) : Option Bool :=
  (bif ((v0.length : Int) != (v1.length : Int)) then (some false) else (qmb v0 v1 (v0.length : Int) (fun (_ : Unit) => (some true)) FU (0 : Int)))
def qji := hull qtd
theorem q03 : qji = qtd := qi _
def qte : AC Bool :=
  .seq (.reg [ao 4 (.mv (.c (.bool false)))]) (.seq (.seq (.reg [ao 6 (.mv 0),
 ao 7 (.len false 6),
 ao 8 (.mv 1),
 ao 9 (.len false 8),
 ao 10 (.bin .neq 7 9)]) (.cond 10 (.seq (.reg [ao 4 (.mv (.c (.bool false)))]) (.ret)) (.skip))) (.seq (.seq (.reg [ao 11 (.mv 0),
 ao 12 (.len false 11),
 ao 13 (.mv (.c (.int .i64 0)))]) (.block 0 (.seq (.view [.sel [0, 1, 12, 13] []]) (.sub (.loop (scOf qfg)) qvn)))) (.seq (.reg [ao 4 (.mv (.c (.bool true)))]) (.ret))))
theorem qbe3 : AC.ok Try.prog (TIof Try.prog) 26 0 (kret [.t 4] decB) qte := qm (zA q9n trivial)
theorem qbhx (v0 v1 : List AV) : den 0 (kret [.t 4] decB) qte (qh [(0, (.sl 4 v0)), (1, (.sl 4 v1))]) (qg []) (kend (kret [.t 4] decB)) = qji v0 v1 := by
  rw [q03]; kernel_rfl
theorem qbhy : cFn (TIof Try.prog) Try.f32 = some ⟨26, [.t 4], scOf qte⟩ := by kernel_rfl
def qbhz (xs : List AV) : Option Bool := qji (gL [(qk xs) 0] 0) (gL [(qk xs) 1] 0)
def qy4 {R : Type} : List AV → (AV → Option R) → Option R := entF qbcy qbhz AV.bool
theorem qbh0 {R : Type} : qc Try.prog 32 (qy4 (R := R)) :=
  qba tabOk follows Try.func32 (by kernel_rfl) qbhy hdeB qbe3 (qn (by kernel_rfl)) fun xs => qbhx _ _
def qsk  (K : Ex → Env → Mem → Option Bool) := (fun z_v6 => K .norm (qh [(6, (.bool z_v6))]) (qg []))
def q4s : Shp := ⟨[(0, .one (.l (.sl 8)))], []⟩
def qm8  (v0 : List AV) (kn : Bool → Option Bool) : Option Bool :=
  (oB (qnr v0) fun r1 => (bif (r1 != (0 : Int)) then (oB (qnm) fun r2 => (kn r2)) else (kn false)))
def qka := hull (qm8)
theorem qsl : qka = qm8 := qi _
def qh4 : AC Bool :=
  .seq (.reg [ao 24 (.mv 0),
 .call (po 25 (.call 11 [24])) 11 qxv,
 ao 26 (.bin .neq 25 (.c (.int .i64 0))),
 ao 27 (.mv 26),
 .call (pg 28 27 true (.call 13 [])) 13 qut,
 ao 29 (.pick 27 28 (.c (.bool false))),
 ao 6 (.mv 29)]) (.view [.sel [6] []])
theorem q5l : AC.ok Try.prog (TIof Try.prog) 115 0 (kret [.t 6] decB) qh4 := qm (zA (qc.ok qbbw) (zA (qc.ok q8d) trivial))
theorem q6v (v0 : List AV) (K : Ex → Env → Mem → Option Bool) : den 0 (kret [.t 6] decB) qh4 (qh [(0, (.sl 8 v0))]) (qg []) K = qka v0 (qsk K) := by
  rw [qsl]; kernel_rfl
def qtr := subE (R := Bool) q4s fun t m K => qka (gL [t 0] 0) (qsk K)
theorem q6w : qcb Try.prog (TIof Try.prog) 115 0 (kret [.t 6] decB) (scOf qh4) (qtr) :=
  qfa tabOk follows (q5l) (qn (by kernel_rfl)) fun t m K => q6v _ K
def qf3 : Shp := ⟨[(0, .one (.l (.sl 8))), (1, .st (lk qf)), (2, .st (lk qcy))], []⟩
def qpr (v0 : List AV) (Aq : Bool) (Ar As At : Int) (Br : Bool) (Bs Bt : Int) : Option Bool :=
  (oB (qt4 v0) fun r1 => (oB (qqo r1) fun r2 => (bif (r2 != (0 : Int)) then (qka r1 (fun v6q3 => (some v6q3))) else (oB (qnf r1 Aq Ar As At) fun r4 => (oB (qoo r1 Aq Ar As At) fun r5 => (oB (qmi r1 Aq Ar As At) fun r6 => (oB (qpc r1 Aq Ar As At) fun r7 => (oB (qmj r1 Br Bs Bt) fun r8 => (oB (qpe r1 Br Bs Bt) fun r9 => (bif (((gB r4.1.cells 0) == (gB r5.1.cells 0)) && (((gI r4.1.cells 1) == (gI r5.1.cells 1)) && (((gI r4.1.cells 2) == (gI r5.1.cells 2)) && (((gI r4.1.cells 3) == (gI r5.1.cells 3)) && (((gI r4.1.cells 4) == (gI r5.1.cells 4)) && (((gS r4.1.cells 5) == (gS r5.1.cells 5)) && (((gS r4.1.cells 6) == (gS r5.1.cells 6)) && (((gI r4.1.cells 7) == (gI r5.1.cells 7)) && true)))))))) then (bif ((r4.2 == r5.2) && true) then (bif (((gB r6.1.cells 0) == (gB r7.1.cells 0)) && (((gI r6.1.cells 1) == (gI r7.1.cells 1)) && (((gI r6.1.cells 2) == (gI r7.1.cells 2)) && (((gI r6.1.cells 3) == (gI r7.1.cells 3)) && (((gI r6.1.cells 4) == (gI r7.1.cells 4)) && (((gS r6.1.cells 5) == (gS r7.1.cells 5)) && (((gS r6.1.cells 6) == (gS r7.1.cells 6)) && (((gI r6.1.cells 7) == (gI r7.1.cells 7)) && true)))))))) then (bif ((r6.2 == r7.2) && true) then (bif (((gB r8.1.cells 0) == (gB r9.1.cells 0)) && (((gI r8.1.cells 1) == (gI r9.1.cells 1)) && (((gI r8.1.cells 2) == (gI r9.1.cells 2)) && (((gI r8.1.cells 3) == (gI r9.1.cells 3)) && (((gI r8.1.cells 4) == (gI r9.1.cells 4)) && (((gS r8.1.cells 5) == (gS r9.1.cells 5)) && (((gS r8.1.cells 6) == (gS r9.1.cells 6)) && (((gI r8.1.cells 7) == (gI r9.1.cells 7)) && true)))))))) then (bif ((r8.2 == r9.2) && true) then (oB (qi2 r1 Aq Ar As At) fun r10 => (oB (qjg r1 Aq Ar As At) fun r11 => (oB (qha r10 r11) fun r12 => (bif r12 then (oB (qpq r1 Aq Ar As At) fun r13 => (oB (qsj r1 Aq Ar As At) fun r14 => (oB (qji r13 r14) fun r15 => (bif r15 then (oB (qnm) fun r16 => (some r16)) else (some false))))) else (some false))))) else (some false)) else (some false)) else (some false)) else (some false)) else (some false)) else (some false)))))))))))
def qgq := hull qpr
theorem qvo : qgq = qpr := qi _
def qps : AC Bool :=
  .seq (.reg [ao 4 (.box 1),
 ao 5 (.box 2),
 ao 6 (.mv (.c (.bool false)))]) (.seq (.reg [ao 19 (.mv 0),
 .callc (po 20 (.call 10 [19])) 10 q7f,
 ao 0 (.mv 20)]) (.seq (.seq (.reg [ao 21 (.mv 0),
 .call (po 22 (.call 12 [21])) 12 q34,
 ao 23 (.bin .neq 22 (.c (.int .i64 0)))]) (.cond 23 (.seq (.seq (.view [.sel [0] []]) (.sub (scOf qh4) qtr)) (.ret)) (.skip))) (.seq (.reg [ao 31 (.mv 0),
 ao 32 (.load true 4 4),
 .call (po 33 (.call 24 [31, 32])) 24 qo2,
 ao 30 (.mv 33),
 ao 34 (.ext 30 0),
 ao 35 (.ext 30 1),
 ao 7 (.alloc [(.bool false), (.int .u64 0), (.int .u64 0), (.int .i64 0), (.int .i64 0), (.str []), (.str []), (.int .i64 0)]),
 an (.store 8 7 34),
 ao 8 (.mv 35)]) (.seq (.reg [ao 37 (.mv 0),
 ao 38 (.load true 4 4),
 .call (po 39 (.call 25 [37, 38])) 25 qwg,
 ao 36 (.mv 39),
 ao 40 (.ext 36 0),
 ao 41 (.ext 36 1),
 ao 9 (.alloc [(.bool false), (.int .u64 0), (.int .u64 0), (.int .i64 0), (.int .i64 0), (.str []), (.str []), (.int .i64 0)]),
 an (.store 8 9 40),
 ao 10 (.mv 41)]) (.seq (.reg [ao 43 (.mv 0),
 ao 44 (.load true 4 4),
 .call (po 45 (.call 26 [43, 44])) 26 qv6,
 ao 42 (.mv 45),
 ao 46 (.ext 42 0),
 ao 47 (.ext 42 1),
 ao 11 (.alloc [(.bool false), (.int .u64 0), (.int .u64 0), (.int .i64 0), (.int .i64 0), (.str []), (.str []), (.int .i64 0)]),
 an (.store 8 11 46),
 ao 12 (.mv 47)]) (.seq (.reg [ao 49 (.mv 0),
 ao 50 (.load true 4 4),
 .call (po 51 (.call 27 [49, 50])) 27 q18,
 ao 48 (.mv 51),
 ao 52 (.ext 48 0),
 ao 53 (.ext 48 1),
 ao 13 (.alloc [(.bool false), (.int .u64 0), (.int .u64 0), (.int .i64 0), (.int .i64 0), (.str []), (.str []), (.int .i64 0)]),
 an (.store 8 13 52),
 ao 14 (.mv 53)]) (.seq (.reg [ao 55 (.mv 0),
 ao 56 (.load true 3 5),
 .call (po 57 (.call 28 [55, 56])) 28 qwa,
 ao 54 (.mv 57),
 ao 58 (.ext 54 0),
 ao 59 (.ext 54 1),
 ao 15 (.alloc [(.bool false), (.int .u64 0), (.int .u64 0), (.int .i64 0), (.int .i64 0), (.str []), (.str []), (.int .i64 0)]),
 an (.store 8 15 58),
 ao 16 (.mv 59)]) (.seq (.reg [ao 61 (.mv 0),
 ao 62 (.load true 3 5),
 .call (po 63 (.call 29 [61, 62])) 29 q19,
 ao 60 (.mv 63),
 ao 64 (.ext 60 0),
 ao 65 (.ext 60 1),
 ao 17 (.alloc [(.bool false), (.int .u64 0), (.int .u64 0), (.int .i64 0), (.int .i64 0), (.str []), (.str []), (.int .i64 0)]),
 an (.store 8 17 64),
 ao 18 (.mv 65)]) (.seq (.draw [] [ao 66 (.load true 8 7),
 ao 67 (.load true 8 9),
 ao 68 (.eq false true [.b, (.i .u64), (.i .u64), (.i .i64), (.i .i64), .s, .s, (.i .i64)] 66 67),
 ao 69 (.mv 68),
 ag 70 69 true (.mv 8),
 ag 71 69 true (.mv 10),
 ag 72 69 true (.eq false false [.b] 70 71),
 ao 73 (.pick 69 72 (.c (.bool false))),
 ao 74 (.mv 73),
 ag 75 74 true (.load true 8 11),
 ag 76 74 true (.load true 8 13),
 ag 77 74 true (.eq false true [.b, (.i .u64), (.i .u64), (.i .i64), (.i .i64), .s, .s, (.i .i64)] 75 76),
 ao 78 (.pick 74 77 (.c (.bool false))),
 ao 79 (.mv 78),
 ag 80 79 true (.mv 12),
 ag 81 79 true (.mv 14),
 ag 82 79 true (.eq false false [.b] 80 81),
 ao 83 (.pick 79 82 (.c (.bool false))),
 ao 84 (.mv 83),
 ag 85 84 true (.load true 8 15),
 ag 86 84 true (.load true 8 17),
 ag 87 84 true (.eq false true [.b, (.i .u64), (.i .u64), (.i .i64), (.i .i64), .s, .s, (.i .i64)] 85 86),
 ao 88 (.pick 84 87 (.c (.bool false))),
 ao 89 (.mv 88),
 ag 90 89 true (.mv 16),
 ag 91 89 true (.mv 18),
 ag 92 89 true (.eq false false [.b] 90 91),
 ao 93 (.pick 89 92 (.c (.bool false))),
 ao 94 (.mv 93),
 ag 95 94 true (.mv 0),
 ag 96 94 true (.load true 4 4),
 .call (pg 97 94 true (.call 30 [95, 96])) 30 qs4,
 ag 98 94 true (.mv 0),
 ag 99 94 true (.load true 4 4),
 .call (pg 100 94 true (.call 31 [98, 99])) 31 qq3,
 .call (pg 101 94 true (.call 19 [97, 100])) 19 qwf,
 ao 102 (.pick 94 101 (.c (.bool false))),
 ao 103 (.mv 102),
 ag 104 103 true (.mv 0),
 ag 105 103 true (.load true 4 4),
 .call (pg 106 103 true (.call 33 [104, 105])) 33 q0n,
 ag 107 103 true (.mv 0),
 ag 108 103 true (.load true 4 4)] [.callc (pg 109 103 true (.call 34 [107, 108])) 34 q6m,
 .call (pg 110 103 true (.call 32 [106, 109])) 32 qy4,
 ao 111 (.pick 103 110 (.c (.bool false))),
 ao 112 (.mv 111),
 .call (pg 113 112 true (.call 13 [])) 13 qut,
 ao 114 (.pick 112 113 (.c (.bool false))),
 ao 6 (.mv 114)]) (.ret))))))))))
theorem q9o : AC.ok Try.prog (TIof Try.prog) 115 0 (kret [.t 6] decB) qps := qm (zA (qc.ok qbuq) (zA (qc.ok qbp4) (zA q6w (zA (qc.ok qxe) (zA (qc.ok q96) (zA (qc.ok q93) (zA (qc.ok qboa) (zA (qc.ok q94) (zA (qc.ok qboe) (zA (qc.ok q6f) (zA (qc.ok q2a) (zA (qc.ok q95) (zA (qc.ok qbf8) (zA (qc.ok qbtj) (zA (qc.ok qbh0) (zA (qc.ok q8d) (zA rfl trivial)))))))))))))))))
theorem qbbg (v0 : List AV) (Aq : Bool) (Ar As At : Int) (Br : Bool) (Bs Bt : Int) : den 0 (kret [.t 6] decB) qps (qh [(0, (.sl 8 v0)), (1, .agg (qb Aq Ar As At)), (2, .agg (qbj Br Bs Bt))]) (qg []) (kend (kret [.t 6] decB)) = qgq v0 Aq Ar As At Br Bs Bt := by
  rw [qvo]; kernel_rfl
theorem qbbh : cFn (TIof Try.prog) Try.f5 = some ⟨115, [.t 6], scOf qps⟩ := by kernel_rfl
def qbbi (xs : List AV) : Option Bool := qbu ((qk xs) 2).cells (qe ((qk xs) 1).cells (qgq (gL [(qk xs) 0] 0)))
def q8n {R : Type} : List AV → (AV → Option R) → Option R := entF qf3 qbbi AV.bool
theorem qbbj {R : Type} : qc Try.prog 5 (q8n (R := R)) :=
  qba tabOk follows Try.func5 (by kernel_rfl) qbbh hdeB q9o (qn (by kernel_rfl)) fun xs => qbbg _ _ _ _ _ _ _ _
end
end Go.Proofs.Ytmjdngnagiloeaa.Dn
