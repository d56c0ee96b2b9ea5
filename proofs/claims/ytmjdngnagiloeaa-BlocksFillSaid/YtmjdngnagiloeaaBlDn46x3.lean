import Derived.Test.YtmjdngnagiloeaaProg
import Derived.Test.YtmjdngnagiloeaaBlLibD
import Derived.Test.YtmjdngnagiloeaaBlDn46x2
set_option linter.all false
namespace Go.Proofs.Ytmjdngnagiloeaa.Dn
open Go Go.Pev
set_option linter.unusedVariables false
set_option linter.unusedSimpArgs false
set_option maxRecDepth 100000
set_option maxHeartbeats 4000000
def qsw (z : AV) : Option (AV × Bool) := cond (qmv [(.st [.b, (.i .u64), (.i .u64), .b, (.i .u64), (.i .u64)]), (.one .b)] z) (some ((gC (tpL z) 0), aB (gC (tpL z) 1))) none
def qbdj (r : AV × Bool) : AV := .tup [qoa (.st [.b, (.i .u64), (.i .u64), .b, (.i .u64), (.i .u64)]) r.1, .bool r.2]
def qbdk : Shp := ⟨[(0, .st (lk qe))], []⟩
noncomputable section
def qvw (Aa : Bool) (Ab Ac Ad : Int) : Option (AV × Bool) :=
  (oB (qfu Aa Ab Ac Ad) fun r1 => (bif (!r1) then (some ((.agg [(.bool false), (.int .u64 (0 : Int)), (.int .u64 (0 : Int)), (.bool false), (.int .u64 (0 : Int)), (.int .u64 (0 : Int))]), false)) else (oB (qmo Aa Ad) fun r2 => (some ((.agg [(.bool Aa), (.int .u64 Ab), (.int .u64 Ac), (.bool Aa), (.int .u64 (qcg .or .u64 Ab r2.1)), (.int .u64 (qcg .or .u64 Ac r2.2))]), true)))))
def qlp := hull qvw
theorem q2r : qlp = qvw := ql _
def qvx : AC (AV × Bool) :=
  .seq (.reg [ao 1 (.box 0),
 ao 2 (.alloc [(.bool false), (.int .u64 0), (.int .u64 0), (.bool false), (.int .u64 0), (.int .u64 0)]),
 ao 3 (.mv (.c (.bool false)))]) (.seq (.seq (.reg [ao 7 (.load true 4 1),
 .call (po 8 (.call 71 [7])) 71 qfv,
 ao 9 (.un .not 8)]) (.cond 9 (.seq (.reg [ao 10 (.build [(.bool false), (.int .u64 0), (.int .u64 0), (.bool false), (.int .u64 0), (.int .u64 0)] []),
 an (.store 6 2 10),
 ao 3 (.mv (.c (.bool false)))]) (.ret)) (.skip))) (.seq (.reg [ao 12 (.fa 0 1),
 ao 13 (.fa 0 12),
 ao 14 (.load false 1 13),
 ao 15 (.fa 3 1),
 ao 16 (.load false 1 15),
 .call (po 17 (.call 72 [14, 16])) 72 qou,
 ao 11 (.mv 17),
 ao 18 (.ext 11 0),
 ao 19 (.ext 11 1),
 ao 4 (.mv 18),
 ao 5 (.mv 19)]) (.seq (.reg [ao 20 (.fa 0 1),
 ao 21 (.load true 3 20),
 ao 6 (.alloc [(.bool false), (.int .u64 0), (.int .u64 0)]),
 an (.store 3 6 21)]) (.seq (.reg [ao 22 (.fa 1 6),
 ao 23 (.load false 1 22),
 ao 24 (.mv 4),
 ao 25 (.bin .or 23 24),
 ao 26 (.fa 1 6),
 an (.store 1 26 25)]) (.seq (.reg [ao 27 (.fa 2 6),
 ao 28 (.load false 1 27),
 ao 29 (.mv 5),
 ao 30 (.bin .or 28 29),
 ao 31 (.fa 2 6),
 an (.store 1 31 30)]) (.seq (.reg [ao 32 (.fa 0 1),
 ao 33 (.load true 3 32),
 ao 34 (.load true 3 6),
 ao 35 (.build [(.bool false), (.int .u64 0), (.int .u64 0), (.bool false), (.int .u64 0), (.int .u64 0)] [(0, (3, 33)), (3, (3, 34))]),
 an (.store 6 2 35),
 ao 3 (.mv (.c (.bool true)))]) (.ret)))))))
theorem qbfg : AC.ok Try.prog (TIof Try.prog) 36 0 (kret [(.cell 2 true 6), .t 3] qsw) qvx := qp (zA (qd.ok qj9) (zA (qd.ok qwx) trivial))
theorem qbhh (Aa : Bool) (Ab Ac Ad : Int) : den 0 (kret [(.cell 2 true 6), .t 3] qsw) qvx (qk [(0, .agg (qc Aa Ab Ac Ad))]) (qi []) (kend (kret [(.cell 2 true 6), .t 3] qsw)) = qlp Aa Ab Ac Ad := by
  rw [q2r]; kernel_rfl
theorem qbhi : cFn (TIof Try.prog) Try.f38 = some ⟨36, [(.cell 2 true 6), .t 3], scOf qvx⟩ := by kernel_rfl
def qbhj (xs : List AV) : Option (AV × Bool) := qh ((qm xs) 0).cells (qlp)
def q02 {R : Type} : List AV → (AV → Option R) → Option R := entF qbdk qbhj qbdj
theorem qbhk {R : Type} : qd Try.prog 38 (q02 (R := R)) :=
  qce tabOk follows Try.func38 (by kernel_rfl) qbhi (fun z r h => by
 obtain ⟨h1, h2⟩ := qo h
 cases h2
 exact (qhm h1).symm) qbfg (qy (by kernel_rfl)) fun xs => qbhh _ _ _ _
theorem qbng {R : Type} : qtj Try.prog 74 (qwb (R := R)) := qbu2 Try.func74 (by kernel_rfl) (by kernel_rfl) (by kernel_rfl) (by kernel_rfl)
def q2s (z : AV) : Option (AV × Bool) := cond (qmv [(.st [.b, (.i .u64), (.i .u64)]), (.one .b)] z) (some ((gC (tpL z) 0), aB (gC (tpL z) 1))) none
def qbnh (r : AV × Bool) : AV := .tup [qoa (.st [.b, (.i .u64), (.i .u64)]) r.1, .bool r.2]
def qbni : Shp := ⟨[(0, .st (lk qdj)), (1, .one (.l (.i .u64)))], []⟩
def q60 (Aa : Bool) (Ab Ac v1 : Int) : Option (AV × Bool) :=
  (oB (qm9 Aa Ab Ac) fun r1 => (bif (!r1) then (some ((.agg [(.bool false), (.int .u64 (0 : Int)), (.int .u64 (0 : Int))]), false)) else (oB (qzd Ac v1 (0 : Int)) fun r2 => (oB (qzd Ab (0 : Int) r2.2) fun r3 => (bif (r3.2 != (0 : Int)) then (some ((.agg [(.bool false), (.int .u64 (0 : Int)), (.int .u64 (0 : Int))]), false)) else (oB (qm9 Aa r3.1 r2.1) fun r4 => (bif (!r4) then (some ((.agg [(.bool false), (.int .u64 (0 : Int)), (.int .u64 (0 : Int))]), false)) else (some ((.agg [(.bool Aa), (.int .u64 r3.1), (.int .u64 r2.1)]), true)))))))))
def q2t := hull q60
theorem qbdn : q2t = q60 := ql _
def q61 : AC (AV × Bool) :=
  .seq (.reg [ao 2 (.box 0),
 ao 4 (.alloc [(.bool false), (.int .u64 0), (.int .u64 0)]),
 ao 5 (.mv (.c (.bool false)))]) (.seq (.seq (.reg [ao 11 (.load true 3 2),
 .call (po 12 (.call 73 [11])) 73 qoc,
 ao 13 (.un .not 12)]) (.cond 13 (.seq (.reg [ao 14 (.build [(.bool false), (.int .u64 0), (.int .u64 0)] []),
 an (.store 3 4 14),
 ao 5 (.mv (.c (.bool false)))]) (.ret)) (.skip))) (.seq (.reg [ao 16 (.fa 2 2),
 ao 17 (.load false 1 16),
 ao 18 (.mv 1),
 .call (po 19 (.call 74 [17, 18, (.c (.int .u64 0))])) 74 qwb,
 ao 15 (.mv 19),
 ao 20 (.ext 15 0),
 ao 21 (.ext 15 1),
 ao 6 (.mv 20),
 ao 7 (.mv 21)]) (.seq (.reg [ao 23 (.fa 1 2),
 ao 24 (.load false 1 23),
 ao 25 (.mv 7),
 .call (po 26 (.call 74 [24, (.c (.int .u64 0)), 25])) 74 qwb,
 ao 22 (.mv 26),
 ao 27 (.ext 22 0),
 ao 28 (.ext 22 1),
 ao 8 (.mv 27),
 ao 9 (.mv 28)]) (.seq (.reg [ao 29 (.fa 0 2),
 ao 30 (.load false 1 29),
 ao 31 (.mv 8),
 ao 32 (.mv 6),
 ao 33 (.build [(.bool false), (.int .u64 0), (.int .u64 0)] [(0, (1, 30)), (1, (1, 31)), (2, (1, 32))]),
 ao 10 (.alloc [(.bool false), (.int .u64 0), (.int .u64 0)]),
 an (.store 3 10 33)]) (.seq (.seq (.reg [ao 34 (.mv 9),
 ao 35 (.bin .neq 34 (.c (.int .u64 0))),
 ao 36 (.mv 35),
 ag 37 36 false (.load true 3 10),
 .call (pg 38 36 false (.call 73 [37])) 73 qoc,
 ag 39 36 false (.un .not 38),
 ao 40 (.pick 36 (.c (.bool true)) 39)]) (.cond 40 (.seq (.reg [ao 41 (.build [(.bool false), (.int .u64 0), (.int .u64 0)] []),
 an (.store 3 4 41),
 ao 5 (.mv (.c (.bool false)))]) (.ret)) (.skip))) (.seq (.reg [ao 42 (.load true 3 10),
 an (.store 3 4 42),
 ao 5 (.mv (.c (.bool true)))]) (.ret)))))))
theorem qbo9 : AC.ok Try.prog (TIof Try.prog) 43 0 (kret [(.cell 4 true 3), .t 5] q2s) q61 := qp (zA (qd.ok quy) (zA qbng (zA qbng (zA (qd.ok quy) trivial))))
theorem qbqd (Aa : Bool) (Ab Ac v1 : Int) : den 0 (kret [(.cell 4 true 3), .t 5] q2s) q61 (qk [(0, .agg (qbl Aa Ab Ac)), (1, (.int .u64 v1))]) (qi []) (kend (kret [(.cell 4 true 3), .t 5] q2s)) = q2t Aa Ab Ac v1 := by
  rw [qbdn]; kernel_rfl
theorem qbqe : cFn (TIof Try.prog) Try.f39 = some ⟨43, [(.cell 4 true 3), .t 5], scOf q61⟩ := by kernel_rfl
def qbqf (xs : List AV) : Option (AV × Bool) := qcj ((qm xs) 0).cells (q2t) (gI [(qm xs) 1] 0)
def qbae {R : Type} : List AV → (AV → Option R) → Option R := entF qbni qbqf qbnh
theorem qbqg {R : Type} : qd Try.prog 39 (qbae (R := R)) :=
  qce tabOk follows Try.func39 (by kernel_rfl) qbqe (fun z r h => by
 obtain ⟨h1, h2⟩ := qo h
 cases h2
 exact (qhm h1).symm) qbo9 (qy (by kernel_rfl)) fun xs => qbqd _ _ _ _
end
end Go.Proofs.Ytmjdngnagiloeaa.Dn
