import Derived.Test.YtmjdngnagiloeaaProg
import Derived.Test.YtmjdngnagiloeaaBnLibD
import Derived.Test.YtmjdngnagiloeaaBnDn46x2
set_option linter.all false
namespace Go.Proofs.Ytmjdngnagiloeaa.Dn
open Go Go.Pev
set_option linter.unusedVariables false
set_option linter.unusedSimpArgs false
set_option maxRecDepth 100000
set_option maxHeartbeats 4000000
def qfz  (v0 : List AV) (v1 : Int) (v26 : List AV) (v27 v28 : Int) (K : Ex → Env → Mem → Option Bool) := (fun (_ : Unit) => K (.exit 2) (qj [(0, (.sl 8 v0)), (1, (.int .u8 v1)), (26, (.sl 8 v26)), (27, (.int .i64 v27)), (28, (.int .i64 v28))]) (qg []))
def qwy : Shp := ⟨[(0, .one (.l (.sl 8))), (1, .one (.l (.i .u8))), (6, .one (.ptr 0 0)), (26, .one (.l (.sl 8))), (27, .one (.l (.i .i64))), (28, .one (.l (.i .i64))), (35, .one (.l (.sl 8))), (36, .one (.l (.i .i64))), (37, .one (.l (.i .i64)))], [.box true (lk qa)]⟩
def qkq (v0 : List AV) (v1 : Int) (v26 : List AV) (v27 v28 : Int) (v35 : List AV) (v36 v37 : Int) (Ai : Bool) (Aj Ak Al Am : Int) (An Ao : List UInt8) (Ap : Int) : Env := qj [(0, (.sl 8 v0)), (1, (.int .u8 v1)), (6, (.ptr 0 0)), (26, (.sl 8 v26)), (27, (.int .i64 v27)), (28, (.int .i64 v28)), (35, (.sl 8 v35)), (36, (.int .i64 v36)), (37, (.int .i64 v37))]
def qkr (v0 : List AV) (v1 : Int) (v26 : List AV) (v27 v28 : Int) (v35 : List AV) (v36 v37 : Int) (Ai : Bool) (Aj Ak Al Am : Int) (An Ao : List UInt8) (Ap : Int) : Mem := qg [(some (.box true (qc Ai Aj Ak Al Am An Ao Ap)))]
noncomputable section
def qef  (v0 : List AV) (v1 : Int) (v26 : List AV) (v27 v28 : Int) (v35 : List AV) (v36 v37 : Int) (Ai : Bool) (Aj Ak Al Am : Int) (An Ao : List UInt8) (Ap : Int) (next : Int → Option Bool) (kx2 : Unit → Option Bool) : Option Bool :=
  (bif (decide (v37 < v36)) then (oB (ixB v35 v37) fun y1 => (bif fitC qa y1.cells then (bif ((Ai == (gB y1.cells 0)) && ((Aj == (gI y1.cells 1)) && ((Ak == (gI y1.cells 2)) && ((Al == (gI y1.cells 3)) && true)))) then (some false) else (oB (qli Ai Aj Ak Al (gB y1.cells 0) (gI y1.cells 1) (gI y1.cells 2) (gI y1.cells 3)) fun r2 => (oB (qgf Ai Aj Ak Al (gB y1.cells 0) (gI y1.cells 1) (gI y1.cells 2) (gI y1.cells 3)) fun r3 => (bif (!((r2 == r3) && true)) then (some false) else (next (IntKind.i64.wrap (v37 + (1 : Int)))))))) else none)) else (kx2 ()))
def qgw  (v0 : List AV) (v1 : Int) (v26 : List AV) (v27 v28 : Int) (v35 : List AV) (v36 : Int) (Ai : Bool) (Aj Ak Al Am : Int) (An Ao : List UInt8) (Ap : Int) (kx2 : Unit → Option Bool) : Nat → Int → Option Bool
  | 0 => (fun _ => none)
  | n + 1 => (fun v37 => qef v0 v1 v26 v27 v28 v35 v36 v37 Ai Aj Ak Al Am An Ao Ap (qgw v0 v1 v26 v27 v28 v35 v36 Ai Aj Ak Al Am An Ao Ap kx2 n) kx2)
def qft := hull (qgw)
theorem qog : qft = qgw := qk _
def qeg : AC Bool :=
  .seq (.reg [ao 38 (.bin .lss 37 36)]) (.seq (.cond 38 (.skip) (.seq (.view [.sel [0, 1, 26, 27, 28] []]) (.exit 2))) (.seq (.block 3 (.seq (.reg [ao 39 (.ia 8 35 37),
 .st (.etac 39 qa),
 ao 40 (.load true 8 39),
 ao 8 (.alloc [(.bool false), (.int .u64 0), (.int .u64 0), (.int .i64 0), (.int .i64 0), (.str []), (.str []), (.int .i64 0)]),
 an (.store 8 8 40)]) (.seq (.draw [] [ao 41 (.fa 0 6),
 ao 42 (.load true 4 41),
 ao 43 (.fa 0 8),
 ao 44 (.load true 4 43),
 ao 45 (.eq false true [.b, (.i .u64), (.i .u64), (.i .i64)] 42 44),
 ao 46 (.mv 45),
 ag 47 46 false (.fa 0 6),
 ag 48 46 false (.load true 4 47),
 ag 49 46 false (.fa 0 8),
 ag 50 46 false (.load true 4 49),
 .call (pg 51 46 false (.call 36 [48, 50])) 36 qp6,
 ag 52 46 false (.fa 0 6),
 ag 53 46 false (.load true 4 52),
 ag 54 46 false (.fa 0 8),
 ag 55 46 false (.load true 4 54)] [.call (pg 56 46 false (.call 37 [53, 55])) 37 qh3,
 ag 57 46 false (.eq true false [.b] 51 56),
 ao 58 (.pick 46 (.c (.bool true)) 57)]) (.cond 58 (.seq (.reg [ao 4 (.mv (.c (.bool false)))]) (.ret)) (.skip))))) (.seq (.reg [ao 59 (.bin .add 37 (.c (.int .i64 1))),
 ao 37 (.mv 59)]) (.view [.sel [0, 1, 6, 26, 27, 28, 35, 36, 37] [0]]))))
theorem qxs : AC.ok Try.prog (TIof Try.prog) 112 0 (kret [.t 4] decB) qeg := qo (zA (qd.ok qz1) (zA (qd.ok ql4) (zA rfl trivial)))
theorem qwz (v0 : List AV) (v1 : Int) (v26 : List AV) (v27 v28 : Int) (v35 : List AV) (v36 v37 : Int) (Ai : Bool) (Aj Ak Al Am : Int) (An Ao : List UInt8) (Ap : Int) (K : Ex → Env → Mem → Option Bool) : den 0 (kret [.t 4] decB) qeg (qkq v0 v1 v26 v27 v28 v35 v36 v37 Ai Aj Ak Al Am An Ao Ap) (qkr v0 v1 v26 v27 v28 v35 v36 v37 Ai Aj Ak Al Am An Ao Ap) K = qef v0 v1 v26 v27 v28 v35 v36 v37 Ai Aj Ak Al Am An Ao Ap (fun z_v37 => K .norm (qkq v0 v1 v26 v27 v28 v35 v36 z_v37 Ai Aj Ak Al Am An Ao Ap) (qkr v0 v1 v26 v27 v28 v35 v36 z_v37 Ai Aj Ak Al Am An Ao Ap)) (qfz v0 v1 v26 v27 v28 K) := by kernel_rfl
theorem qyq (v0 : List AV) (v1 : Int) (v26 : List AV) (v27 v28 : Int) (v35 : List AV) (v36 : Int) (Ai : Bool) (Aj Ak Al Am : Int) (An Ao : List UInt8) (Ap : Int) (K : Ex → Env → Mem → Option Bool) : ∀ (n : Nat) (v37 : Int), qg0 (den 0 (kret [.t 4] decB) qeg) n (qkq v0 v1 v26 v27 v28 v35 v36 v37 Ai Aj Ak Al Am An Ao Ap) (qkr v0 v1 v26 v27 v28 v35 v36 v37 Ai Aj Ak Al Am An Ao Ap) K = qft v0 v1 v26 v27 v28 v35 v36 Ai Aj Ak Al Am An Ao Ap (qfz v0 v1 v26 v27 v28 K) n v37 := by
  rw [qog]
  intro n
  induction n with
  | zero => intros; rfl
  | succ n ih =>
 intro v37
 exact (qwz v0 v1 v26 v27 v28 v35 v36 v37 Ai Aj Ak Al Am An Ao Ap (itK (den 0 (kret [.t 4] decB) qeg) n K)).trans (congrArg (fun q => qef v0 v1 v26 v27 v28 v35 v36 v37 Ai Aj Ak Al Am An Ao Ap q (qfz v0 v1 v26 v27 v28 K)) (funext fun v37 => ih v37))
def qpb := subE (R := Bool) qwy fun t m K => qh (bxC (m.s 0)) (qft (gL [t 0] 0) (gI [t 1] 0) (gL [t 26] 0) (gI [t 27] 0) (gI [t 28] 0) (gL [t 35] 0) (gI [t 36] 0)) (qfz (gL [t 0] 0) (gI [t 1] 0) (gL [t 26] 0) (gI [t 27] 0) (gI [t 28] 0) K) FU (gI [t 37] 0)
theorem qyr : qdj Try.prog (TIof Try.prog) 112 0 (kret [.t 4] decB) (.loop (scOf qeg)) (qpb) :=
  qic tabOk follows (qxs) (qbi (by kernel_rfl)) fun t m K => qyq _ _ _ _ _ _ _ _ _ _ _ _ _ _ _ K FU _
def qf0  (v0 : List AV) (v1 : Int) (K : Ex → Env → Mem → Option Bool) := (fun (_ : Unit) => K (.exit 0) (qj [(0, (.sl 8 v0)), (1, (.int .u8 v1))]) (qg []))
def qw0 : Shp := ⟨[(0, .one (.l (.sl 8))), (1, .one (.l (.i .u8))), (26, .one (.l (.sl 8))), (27, .one (.l (.i .i64))), (28, .one (.l (.i .i64)))], []⟩
def qks (v0 : List AV) (v1 : Int) (v26 : List AV) (v27 v28 : Int) : Env := qj [(0, (.sl 8 v0)), (1, (.int .u8 v1)), (26, (.sl 8 v26)), (27, (.int .i64 v27)), (28, (.int .i64 v28))]
def qkt (v0 : List AV) (v1 : Int) (v26 : List AV) (v27 v28 : Int) : Mem := qg []
def qeh  (v0 : List AV) (v1 : Int) (v26 : List AV) (v27 v28 : Int) (next : Int → Option Bool) (kx0 : Unit → Option Bool) : Option Bool :=
  (bif (decide (v28 < v27)) then (oB (ixB v26 v28) fun y1 => (bif fitC qa y1.cells then (oB (cutI v0 none (some v28)) fun s2 => (qft v0 v1 v26 v27 v28 s2 (s2.length : Int) (gB y1.cells 0) (gI y1.cells 1) (gI y1.cells 2) (gI y1.cells 3) (gI y1.cells 4) (gS y1.cells 5) (gS y1.cells 6) (gI y1.cells 7) (fun (_ : Unit) => (next (IntKind.i64.wrap (v28 + (1 : Int))))) FU (0 : Int))) else none)) else (kx0 ()))
def qgx  (v0 : List AV) (v1 : Int) (v26 : List AV) (v27 : Int) (kx0 : Unit → Option Bool) : Nat → Int → Option Bool
  | 0 => (fun _ => none)
  | n + 1 => (fun v28 => qeh v0 v1 v26 v27 v28 (qgx v0 v1 v26 v27 kx0 n) kx0)
def qfu := hull (qgx)
theorem qoh : qfu = qgx := qk _
def qei : AC Bool :=
  .seq (.reg [ao 29 (.bin .lss 28 27)]) (.seq (.cond 29 (.skip) (.seq (.view [.sel [0, 1] []]) (.exit 0))) (.seq (.block 1 (.seq (.reg [ao 30 (.mv 28),
 ao 31 (.ia 8 26 28),
 .st (.etac 31 qa),
 ao 32 (.load true 8 31),
 ao 6 (.alloc [(.bool false), (.int .u64 0), (.int .u64 0), (.int .i64 0), (.int .i64 0), (.str []), (.str []), (.int .i64 0)]),
 ao 5 (.mv 30),
 an (.store 8 6 32)]) (.seq (.reg [ao 33 (.mv 0),
 ao 34 (.mv 5),
 ao 35 (.slc 8 33 none (some 34)),
 ao 36 (.len false 35),
 ao 37 (.mv (.c (.int .i64 0)))]) (.block 2 (.seq (.view [.sel [0, 1, 6, 26, 27, 28, 35, 36, 37] [0]]) (.sub (.loop (scOf qeg)) qpb)))))) (.seq (.reg [ao 60 (.bin .add 28 (.c (.int .i64 1))),
 ao 28 (.mv 60)]) (.view [.sel [0, 1, 26, 27, 28] []]))))
theorem qxt : AC.ok Try.prog (TIof Try.prog) 112 0 (kret [.t 4] decB) qei := qo (zA qyr trivial)
theorem qw1 (v0 : List AV) (v1 : Int) (v26 : List AV) (v27 v28 : Int) (K : Ex → Env → Mem → Option Bool) : den 0 (kret [.t 4] decB) qei (qks v0 v1 v26 v27 v28) (qkt v0 v1 v26 v27 v28) K = qeh v0 v1 v26 v27 v28 (fun z_v28 => K .norm (qks v0 v1 v26 v27 z_v28) (qkt v0 v1 v26 v27 z_v28)) (qf0 v0 v1 K) := by kernel_rfl
theorem qys (v0 : List AV) (v1 : Int) (v26 : List AV) (v27 : Int) (K : Ex → Env → Mem → Option Bool) : ∀ (n : Nat) (v28 : Int), qg0 (den 0 (kret [.t 4] decB) qei) n (qks v0 v1 v26 v27 v28) (qkt v0 v1 v26 v27 v28) K = qfu v0 v1 v26 v27 (qf0 v0 v1 K) n v28 := by
  rw [qoh]
  intro n
  induction n with
  | zero => intros; rfl
  | succ n ih =>
 intro v28
 exact (qw1 v0 v1 v26 v27 v28 (itK (den 0 (kret [.t 4] decB) qei) n K)).trans (congrArg (fun q => qeh v0 v1 v26 v27 v28 q (qf0 v0 v1 K)) (funext fun v28 => ih v28))
def qpc := subE (R := Bool) qw0 fun t m K => qfu (gL [t 0] 0) (gI [t 1] 0) (gL [t 26] 0) (gI [t 27] 0) (qf0 (gL [t 0] 0) (gI [t 1] 0) K) FU (gI [t 28] 0)
theorem qyt : qdj Try.prog (TIof Try.prog) 112 0 (kret [.t 4] decB) (.loop (scOf qei)) (qpc) :=
  qic tabOk follows (qxt) (qbi (by kernel_rfl)) fun t m K => qys _ _ _ _ K FU _
def qoi  (K : Ex → Env → Mem → Option Bool) := (fun z_v4 => K .norm (qj [(4, (.bool z_v4))]) (qg []))
def qw2 : Shp := ⟨[(12, .one (.l (.i .i64))), (14, .one (.l (.i .i64)))], []⟩
def qk8  (v12 v14 : Int) (kn : Bool → Option Bool) : Option Bool :=
  (bif ((v12 == (25 : Int)) && (v14 == (25 : Int))) then (oB (qjj) fun r1 => (kn r1)) else (kn false))
def qix := hull (qk8)
theorem qoj : qix = qk8 := qk _
def qgy : AC Bool :=
  .seq (.reg [ao 90 (.mv 12),
 ao 91 (.bin .eql 90 (.c (.int .i64 25))),
 ao 92 (.mv 91),
 .grp 92 true [(pg 93 92 true (.mv 14)), (pg 94 92 true (.bin .eql 93 (.c (.int .i64 25))))] 95 94,
 ao 96 (.mv 95),
 .call (pg 97 96 true (.call 13 [])) 13 qmf,
 ao 98 (.pick 96 97 (.c (.bool false))),
 ao 4 (.mv 98)]) (.view [.sel [4] []])
theorem qxu : AC.ok Try.prog (TIof Try.prog) 112 0 (kret [.t 4] decB) qgy := qo (zA (qd.ok qsl) trivial)
theorem qyu (v12 v14 : Int) (K : Ex → Env → Mem → Option Bool) : den 0 (kret [.t 4] decB) qgy (qj [(12, (.int .i64 v12)), (14, (.int .i64 v14))]) (qg []) K = qix v12 v14 (qoi K) := by
  rw [qoj]; kernel_rfl
def qpd := subE (R := Bool) qw2 fun t m K => qix (gI [t 12] 0) (gI [t 14] 0) (qoi K)
theorem qyv : qdj Try.prog (TIof Try.prog) 112 0 (kret [.t 4] decB) (scOf qgy) (qpd) :=
  qk2 tabOk follows (qxu) (qbi (by kernel_rfl)) fun t m K => qyu _ _ K
def qfv : Shp := ⟨[(0, .one (.l (.sl 8))), (1, .one (.l (.i .u8)))], []⟩
def qm9 (v0 : List AV) (v1 : Int) : Option Bool :=
  (oB (qpq v0) fun r1 => (oB (qlm r1) fun r2 => (bif ((r2 != (0 : Int)) || ((r1.length : Int) == (0 : Int))) then (oB (qjj) fun r3 => (some r3)) else (qfu r1 v1 r1 (r1.length : Int) (fun (_ : Unit) => (bif decide ((r1.length : Int) ≠ 0) then (oB (ixB r1 ((IntKind.i64.wrap v1).tmod (r1.length : Int))) fun y4 => (bif fitC qa y4.cells then (oB (qhy r1 (gB y4.cells 0) (gI y4.cells 1) (gI y4.cells 2) (gI y4.cells 3)) fun r5 => (oB (qkm r1 (gB y4.cells 0) (gI y4.cells 1) (gI y4.cells 2) (gI y4.cells 3)) fun r6 => (oB (qlo r1 (gB y4.cells 0) (gI y4.cells 1) (gI y4.cells 2) (gI y4.cells 3)) fun r7 => (bif (decide ((r5.length : Int) > (0 : Int))) then (qix r6.2 r7.2 (fun v4q8 => (some v4q8))) else (bif (((r6.2 == (0 : Int)) && (r7.2 != (25 : Int))) && (r7.2 != (11 : Int))) then (oB (qjj) fun r9 => (some r9)) else (some false)))))) else none)) else none)) FU (0 : Int)))))
def qf6 := hull qm9
theorem qrp : qf6 = qm9 := qk _
def qna : AC Bool :=
  .seq (.reg [ao 4 (.mv (.c (.bool false)))]) (.seq (.reg [ao 15 (.mv 0),
 .callc (po 16 (.call 10 [15])) 10 qzc,
 ao 0 (.mv 16)]) (.seq (.seq (.reg [ao 17 (.mv 0),
 .call (po 18 (.call 11 [17])) 11 qr9,
 ao 19 (.bin .neq 18 (.c (.int .i64 0))),
 ao 20 (.mv 19),
 .grp 20 false [(pg 21 20 false (.mv 0)), (pg 22 20 false (.len false 21)), (pg 23 20 false (.bin .eql 22 (.c (.int .i64 0))))] 24 23]) (.cond 24 (.seq (.reg [.call (po 25 (.call 13 [])) 13 qmf,
 ao 4 (.mv 25)]) (.ret)) (.skip))) (.seq (.seq (.reg [ao 26 (.mv 0),
 ao 27 (.len false 26),
 ao 28 (.mv (.c (.int .i64 0)))]) (.block 0 (.seq (.view [.sel [0, 1, 26, 27, 28] []]) (.sub (.loop (scOf qei)) qpc)))) (.seq (.reg [ao 61 (.mv 0),
 ao 62 (.mv 1),
 ao 63 (.conv (.int .i64) 62),
 ao 64 (.mv 0),
 ao 65 (.len false 64),
 ao 66 (.bin .rem 63 65),
 ao 67 (.ia 8 61 66),
 .st (.etac 67 qa),
 ao 68 (.load true 8 67),
 ao 9 (.alloc [(.bool false), (.int .u64 0), (.int .u64 0), (.int .i64 0), (.int .i64 0), (.str []), (.str []), (.int .i64 0)]),
 an (.store 8 9 68)]) (.seq (.reg [ao 69 (.mv 0),
 ao 70 (.fa 0 9),
 ao 71 (.load true 4 70),
 .callc (po 72 (.call 30 [69, 71])) 30 qoz,
 ao 73 (.len false 72),
 ao 74 (.bin .gtr 73 (.c (.int .i64 0))),
 ao 10 (.mv 74)]) (.seq (.reg [ao 76 (.mv 0),
 ao 77 (.fa 0 9),
 ao 78 (.load true 4 77),
 .callc (po 79 (.call 17 [76, 78])) 17 qqy,
 ao 75 (.mv 79),
 ao 80 (.ext 75 0),
 ao 81 (.ext 75 1),
 ao 11 (.mv 80),
 ao 12 (.mv 81)]) (.seq (.reg [ao 83 (.mv 0),
 ao 84 (.fa 0 9),
 ao 85 (.load true 4 84),
 .callc (po 86 (.call 20 [83, 85])) 20 qsg,
 ao 82 (.mv 86),
 ao 87 (.ext 82 0),
 ao 88 (.ext 82 1),
 ao 13 (.mv 87),
 ao 14 (.mv 88)]) (.seq (.seq (.reg [ao 89 (.mv 10)]) (.cond 89 (.seq (.seq (.view [.sel [12, 14] []]) (.sub (scOf qgy) qpd)) (.ret)) (.skip))) (.seq (.reg [ao 99 (.mv 12),
 ao 100 (.bin .eql 99 (.c (.int .i64 0))),
 ao 101 (.mv 100),
 .grp 101 true [(pg 102 101 true (.mv 14)), (pg 103 101 true (.bin .neq 102 (.c (.int .i64 25))))] 104 103,
 ao 105 (.mv 104),
 .grp 105 true [(pg 106 105 true (.mv 14)), (pg 107 105 true (.bin .neq 106 (.c (.int .i64 11))))] 108 107,
 ao 109 (.mv 108),
 .call (pg 110 109 true (.call 13 [])) 13 qmf,
 ao 111 (.pick 109 110 (.c (.bool false))),
 ao 4 (.mv 111)]) (.ret))))))))))
theorem q15 : AC.ok Try.prog (TIof Try.prog) 112 0 (kret [.t 4] decB) qna := qo (zA (qd.ok qbfv) (zA (qd.ok q2j) (zA (qd.ok qsl) (zA qyt (zA (qd.ok qyi) (zA (qd.ok q05) (zA (qd.ok q2o) (zA qyv (zA (qd.ok qsl) trivial)))))))))
theorem q26 (v0 : List AV) (v1 : Int) : den 0 (kret [.t 4] decB) qna (qj [(0, (.sl 8 v0)), (1, (.int .u8 v1))]) (qg []) (kend (kret [.t 4] decB)) = qf6 v0 v1 := by
  rw [qrp]; kernel_rfl
theorem q27 : cFn (TIof Try.prog) Try.f8 = some ⟨112, [.t 4], scOf qna⟩ := by kernel_rfl
def q28 (xs : List AV) : Option Bool := qf6 (gL [(ql xs) 0] 0) (gI [(ql xs) 1] 0)
def q0u {R : Type} : List AV → (AV → Option R) → Option R := entF qfv q28 AV.bool
theorem q29 {R : Type} : qd Try.prog 8 (q0u (R := R)) :=
  qcg tabOk follows Try.func8 (by kernel_rfl) q27 hdeB q15 (qbi (by kernel_rfl)) fun xs => q26 _ _
end
end Go.Proofs.Ytmjdngnagiloeaa.Dn
