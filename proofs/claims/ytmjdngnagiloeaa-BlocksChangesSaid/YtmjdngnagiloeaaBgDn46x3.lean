import Derived.Test.YtmjdngnagiloeaaProg
import Derived.Test.YtmjdngnagiloeaaBgLibD
import Derived.Test.YtmjdngnagiloeaaBgDn46x2
set_option linter.all false
namespace Go.Proofs.Ytmjdngnagiloeaa.Dn
open Go Go.Pev
set_option linter.unusedVariables false
set_option linter.unusedSimpArgs false
set_option maxRecDepth 100000
set_option maxHeartbeats 4000000
def q1s  (v0 : List AV) (v6 : Bool) (v7 : Int) (Ai : Bool) (Aj Ak Al Am : Int) (An Ao : List UInt8) (Ap : Int) (a1 : List AV) (K : Ex → Env → Mem → Option (List AV)) := (fun z_v26 => K .norm (qh [(0, (.sl 8 v0)), (3, (.ptr 0 0)), (5, (.own 1 a1.length)), (6, (.bool v6)), (7, (.int .i64 v7)), (26, (.bool z_v26))]) (qg [(some (.box true (qc Ai Aj Ak Al Am An Ao Ap))), (some (.arr true 8 a1))]))
def qbei : Shp := ⟨[(0, .one (.l (.sl 8))), (3, .one (.ptr 0 0)), (5, .one (.own 1)), (6, .one (.l .b)), (7, .one (.l (.i .i64)))], [.box true (lk qb), .arr true 8]⟩
noncomputable section
def quk  (v0 : List AV) (v6 : Bool) (v7 : Int) (Ai : Bool) (Aj Ak Al Am : Int) (An Ao : List UInt8) (Ap : Int) (a1 : List AV) (kn : Bool → Option (List AV)) : Option (List AV) :=
  (bif (!v6) then (oB (ixB v0 v7) fun y1 => (bif fitC qb y1.cells then (oB (qkk (gB y1.cells 0) (gI y1.cells 1) (gI y1.cells 2) (gI y1.cells 3) Ai Aj Ak Al) fun r2 => (kn (decide (r2 > (0 : Int))))) else none)) else (kn false))
def qrk := hull (quk)
theorem q1t : qrk = quk := qj _
def qoy : AC (List AV) :=
  .seq (.draw [] [ao 14 (.mv 6),
 ao 15 (.un .not 14),
 ao 16 (.mv 15),
 ag 17 16 true (.mv 0),
 ag 18 16 true (.mv 7),
 ag 19 16 true (.ia 8 17 18),
 .et 19 qb,
 ag 20 16 true (.fa 0 19),
 ag 21 16 true (.load true 4 20),
 ag 22 16 true (.fa 0 3),
 ag 23 16 true (.load true 4 22)] [.call (pg 24 16 true (.call 47 [21, 23])) 47 qq4,
 ag 25 16 true (.bin .gtr 24 (.c (.int .i64 0))),
 ao 26 (.pick 16 25 (.c (.bool false)))]) (.view [.sel [0, 3, 5, 6, 7, 26] [0, 1]])
theorem qbg9 : AC.ok Try.prog (TIof Try.prog) 45 0 (kret [.t 4] (decF true 8)) qoy := qm (zA (qd.ok q35) (zA rfl trivial))
theorem qbjk (v0 : List AV) (v6 : Bool) (v7 : Int) (Ai : Bool) (Aj Ak Al Am : Int) (An Ao : List UInt8) (Ap : Int) (a1 : List AV) (K : Ex → Env → Mem → Option (List AV)) : den 0 (kret [.t 4] (decF true 8)) qoy (qh [(0, (.sl 8 v0)), (3, (.ptr 0 0)), (5, (.own 1 a1.length)), (6, (.bool v6)), (7, (.int .i64 v7))]) (qg [(some (.box true (qc Ai Aj Ak Al Am An Ao Ap))), (some (.arr true 8 a1))]) K = qrk v0 v6 v7 Ai Aj Ak Al Am An Ao Ap a1 (q1s v0 v6 v7 Ai Aj Ak Al Am An Ao Ap a1 K) := by
  rw [q1t]; kernel_rfl
def q4q := subE (R := (List AV)) qbei fun t m K => qi (bxC (m.s 0)) (qrk (gL [t 0] 0) (gB [t 6] 0) (gI [t 7] 0)) (arL (m.s 1)) (q1s (gL [t 0] 0) (gB [t 6] 0) (gI [t 7] 0) (gB (bxC (m.s 0)) 0) (gI (bxC (m.s 0)) 1) (gI (bxC (m.s 0)) 2) (gI (bxC (m.s 0)) 3) (gI (bxC (m.s 0)) 4) (gS (bxC (m.s 0)) 5) (gS (bxC (m.s 0)) 6) (gI (bxC (m.s 0)) 7) (arL (m.s 1)) K)
theorem qbjl : qca Try.prog (TIof Try.prog) 45 0 (kret [.t 4] (decF true 8)) (scOf qoy) (q4q) :=
  qet tabOk follows (qbg9) (qn (by kernel_rfl)) fun t m K => qbjk _ _ _ _ _ _ _ _ _ _ _ _ K
def q1u  (v0 : List AV) (v7 : Int) (Ai : Bool) (Aj Ak Al Am : Int) (An Ao : List UInt8) (Ap : Int) (K : Ex → Env → Mem → Option (List AV)) := (fun z_v6 z_a1 => K .norm (qh [(0, (.sl 8 v0)), (3, (.ptr 0 0)), (5, (.own 1 z_a1.length)), (6, (.bool z_v6)), (7, (.int .i64 v7))]) (qg [(some (.box true (qc Ai Aj Ak Al Am An Ao Ap))), (some (.arr true 8 z_a1))]))
def qbej : Shp := ⟨[(0, .one (.l (.sl 8))), (3, .one (.ptr 0 0)), (5, .one (.own 1)), (6, .one (.l .b)), (7, .one (.l (.i .i64)))], [.box true (lk qb), .arr true 8]⟩
def qul  (v0 : List AV) (v6 : Bool) (v7 : Int) (Ai : Bool) (Aj Ak Al Am : Int) (An Ao : List UInt8) (Ap : Int) (a1 : List AV) (kn : Bool → (List AV) → Option (List AV)) : Option (List AV) :=
  (bif (hd a1 (a1.length) && true) then (qrk v0 v6 v7 Ai Aj Ak Al Am An Ao Ap a1 (fun v26q1 => (bif v26q1 then (bif hd a1 a1.length then (bif hd ([(.agg [(.bool Ai), (.int .u64 Aj), (.int .u64 Ak), (.int .i64 Al), (.int .i64 Am), (.str An), (.str Ao), (.int .i64 Ap)])] : List AV) (([(.agg [(.bool Ai), (.int .u64 Aj), (.int .u64 Ak), (.int .i64 Al), (.int .i64 Am), (.str An), (.str Ao), (.int .i64 Ap)])] : List AV).length) then (bif decide ((a1.length + ([(.agg [(.bool Ai), (.int .u64 Aj), (.int .u64 Ak), (.int .i64 Al), (.int .i64 Am), (.str An), (.str Ao), (.int .i64 Ap)])] : List AV).length) * 80 ≤ 140737488355328) then (kn true (a1 ++ ([(.agg [(.bool Ai), (.int .u64 Aj), (.int .u64 Ak), (.int .i64 Al), (.int .i64 Am), (.str An), (.str Ao), (.int .i64 Ap)])] : List AV))) else none) else none) else none) else (kn v6 a1)))) else none)
def qns := hull (qul)
theorem q1v : qns = qul := qj _
def qoz : AC (List AV) :=
  .seq (.seq (.view [.sel [0, 3, 5, 6, 7] [0, 1]]) (.sub (scOf qoy) q4q)) (.cond 26 (.seq (.reg [ao 27 (.mv 5),
 ao 28 (.load true 8 3),
 ao 29 (.bsl 8 [28]),
 ao 30 (.app 8 80 27 29),
 ao 5 (.mv 30)]) (.seq (.reg [ao 6 (.mv (.c (.bool true)))]) (.view [.sel [0, 3, 5, 6, 7] [0, 1]]))) (.seq (.skip) (.view [.sel [0, 3, 5, 6, 7] [0, 1]])))
theorem qbha : AC.ok Try.prog (TIof Try.prog) 45 0 (kret [.t 4] (decF true 8)) qoz := qm (zA qbjl trivial)
theorem qbjm (v0 : List AV) (v6 : Bool) (v7 : Int) (Ai : Bool) (Aj Ak Al Am : Int) (An Ao : List UInt8) (Ap : Int) (a1 : List AV) (K : Ex → Env → Mem → Option (List AV)) : den 0 (kret [.t 4] (decF true 8)) qoz (qh [(0, (.sl 8 v0)), (3, (.ptr 0 0)), (5, (.own 1 a1.length)), (6, (.bool v6)), (7, (.int .i64 v7))]) (qg [(some (.box true (qc Ai Aj Ak Al Am An Ao Ap))), (some (.arr true 8 a1))]) K = qns v0 v6 v7 Ai Aj Ak Al Am An Ao Ap a1 (q1u v0 v7 Ai Aj Ak Al Am An Ao Ap K) := by
  rw [q1v]; kernel_rfl
def q4r := subE (R := (List AV)) qbej fun t m K => qi (bxC (m.s 0)) (qns (gL [t 0] 0) (gB [t 6] 0) (gI [t 7] 0)) (arL (m.s 1)) (q1u (gL [t 0] 0) (gI [t 7] 0) (gB (bxC (m.s 0)) 0) (gI (bxC (m.s 0)) 1) (gI (bxC (m.s 0)) 2) (gI (bxC (m.s 0)) 3) (gI (bxC (m.s 0)) 4) (gS (bxC (m.s 0)) 5) (gS (bxC (m.s 0)) 6) (gI (bxC (m.s 0)) 7) K)
theorem qbjn : qca Try.prog (TIof Try.prog) 45 0 (kret [.t 4] (decF true 8)) (scOf qoz) (q4r) :=
  qet tabOk follows (qbha) (qn (by kernel_rfl)) fun t m K => qbjm _ _ _ _ _ _ _ _ _ _ _ _ K
def qmy  (Ai : Bool) (Aj Ak Al Am : Int) (An Ao : List UInt8) (Ap : Int) (K : Ex → Env → Mem → Option (List AV)) := (fun z_v6 z_a1 => K (.exit 0) (qh [(3, (.ptr 0 0)), (5, (.own 1 z_a1.length)), (6, (.bool z_v6))]) (qg [(some (.box true (qc Ai Aj Ak Al Am An Ao Ap))), (some (.arr true 8 z_a1))]))
def qbek : Shp := ⟨[(0, .one (.l (.sl 8))), (3, .one (.ptr 0 0)), (5, .one (.own 1)), (6, .one (.l .b)), (7, .one (.l (.i .i64)))], [.box true (lk qb), .arr true 8]⟩
def qsw (v0 : List AV) (v6 : Bool) (v7 : Int) (Ai : Bool) (Aj Ak Al Am : Int) (An Ao : List UInt8) (Ap : Int) (a1 : List AV) : Env := qh [(0, (.sl 8 v0)), (3, (.ptr 0 0)), (5, (.own 1 a1.length)), (6, (.bool v6)), (7, (.int .i64 v7))]
def qsx (v0 : List AV) (v6 : Bool) (v7 : Int) (Ai : Bool) (Aj Ak Al Am : Int) (An Ao : List UInt8) (Ap : Int) (a1 : List AV) : Mem := qg [(some (.box true (qc Ai Aj Ak Al Am An Ao Ap))), (some (.arr true 8 a1))]
def qfw  (v0 : List AV) (v6 : Bool) (v7 : Int) (Ai : Bool) (Aj Ak Al Am : Int) (An Ao : List UInt8) (Ap : Int) (a1 : List AV) (next : Bool → Int → (List AV) → Option (List AV)) (kx0 : Bool → (List AV) → Option (List AV)) : Option (List AV) :=
  (bif (decide (v7 < (v0.length : Int))) then (bif (hd a1 (a1.length) && true) then (qns v0 v6 v7 Ai Aj Ak Al Am An Ao Ap a1 (fun v6q1 a1q2 => (oB (ixB v0 v7) fun y3 => (bif fitC qb y3.cells then (bif hd a1q2 a1q2.length then (bif hd ([(.agg [(.bool (gB y3.cells 0)), (.int .u64 (gI y3.cells 1)), (.int .u64 (gI y3.cells 2)), (.int .i64 (gI y3.cells 3)), (.int .i64 (gI y3.cells 4)), (.str (gS y3.cells 5)), (.str (gS y3.cells 6)), (.int .i64 (gI y3.cells 7))])] : List AV) (([(.agg [(.bool (gB y3.cells 0)), (.int .u64 (gI y3.cells 1)), (.int .u64 (gI y3.cells 2)), (.int .i64 (gI y3.cells 3)), (.int .i64 (gI y3.cells 4)), (.str (gS y3.cells 5)), (.str (gS y3.cells 6)), (.int .i64 (gI y3.cells 7))])] : List AV).length) then (bif decide ((a1q2.length + ([(.agg [(.bool (gB y3.cells 0)), (.int .u64 (gI y3.cells 1)), (.int .u64 (gI y3.cells 2)), (.int .i64 (gI y3.cells 3)), (.int .i64 (gI y3.cells 4)), (.str (gS y3.cells 5)), (.str (gS y3.cells 6)), (.int .i64 (gI y3.cells 7))])] : List AV).length) * 80 ≤ 140737488355328) then (next v6q1 (IntKind.i64.wrap (v7 + (1 : Int))) (a1q2 ++ ([(.agg [(.bool (gB y3.cells 0)), (.int .u64 (gI y3.cells 1)), (.int .u64 (gI y3.cells 2)), (.int .i64 (gI y3.cells 3)), (.int .i64 (gI y3.cells 4)), (.str (gS y3.cells 5)), (.str (gS y3.cells 6)), (.int .i64 (gI y3.cells 7))])] : List AV))) else none) else none) else none) else none)))) else none) else (kx0 v6 a1))
def qlj  (v0 : List AV) (Ai : Bool) (Aj Ak Al Am : Int) (An Ao : List UInt8) (Ap : Int) (kx0 : Bool → (List AV) → Option (List AV)) : Nat → Bool → Int → (List AV) → Option (List AV)
  | 0 => (fun _ _ _ => none)
  | n + 1 => (fun v6 v7 a1 => qfw v0 v6 v7 Ai Aj Ak Al Am An Ao Ap a1 (qlj v0 Ai Aj Ak Al Am An Ao Ap kx0 n) kx0)
def qrl := hull (qlj)
theorem q1w : qrl = qlj := qj _
def qht : AC (List AV) :=
  .seq (.seq (.reg [ao 8 (.mv 7),
 ao 9 (.mv 0),
 ao 10 (.len false 9),
 ao 11 (.bin .lss 8 10)]) (.cond 11 (.skip) (.seq (.view [.sel [3, 5, 6] [0, 1]]) (.exit 0)))) (.seq (.block 1 (.seq (.seq (.view [.sel [0, 3, 5, 6, 7] [0, 1]]) (.sub (scOf qoz) q4r)) (.reg [ao 31 (.mv 5),
 ao 32 (.mv 0),
 ao 33 (.mv 7),
 ao 34 (.ia 8 32 33),
 .st (.etac 34 qb),
 ao 35 (.load true 8 34),
 ao 36 (.bsl 8 [35]),
 ao 37 (.app 8 80 31 36),
 ao 5 (.mv 37)]))) (.seq (.reg [ao 12 (.mv 7),
 ao 13 (.bin .add 12 (.c (.int .i64 1))),
 ao 7 (.mv 13)]) (.view [.sel [0, 3, 5, 6, 7] [0, 1]])))
theorem qbhb : AC.ok Try.prog (TIof Try.prog) 45 0 (kret [.t 4] (decF true 8)) qht := qm (zA qbjn trivial)
theorem qbel (v0 : List AV) (v6 : Bool) (v7 : Int) (Ai : Bool) (Aj Ak Al Am : Int) (An Ao : List UInt8) (Ap : Int) (a1 : List AV) (K : Ex → Env → Mem → Option (List AV)) : den 0 (kret [.t 4] (decF true 8)) qht (qsw v0 v6 v7 Ai Aj Ak Al Am An Ao Ap a1) (qsx v0 v6 v7 Ai Aj Ak Al Am An Ao Ap a1) K = qfw v0 v6 v7 Ai Aj Ak Al Am An Ao Ap a1 (fun z_v6 z_v7 z_a1 => K .norm (qsw v0 z_v6 z_v7 Ai Aj Ak Al Am An Ao Ap z_a1) (qsx v0 z_v6 z_v7 Ai Aj Ak Al Am An Ao Ap z_a1)) (qmy Ai Aj Ak Al Am An Ao Ap K) := by kernel_rfl
theorem qbjo (v0 : List AV) (Ai : Bool) (Aj Ak Al Am : Int) (An Ao : List UInt8) (Ap : Int) (K : Ex → Env → Mem → Option (List AV)) : ∀ (n : Nat) (v6 : Bool) (v7 : Int) (a1 : List AV), qe5 (den 0 (kret [.t 4] (decF true 8)) qht) n (qsw v0 v6 v7 Ai Aj Ak Al Am An Ao Ap a1) (qsx v0 v6 v7 Ai Aj Ak Al Am An Ao Ap a1) K = qrl v0 Ai Aj Ak Al Am An Ao Ap (qmy Ai Aj Ak Al Am An Ao Ap K) n v6 v7 a1 := by
  rw [q1w]
  intro n
  induction n with
  | zero => intros; rfl
  | succ n ih =>
 intro v6 v7 a1
 exact (qbel v0 v6 v7 Ai Aj Ak Al Am An Ao Ap a1 (itK (den 0 (kret [.t 4] (decF true 8)) qht) n K)).trans (congrArg (fun q => qfw v0 v6 v7 Ai Aj Ak Al Am An Ao Ap a1 q (qmy Ai Aj Ak Al Am An Ao Ap K)) (funext fun v6 => funext fun v7 => funext fun a1 => ih v6 v7 a1))
def q4s := subE (R := (List AV)) qbek fun t m K => qi (bxC (m.s 0)) (qrl (gL [t 0] 0)) (qmy (gB (bxC (m.s 0)) 0) (gI (bxC (m.s 0)) 1) (gI (bxC (m.s 0)) 2) (gI (bxC (m.s 0)) 3) (gI (bxC (m.s 0)) 4) (gS (bxC (m.s 0)) 5) (gS (bxC (m.s 0)) 6) (gI (bxC (m.s 0)) 7) K) FU (gB [t 6] 0) (gI [t 7] 0) (arL (m.s 1))
theorem qbjp : qca Try.prog (TIof Try.prog) 45 0 (kret [.t 4] (decF true 8)) (.loop (scOf qht)) (q4s) :=
  qen tabOk follows (qbhb) (qn (by kernel_rfl)) fun t m K => qbjo _ _ _ _ _ _ _ _ _ K FU _ _ _
def qbqs : Shp := ⟨[(0, .one (.l (.sl 8))), (1, .st (lk qb))], []⟩
def q2w (v0 : List AV) (Aq : Bool) (Ar As At Ay : Int) (Az A0 : List UInt8) (A1 : Int) : Option (List AV) :=
  (bif (hd ([] : List AV) (([] : List AV).length) && true) then (qrl v0 Aq Ar As At Ay Az A0 A1 (fun v6q1 a1q2 => (bif (!v6q1) then (bif hd a1q2 a1q2.length then (bif hd ([(.agg [(.bool Aq), (.int .u64 Ar), (.int .u64 As), (.int .i64 At), (.int .i64 Ay), (.str Az), (.str A0), (.int .i64 A1)])] : List AV) (([(.agg [(.bool Aq), (.int .u64 Ar), (.int .u64 As), (.int .i64 At), (.int .i64 Ay), (.str Az), (.str A0), (.int .i64 A1)])] : List AV).length) then (bif decide ((a1q2.length + ([(.agg [(.bool Aq), (.int .u64 Ar), (.int .u64 As), (.int .i64 At), (.int .i64 Ay), (.str Az), (.str A0), (.int .i64 A1)])] : List AV).length) * 80 ≤ 140737488355328) then (bif hd (a1q2 ++ ([(.agg [(.bool Aq), (.int .u64 Ar), (.int .u64 As), (.int .i64 At), (.int .i64 Ay), (.str Az), (.str A0), (.int .i64 A1)])] : List AV)) ((a1q2 ++ ([(.agg [(.bool Aq), (.int .u64 Ar), (.int .u64 As), (.int .i64 At), (.int .i64 Ay), (.str Az), (.str A0), (.int .i64 A1)])] : List AV)).length) then (some (a1q2 ++ ([(.agg [(.bool Aq), (.int .u64 Ar), (.int .u64 As), (.int .i64 At), (.int .i64 Ay), (.str Az), (.str A0), (.int .i64 A1)])] : List AV))) else none) else none) else none) else none) else (bif hd a1q2 a1q2.length then (some a1q2) else none))) FU false (0 : Int) ([] : List AV)) else none)
def qiy := hull q2w
theorem q94 : qiy = q2w := qj _
def q2x : AC (List AV) :=
  .seq (.reg [ao 3 (.box 1),
 ao 4 (.mv (.c .nils))]) (.seq (.reg [ao 5 (.mv (.c .nils))]) (.seq (.reg [ao 6 (.mv (.c (.bool false)))]) (.seq (.seq (.reg [ao 7 (.mv (.c (.int .i64 0)))]) (.block 0 (.seq (.view [.own 5 8, .sel [0, 3, 5, 6, 7] [0, 1]]) (.sub (.loop (scOf qht)) q4s)))) (.seq (.seq (.reg [ao 38 (.mv 6),
 ao 39 (.un .not 38)]) (.cond 39 (.reg [ao 40 (.mv 5),
 ao 41 (.load true 8 3),
 ao 42 (.bsl 8 [41]),
 ao 43 (.app 8 80 40 42),
 ao 5 (.mv 43)]) (.skip))) (.seq (.reg [ao 44 (.mv 5),
 ao 4 (.mv 44)]) (.ret))))))
theorem qbs8 : AC.ok Try.prog (TIof Try.prog) 45 0 (kret [.t 4] (decF true 8)) q2x := qm (zA qbjp trivial)
theorem qbv2 (v0 : List AV) (Aq : Bool) (Ar As At Ay : Int) (Az A0 : List UInt8) (A1 : Int) : den 0 (kret [.t 4] (decF true 8)) q2x (qh [(0, (.sl 8 v0)), (1, .agg (qc Aq Ar As At Ay Az A0 A1))]) (qg []) (kend (kret [.t 4] (decF true 8))) = qiy v0 Aq Ar As At Ay Az A0 A1 := by
  rw [q94]; kernel_rfl
theorem qbv3 : cFn (TIof Try.prog) Try.f55 = some ⟨45, [.t 4], scOf q2x⟩ := by kernel_rfl
def qbv4 (xs : List AV) : Option (List AV) := qi ((qk xs) 1).cells (qiy (gL [(qk xs) 0] 0))
def qnt {R : Type} : List AV → (AV → Option R) → Option R := entF qbqs qbv4 (AV.fr true 8)
theorem qu5 {R : Type} : qd Try.prog 55 (qnt (R := R)) :=
  qz tabOk follows Try.func55 (by kernel_rfl) qbv3 hdeF qbs8 (qn (by kernel_rfl)) fun xs => qbv2 _ _ _ _ _ _ _ _ _
def qfx (z : AV) : Option ((List AV) × Int) := cond (qgm [(.one (.sl 8)), (.one (.i .i64))] z) (some (aL (gC (tpL z) 0), aI (gC (tpL z) 1))) none
def qbqt (r : (List AV) × Int) : AV := .tup [.sl 8 r.1, .int .i64 r.2]
def qmz  (v0 : List AV) (Ai : Bool) (Aj Ak Al Am : Int) (An Ao : List UInt8) (Ap : Int) (K : Ex → Env → Mem → Option ((List AV) × Int)) := (fun (_ : Unit) => K (.exit 0) (qh [(0, (.sl 8 v0)), (3, (.ptr 0 0))]) (qg [(some (.box true (qc Ai Aj Ak Al Am An Ao Ap)))]))
def qbem : Shp := ⟨[(0, .one (.l (.sl 8))), (3, .one (.ptr 0 0)), (8, .one (.l (.i .i64)))], [.box true (lk qb)]⟩
def qsy (v0 : List AV) (v8 : Int) (Ai : Bool) (Aj Ak Al Am : Int) (An Ao : List UInt8) (Ap : Int) : Env := qh [(0, (.sl 8 v0)), (3, (.ptr 0 0)), (8, (.int .i64 v8))]
def qsz (v0 : List AV) (v8 : Int) (Ai : Bool) (Aj Ak Al Am : Int) (An Ao : List UInt8) (Ap : Int) : Mem := qg [(some (.box true (qc Ai Aj Ak Al Am An Ao Ap)))]
def qhu  (v0 : List AV) (v8 : Int) (Ai : Bool) (Aj Ak Al Am : Int) (An Ao : List UInt8) (Ap : Int) (next : Int → Option ((List AV) × Int)) (kx0 : Unit → Option ((List AV) × Int)) : Option ((List AV) × Int) :=
  (bif (decide (v8 < (v0.length : Int))) then (oB (ixB v0 v8) fun y1 => (bif fitC qb y1.cells then (oB (qim Ai Aj Ak Al Am An Ao Ap (gB y1.cells 0) (gI y1.cells 1) (gI y1.cells 2) (gI y1.cells 3) (gI y1.cells 4) (gS y1.cells 5) (gS y1.cells 6) (gI y1.cells 7)) fun r2 => (bif r2 then (some (([] : List AV), (24 : Int))) else (oB (ixB v0 v8) fun y3 => (bif fitC qb y3.cells then (oB (qo8 (gB y3.cells 0) (gI y3.cells 1) (gI y3.cells 2) (gI y3.cells 3) Ai Aj Ak Al) fun r4 => (bif r4 then (some (([] : List AV), (24 : Int))) else (next (IntKind.i64.wrap (v8 + (1 : Int)))))) else none)))) else none)) else (kx0 ()))
def qo0  (v0 : List AV) (Ai : Bool) (Aj Ak Al Am : Int) (An Ao : List UInt8) (Ap : Int) (kx0 : Unit → Option ((List AV) × Int)) : Nat → Int → Option ((List AV) × Int)
  | 0 => (fun _ => none)
  | n + 1 => (fun v8 => qhu v0 v8 Ai Aj Ak Al Am An Ao Ap (qo0 v0 Ai Aj Ak Al Am An Ao Ap kx0 n) kx0)
def qnu := hull (qo0)
theorem q1x : qnu = qo0 := qj _
def qhv : AC ((List AV) × Int) :=
  .seq (.seq (.reg [ao 24 (.mv 8),
 ao 25 (.mv 0),
 ao 26 (.len false 25),
 ao 27 (.bin .lss 24 26)]) (.cond 27 (.skip) (.seq (.view [.sel [0, 3] [0]]) (.exit 0)))) (.seq (.block 1 (.seq (.draw [] [ao 30 (.load true 8 3),
 ao 31 (.mv 0),
 ao 32 (.mv 8),
 ao 33 (.ia 8 31 32),
 .et 33 qb,
 ao 34 (.load true 8 33),
 .call (po 35 (.call 48 [30, 34])) 48 qso,
 ao 36 (.mv 35),
 ag 37 36 false (.mv 0),
 ag 38 36 false (.mv 8),
 ag 39 36 false (.ia 8 37 38),
 .et 39 qb,
 ag 40 36 false (.fa 0 39),
 ag 41 36 false (.load true 4 40),
 ag 42 36 false (.fa 0 3),
 ag 43 36 false (.load true 4 42)] [.call (pg 44 36 false (.call 54 [41, 43])) 54 qta,
 ao 45 (.pick 36 (.c (.bool true)) 44)]) (.cond 45 (.seq (.reg [ao 4 (.mv (.c .nils)),
 ao 5 (.mv (.c (.int .i64 24)))]) (.seq (.view [.eta 4 (.one (.sl 8))]) (.ret))) (.skip)))) (.seq (.reg [ao 28 (.mv 8),
 ao 29 (.bin .add 28 (.c (.int .i64 1))),
 ao 8 (.mv 29)]) (.view [.sel [0, 3, 8] [0]])))
theorem qbhc : AC.ok Try.prog (TIof Try.prog) 52 0 (kret [.t 4, .t 5] qfx) qhv := qm (zA (qd.ok q59) (zA (qd.ok q5h) (zA rfl trivial)))
theorem qben (v0 : List AV) (v8 : Int) (Ai : Bool) (Aj Ak Al Am : Int) (An Ao : List UInt8) (Ap : Int) (K : Ex → Env → Mem → Option ((List AV) × Int)) : den 0 (kret [.t 4, .t 5] qfx) qhv (qsy v0 v8 Ai Aj Ak Al Am An Ao Ap) (qsz v0 v8 Ai Aj Ak Al Am An Ao Ap) K = qhu v0 v8 Ai Aj Ak Al Am An Ao Ap (fun z_v8 => K .norm (qsy v0 z_v8 Ai Aj Ak Al Am An Ao Ap) (qsz v0 z_v8 Ai Aj Ak Al Am An Ao Ap)) (qmz v0 Ai Aj Ak Al Am An Ao Ap K) := by kernel_rfl
theorem qbjq (v0 : List AV) (Ai : Bool) (Aj Ak Al Am : Int) (An Ao : List UInt8) (Ap : Int) (K : Ex → Env → Mem → Option ((List AV) × Int)) : ∀ (n : Nat) (v8 : Int), qe5 (den 0 (kret [.t 4, .t 5] qfx) qhv) n (qsy v0 v8 Ai Aj Ak Al Am An Ao Ap) (qsz v0 v8 Ai Aj Ak Al Am An Ao Ap) K = qnu v0 Ai Aj Ak Al Am An Ao Ap (qmz v0 Ai Aj Ak Al Am An Ao Ap K) n v8 := by
  rw [q1x]
  intro n
  induction n with
  | zero => intros; rfl
  | succ n ih =>
 intro v8
 exact (qben v0 v8 Ai Aj Ak Al Am An Ao Ap (itK (den 0 (kret [.t 4, .t 5] qfx) qhv) n K)).trans (congrArg (fun q => qhu v0 v8 Ai Aj Ak Al Am An Ao Ap q (qmz v0 Ai Aj Ak Al Am An Ao Ap K)) (funext fun v8 => ih v8))
def q4t := subE (R := (List AV) × Int) qbem fun t m K => qi (bxC (m.s 0)) (qnu (gL [t 0] 0)) (qmz (gL [t 0] 0) (gB (bxC (m.s 0)) 0) (gI (bxC (m.s 0)) 1) (gI (bxC (m.s 0)) 2) (gI (bxC (m.s 0)) 3) (gI (bxC (m.s 0)) 4) (gS (bxC (m.s 0)) 5) (gS (bxC (m.s 0)) 6) (gI (bxC (m.s 0)) 7) K) FU (gI [t 8] 0)
theorem qbjr : qca Try.prog (TIof Try.prog) 52 0 (kret [.t 4, .t 5] qfx) (.loop (scOf qhv)) (q4t) :=
  qen tabOk follows (qbhc) (qn (by kernel_rfl)) fun t m K => qbjq _ _ _ _ _ _ _ _ _ K FU _
def qbqu : Shp := ⟨[(0, .one (.l (.sl 8))), (1, .st (lk qb))], []⟩
def q2y (v0 : List AV) (Aq : Bool) (Ar As At Ay : Int) (Az A0 : List UInt8) (A1 : Int) : Option ((List AV) × Int) :=
  (oB (qgb Aq Ar As At) fun r1 => (bif (!r1) then (some (([] : List AV), (3 : Int))) else (oB (qnl Aq Ar As At Ay Az A0 A1) fun r2 => (bif (!r2) then (some (([] : List AV), (1 : Int))) else (oB (qf7 v0 Aq Ar As At) fun r3 => (bif r3.2 then (some (([] : List AV), (12 : Int))) else (qnu v0 Aq Ar As At Ay Az A0 A1 (fun (_ : Unit) => (bif (decide ((v0.length : Int) ≥ (512 : Int))) then (some (([] : List AV), (9 : Int))) else (oB (qiy v0 Aq Ar As At Ay Az A0 A1) fun r4 => (some (r4, (0 : Int)))))) FU (0 : Int))))))))
def qum := hull q2y
theorem q95 : qum = q2y := qj _
def q2z : AC ((List AV) × Int) :=
  .seq (.reg [ao 3 (.box 1),
 ao 4 (.mv (.c .nils)),
 ao 5 (.mv (.c (.int .i64 0)))]) (.seq (.seq (.reg [ao 9 (.fa 0 3),
 ao 10 (.load true 4 9),
 .call (po 11 (.call 45 [10])) 45 qhn,
 ao 12 (.un .not 11)]) (.cond 12 (.seq (.reg [ao 4 (.mv (.c .nils)),
 ao 5 (.mv (.c (.int .i64 3)))]) (.seq (.view [.eta 4 (.one (.sl 8))]) (.ret))) (.skip))) (.seq (.seq (.reg [ao 13 (.load true 8 3),
 .call (po 14 (.call 46 [13])) 46 qxj,
 ao 15 (.un .not 14)]) (.cond 15 (.seq (.reg [ao 4 (.mv (.c .nils)),
 ao 5 (.mv (.c (.int .i64 1)))]) (.seq (.view [.eta 4 (.one (.sl 8))]) (.ret))) (.skip))) (.seq (.reg [ao 17 (.mv 0),
 ao 18 (.fa 0 3),
 ao 19 (.load true 4 18),
 .call (po 20 (.call 25 [17, 19])) 25 qgp,
 ao 16 (.mv 20),
 ao 21 (.ext 16 0),
 ao 22 (.ext 16 1),
 ao 6 (.alloc [(.bool false), (.int .u64 0), (.int .u64 0), (.int .i64 0), (.int .i64 0), (.str []), (.str []), (.int .i64 0)]),
 an (.store 8 6 21),
 ao 7 (.mv 22)]) (.seq (.seq (.reg [ao 23 (.mv 7)]) (.cond 23 (.seq (.reg [ao 4 (.mv (.c .nils)),
 ao 5 (.mv (.c (.int .i64 12)))]) (.seq (.view [.eta 4 (.one (.sl 8))]) (.ret))) (.skip))) (.seq (.seq (.reg [ao 8 (.mv (.c (.int .i64 0)))]) (.block 0 (.seq (.view [.sel [0, 3, 8] [0]]) (.sub (.loop (scOf qhv)) q4t)))) (.seq (.seq (.reg [ao 46 (.mv 0),
 ao 47 (.len false 46),
 ao 48 (.bin .geq 47 (.c (.int .i64 512)))]) (.cond 48 (.seq (.reg [ao 4 (.mv (.c .nils)),
 ao 5 (.mv (.c (.int .i64 9)))]) (.seq (.view [.eta 4 (.one (.sl 8))]) (.ret))) (.skip))) (.seq (.reg [ao 49 (.mv 0),
 ao 50 (.load true 8 3),
 .callc (po 51 (.call 55 [49, 50])) 55 qnt,
 ao 4 (.mv 51),
 ao 5 (.mv (.c (.int .i64 0)))]) (.ret))))))))
theorem qbs9 : AC.ok Try.prog (TIof Try.prog) 52 0 (kret [.t 4, .t 5] qfx) q2z := qm (zA (qd.ok qni) (zA (qd.ok qbbq) (zA (qd.ok qly) (zA qbjr (zA (qd.ok qu5) trivial)))))
theorem qbv5 (v0 : List AV) (Aq : Bool) (Ar As At Ay : Int) (Az A0 : List UInt8) (A1 : Int) : den 0 (kret [.t 4, .t 5] qfx) q2z (qh [(0, (.sl 8 v0)), (1, .agg (qc Aq Ar As At Ay Az A0 A1))]) (qg []) (kend (kret [.t 4, .t 5] qfx)) = qum v0 Aq Ar As At Ay Az A0 A1 := by
  rw [q95]; kernel_rfl
theorem qbv6 : cFn (TIof Try.prog) Try.f16 = some ⟨52, [.t 4, .t 5], scOf q2z⟩ := by kernel_rfl
def qbv7 (xs : List AV) : Option ((List AV) × Int) := qi ((qk xs) 1).cells (qum (gL [(qk xs) 0] 0))
def q8k {R : Type} : List AV → (AV → Option R) → Option R := entF qbqu qbv7 qbqt
theorem qbv8 {R : Type} : qd Try.prog 16 (q8k (R := R)) :=
  qz tabOk follows Try.func16 (by kernel_rfl) qbv6 (fun z r h => by
 obtain ⟨h1, h2⟩ := qo h
 cases h2
 exact (qds h1).symm) qbs9 (qn (by kernel_rfl)) fun xs => qbv5 _ _ _ _ _ _ _ _ _
def qlz  (K : Ex → Env → Mem → Option Bool) := (fun (_ : Unit) => K (.exit 0) (qh []) (qg []))
def qbch : Shp := ⟨[(0, .one (.l (.sl 8))), (3, .one (.ptr 0 0)), (5, .one (.l (.i .i64)))], [.box true (lk qf)]⟩
def qrm (v0 : List AV) (v5 : Int) (Ai : Bool) (Aj Ak Al : Int) : Env := qh [(0, (.sl 8 v0)), (3, (.ptr 0 0)), (5, (.int .i64 v5))]
def qrn (v0 : List AV) (v5 : Int) (Ai : Bool) (Aj Ak Al : Int) : Mem := qg [(some (.box true (qa Ai Aj Ak Al)))]
def qgy  (v0 : List AV) (v5 : Int) (Ai : Bool) (Aj Ak Al : Int) (next : Int → Option Bool) (kx0 : Unit → Option Bool) : Option Bool :=
  (bif (decide (v5 < (v0.length : Int))) then (oB (ixB v0 v5) fun y1 => (bif fitC qb y1.cells then (oB (qo8 (gB y1.cells 0) (gI y1.cells 1) (gI y1.cells 2) (gI y1.cells 3) Ai Aj Ak Al) fun r2 => (bif r2 then (some true) else (next (IntKind.i64.wrap (v5 + (1 : Int)))))) else none)) else (kx0 ()))
def qn4  (v0 : List AV) (Ai : Bool) (Aj Ak Al : Int) (kx0 : Unit → Option Bool) : Nat → Int → Option Bool
  | 0 => (fun _ => none)
  | n + 1 => (fun v5 => qgy v0 v5 Ai Aj Ak Al (qn4 v0 Ai Aj Ak Al kx0 n) kx0)
def qpz := hull (qn4)
theorem q0c : qpz = qn4 := qj _
def qgz : AC Bool :=
  .seq (.seq (.reg [ao 6 (.mv 5),
 ao 7 (.mv 0),
 ao 8 (.len false 7),
 ao 9 (.bin .lss 6 8)]) (.cond 9 (.skip) (.seq (.view [.sel [] []]) (.exit 0)))) (.seq (.block 1 (.seq (.draw [] [ao 12 (.mv 0),
 ao 13 (.mv 5),
 ao 14 (.ia 8 12 13),
 .et 14 qb,
 ao 15 (.fa 0 14),
 ao 16 (.load true 4 15),
 ao 17 (.load true 4 3)] [.call (po 18 (.call 54 [16, 17])) 54 qta]) (.cond 18 (.seq (.reg [ao 4 (.mv (.c (.bool true)))]) (.ret)) (.skip)))) (.seq (.reg [ao 10 (.mv 5),
 ao 11 (.bin .add 10 (.c (.int .i64 1))),
 ao 5 (.mv 11)]) (.view [.sel [0, 3, 5] [0]])))
theorem qbeo : AC.ok Try.prog (TIof Try.prog) 19 0 (kret [.t 4] decB) qgz := qm (zA (qd.ok q5h) (zA rfl trivial))
theorem qbci (v0 : List AV) (v5 : Int) (Ai : Bool) (Aj Ak Al : Int) (K : Ex → Env → Mem → Option Bool) : den 0 (kret [.t 4] decB) qgz (qrm v0 v5 Ai Aj Ak Al) (qrn v0 v5 Ai Aj Ak Al) K = qgy v0 v5 Ai Aj Ak Al (fun z_v5 => K .norm (qrm v0 z_v5 Ai Aj Ak Al) (qrn v0 z_v5 Ai Aj Ak Al)) (qlz K) := by kernel_rfl
theorem qbhd (v0 : List AV) (Ai : Bool) (Aj Ak Al : Int) (K : Ex → Env → Mem → Option Bool) : ∀ (n : Nat) (v5 : Int), qe5 (den 0 (kret [.t 4] decB) qgz) n (qrm v0 v5 Ai Aj Ak Al) (qrn v0 v5 Ai Aj Ak Al) K = qpz v0 Ai Aj Ak Al (qlz K) n v5 := by
  rw [q0c]
  intro n
  induction n with
  | zero => intros; rfl
  | succ n ih =>
 intro v5
 exact (qbci v0 v5 Ai Aj Ak Al (itK (den 0 (kret [.t 4] decB) qgz) n K)).trans (congrArg (fun q => qgy v0 v5 Ai Aj Ak Al q (qlz K)) (funext fun v5 => ih v5))
def q1y := subE (R := Bool) qbch fun t m K => qe (bxC (m.s 0)) (qpz (gL [t 0] 0)) (qlz K) FU (gI [t 5] 0)
theorem qbhe : qca Try.prog (TIof Try.prog) 19 0 (kret [.t 4] decB) (.loop (scOf qgz)) (q1y) :=
  qen tabOk follows (qbeo) (qn (by kernel_rfl)) fun t m K => qbhd _ _ _ _ _ K FU _
def qbjs : Shp := ⟨[(0, .one (.l (.sl 8))), (1, .st (lk qf))], []⟩
def qxy (v0 : List AV) (Aq : Bool) (Ar As At : Int) : Option Bool :=
  (qpz v0 Aq Ar As At (fun (_ : Unit) => (some false)) FU (0 : Int))
def qnd := hull qxy
theorem q6u : qnd = qxy := qj _
def qxz : AC Bool :=
  .seq (.reg [ao 3 (.box 1),
 ao 4 (.mv (.c (.bool false)))]) (.seq (.seq (.reg [ao 5 (.mv (.c (.int .i64 0)))]) (.block 0 (.seq (.view [.sel [0, 3, 5] [0]]) (.sub (.loop (scOf qgz)) q1y)))) (.seq (.reg [ao 4 (.mv (.c (.bool false)))]) (.ret)))
theorem qbny : AC.ok Try.prog (TIof Try.prog) 19 0 (kret [.t 4] decB) qxz := qm (zA qbhe trivial)
theorem qbqv (v0 : List AV) (Aq : Bool) (Ar As At : Int) : den 0 (kret [.t 4] decB) qxz (qh [(0, (.sl 8 v0)), (1, .agg (qa Aq Ar As At))]) (qg []) (kend (kret [.t 4] decB)) = qnd v0 Aq Ar As At := by
  rw [q6u]; kernel_rfl
theorem qbqw : cFn (TIof Try.prog) Try.f57 = some ⟨19, [.t 4], scOf qxz⟩ := by kernel_rfl
def qbqx (xs : List AV) : Option Bool := qe ((qk xs) 1).cells (qnd (gL [(qk xs) 0] 0))
def qun {R : Type} : List AV → (AV → Option R) → Option R := entF qbjs qbqx AV.bool
theorem q8l {R : Type} : qd Try.prog 57 (qun (R := R)) :=
  qz tabOk follows Try.func57 (by kernel_rfl) qbqw hdeB qbny (qn (by kernel_rfl)) fun xs => qbqv _ _ _ _ _
def qj1  (K : Ex → Env → Mem → Option (List AV)) := (fun z_a0 => K (.exit 0) (qh [(5, (.own 0 z_a0.length))]) (qg [(some (.arr true 8 z_a0))]))
def q9m : Shp := ⟨[(0, .one (.l (.sl 8))), (3, .one (.ptr 0 0)), (5, .one (.own 1)), (6, .one (.l (.i .i64)))], [.box true (lk qf), .arr true 8]⟩
def qpd (v0 : List AV) (v6 : Int) (Ai : Bool) (Aj Ak Al : Int) (a1 : List AV) : Env := qh [(0, (.sl 8 v0)), (3, (.ptr 0 0)), (5, (.own 1 a1.length)), (6, (.int .i64 v6))]
def qpe (v0 : List AV) (v6 : Int) (Ai : Bool) (Aj Ak Al : Int) (a1 : List AV) : Mem := qg [(some (.box true (qa Ai Aj Ak Al))), (some (.arr true 8 a1))]
def qfr  (v0 : List AV) (v6 : Int) (Ai : Bool) (Aj Ak Al : Int) (a1 : List AV) (next : Int → (List AV) → Option (List AV)) (kx0 : (List AV) → Option (List AV)) : Option (List AV) :=
  (bif (decide (v6 < (v0.length : Int))) then (oB (ixB v0 v6) fun y1 => (bif fitC qb y1.cells then (bif (!(((gB y1.cells 0) == Ai) && (((gI y1.cells 1) == Aj) && (((gI y1.cells 2) == Ak) && (((gI y1.cells 3) == Al) && true))))) then (oB (ixB v0 v6) fun y2 => (bif fitC qb y2.cells then (bif hd a1 a1.length then (bif hd ([(.agg [(.bool (gB y2.cells 0)), (.int .u64 (gI y2.cells 1)), (.int .u64 (gI y2.cells 2)), (.int .i64 (gI y2.cells 3)), (.int .i64 (gI y2.cells 4)), (.str (gS y2.cells 5)), (.str (gS y2.cells 6)), (.int .i64 (gI y2.cells 7))])] : List AV) (([(.agg [(.bool (gB y2.cells 0)), (.int .u64 (gI y2.cells 1)), (.int .u64 (gI y2.cells 2)), (.int .i64 (gI y2.cells 3)), (.int .i64 (gI y2.cells 4)), (.str (gS y2.cells 5)), (.str (gS y2.cells 6)), (.int .i64 (gI y2.cells 7))])] : List AV).length) then (bif decide ((a1.length + ([(.agg [(.bool (gB y2.cells 0)), (.int .u64 (gI y2.cells 1)), (.int .u64 (gI y2.cells 2)), (.int .i64 (gI y2.cells 3)), (.int .i64 (gI y2.cells 4)), (.str (gS y2.cells 5)), (.str (gS y2.cells 6)), (.int .i64 (gI y2.cells 7))])] : List AV).length) * 80 ≤ 140737488355328) then (next (IntKind.i64.wrap (v6 + (1 : Int))) (a1 ++ ([(.agg [(.bool (gB y2.cells 0)), (.int .u64 (gI y2.cells 1)), (.int .u64 (gI y2.cells 2)), (.int .i64 (gI y2.cells 3)), (.int .i64 (gI y2.cells 4)), (.str (gS y2.cells 5)), (.str (gS y2.cells 6)), (.int .i64 (gI y2.cells 7))])] : List AV))) else none) else none) else none) else none)) else (next (IntKind.i64.wrap (v6 + (1 : Int))) a1)) else none)) else (kx0 a1))
def ql0  (v0 : List AV) (Ai : Bool) (Aj Ak Al : Int) (kx0 : (List AV) → Option (List AV)) : Nat → Int → (List AV) → Option (List AV)
  | 0 => (fun _ _ => none)
  | n + 1 => (fun v6 a1 => qfr v0 v6 Ai Aj Ak Al a1 (ql0 v0 Ai Aj Ak Al kx0 n) kx0)
def qn5 := hull (ql0)
theorem qwr : qn5 = ql0 := qj _
def qfs : AC (List AV) :=
  .seq (.seq (.reg [ao 7 (.mv 6),
 ao 8 (.mv 0),
 ao 9 (.len false 8),
 ao 10 (.bin .lss 7 9)]) (.cond 10 (.skip) (.seq (.view [.sel [5] [1]]) (.exit 0)))) (.seq (.block 1 (.seq (.draw [] [ao 13 (.mv 0),
 ao 14 (.mv 6),
 ao 15 (.ia 8 13 14),
 .et 15 qb,
 ao 16 (.fa 0 15),
 ao 17 (.load true 4 16),
 ao 18 (.load true 4 3)] [ao 19 (.eq true true [.b, (.i .u64), (.i .u64), (.i .i64)] 17 18)]) (.cond 19 (.reg [ao 20 (.mv 5),
 ao 21 (.mv 0),
 ao 22 (.mv 6),
 ao 23 (.ia 8 21 22),
 .st (.etac 23 qb),
 ao 24 (.load true 8 23),
 ao 25 (.bsl 8 [24]),
 ao 26 (.app 8 80 20 25),
 ao 5 (.mv 26)]) (.skip)))) (.seq (.reg [ao 11 (.mv 6),
 ao 12 (.bin .add 11 (.c (.int .i64 1))),
 ao 6 (.mv 12)]) (.view [.sel [0, 3, 5, 6] [0, 1]])))
theorem qba9 : AC.ok Try.prog (TIof Try.prog) 28 0 (kret [.t 4] (decF true 8)) qfs := qm (zA rfl trivial)
theorem q9n (v0 : List AV) (v6 : Int) (Ai : Bool) (Aj Ak Al : Int) (a1 : List AV) (K : Ex → Env → Mem → Option (List AV)) : den 0 (kret [.t 4] (decF true 8)) qfs (qpd v0 v6 Ai Aj Ak Al a1) (qpe v0 v6 Ai Aj Ak Al a1) K = qfr v0 v6 Ai Aj Ak Al a1 (fun z_v6 z_a1 => K .norm (qpd v0 z_v6 Ai Aj Ak Al z_a1) (qpe v0 z_v6 Ai Aj Ak Al z_a1)) (qj1 K) := by kernel_rfl
theorem qbcj (v0 : List AV) (Ai : Bool) (Aj Ak Al : Int) (K : Ex → Env → Mem → Option (List AV)) : ∀ (n : Nat) (v6 : Int) (a1 : List AV), qe5 (den 0 (kret [.t 4] (decF true 8)) qfs) n (qpd v0 v6 Ai Aj Ak Al a1) (qpe v0 v6 Ai Aj Ak Al a1) K = qn5 v0 Ai Aj Ak Al (qj1 K) n v6 a1 := by
  rw [qwr]
  intro n
  induction n with
  | zero => intros; rfl
  | succ n ih =>
 intro v6 a1
 exact (q9n v0 v6 Ai Aj Ak Al a1 (itK (den 0 (kret [.t 4] (decF true 8)) qfs) n K)).trans (congrArg (fun q => qfr v0 v6 Ai Aj Ak Al a1 q (qj1 K)) (funext fun v6 => funext fun a1 => ih v6 a1))
def qyn := subE (R := (List AV)) q9m fun t m K => qe (bxC (m.s 0)) (qn5 (gL [t 0] 0)) (qj1 K) FU (gI [t 6] 0) (arL (m.s 1))
theorem qbck : qca Try.prog (TIof Try.prog) 28 0 (kret [.t 4] (decF true 8)) (.loop (scOf qfs)) (qyn) :=
  qen tabOk follows (qba9) (qn (by kernel_rfl)) fun t m K => qbcj _ _ _ _ _ K FU _ _
def qbep : Shp := ⟨[(0, .one (.l (.sl 8))), (1, .st (lk qf))], []⟩
def qup (v0 : List AV) (Aq : Bool) (Ar As At : Int) : Option (List AV) :=
  (bif (hd ([] : List AV) (([] : List AV).length) && true) then (qn5 v0 Aq Ar As At (fun a0q1 => (bif hd a0q1 a0q1.length then (some a0q1) else none)) FU (0 : Int) ([] : List AV)) else none)
def qfy := hull qup
theorem q1z : qfy = qup := qj _
def quq : AC (List AV) :=
  .seq (.reg [ao 3 (.box 1),
 ao 4 (.mv (.c .nils))]) (.seq (.reg [ao 5 (.mv (.c .nils))]) (.seq (.seq (.reg [ao 6 (.mv (.c (.int .i64 0)))]) (.block 0 (.seq (.view [.own 5 8, .sel [0, 3, 5, 6] [0, 1]]) (.sub (.loop (scOf qfs)) qyn)))) (.seq (.reg [ao 27 (.mv 5),
 ao 4 (.mv 27)]) (.ret))))
theorem qbhf : AC.ok Try.prog (TIof Try.prog) 28 0 (kret [.t 4] (decF true 8)) quq := qm (zA qbck trivial)
theorem qbjt (v0 : List AV) (Aq : Bool) (Ar As At : Int) : den 0 (kret [.t 4] (decF true 8)) quq (qh [(0, (.sl 8 v0)), (1, .agg (qa Aq Ar As At))]) (qg []) (kend (kret [.t 4] (decF true 8))) = qfy v0 Aq Ar As At := by
  rw [q1z]; kernel_rfl
theorem qbju : cFn (TIof Try.prog) Try.f58 = some ⟨28, [.t 4], scOf quq⟩ := by kernel_rfl
def qbjv (xs : List AV) : Option (List AV) := qe ((qk xs) 1).cells (qfy (gL [(qk xs) 0] 0))
def qiz {R : Type} : List AV → (AV → Option R) → Option R := entF qbep qbjv (AV.fr true 8)
theorem qo1 {R : Type} : qd Try.prog 58 (qiz (R := R)) :=
  qz tabOk follows Try.func58 (by kernel_rfl) qbju hdeF qbhf (qn (by kernel_rfl)) fun xs => qbjt _ _ _ _ _
def qs0 (z : AV) : Option ((List AV) × Int) := cond (qgm [(.one (.sl 8)), (.one (.i .i64))] z) (some (aL (gC (tpL z) 0), aI (gC (tpL z) 1))) none
def qbhg (r : (List AV) × Int) : AV := .tup [.sl 8 r.1, .int .i64 r.2]
def qbhh : Shp := ⟨[(0, .one (.l (.sl 8))), (1, .st (lk qf))], []⟩
def qv6 (v0 : List AV) (Aq : Bool) (Ar As At : Int) : Option ((List AV) × Int) :=
  (oB (qf7 v0 Aq Ar As At) fun r1 => (bif (!r1.2) then (some (([] : List AV), (11 : Int))) else (oB (qnd v0 Aq Ar As At) fun r2 => (bif r2 then (some (([] : List AV), (25 : Int))) else (oB (qfy v0 Aq Ar As At) fun r3 => (some (r3, (0 : Int))))))))
def qo2 := hull qv6
theorem q4u : qo2 = qv6 := qj _
def qv7 : AC ((List AV) × Int) :=
  .seq (.reg [ao 3 (.box 1),
 ao 4 (.mv (.c .nils)),
 ao 5 (.mv (.c (.int .i64 0)))]) (.seq (.reg [ao 9 (.mv 0),
 ao 10 (.load true 4 3),
 .call (po 11 (.call 25 [9, 10])) 25 qgp,
 ao 8 (.mv 11),
 ao 12 (.ext 8 0),
 ao 13 (.ext 8 1),
 ao 6 (.alloc [(.bool false), (.int .u64 0), (.int .u64 0), (.int .i64 0), (.int .i64 0), (.str []), (.str []), (.int .i64 0)]),
 an (.store 8 6 12),
 ao 7 (.mv 13)]) (.seq (.seq (.reg [ao 14 (.mv 7),
 ao 15 (.un .not 14)]) (.cond 15 (.seq (.reg [ao 4 (.mv (.c .nils)),
 ao 5 (.mv (.c (.int .i64 11)))]) (.seq (.view [.eta 4 (.one (.sl 8))]) (.ret))) (.skip))) (.seq (.seq (.reg [ao 16 (.mv 0),
 ao 17 (.load true 4 3),
 .call (po 18 (.call 57 [16, 17])) 57 qun]) (.cond 18 (.seq (.reg [ao 4 (.mv (.c .nils)),
 ao 5 (.mv (.c (.int .i64 25)))]) (.seq (.view [.eta 4 (.one (.sl 8))]) (.ret))) (.skip))) (.seq (.reg [ao 19 (.mv 0),
 ao 20 (.load true 4 3),
 .callc (po 21 (.call 58 [19, 20])) 58 qiz,
 ao 4 (.mv 21),
 ao 5 (.mv (.c (.int .i64 0)))]) (.ret)))))
theorem qbjw : AC.ok Try.prog (TIof Try.prog) 22 0 (kret [.t 4, .t 5] qs0) qv7 := qm (zA (qd.ok qly) (zA (qd.ok q8l) (zA (qd.ok qo1) trivial)))
theorem qbnz (v0 : List AV) (Aq : Bool) (Ar As At : Int) : den 0 (kret [.t 4, .t 5] qs0) qv7 (qh [(0, (.sl 8 v0)), (1, .agg (qa Aq Ar As At))]) (qg []) (kend (kret [.t 4, .t 5] qs0)) = qo2 v0 Aq Ar As At := by
  rw [q4u]; kernel_rfl
theorem qbn0 : cFn (TIof Try.prog) Try.f18 = some ⟨22, [.t 4, .t 5], scOf qv7⟩ := by kernel_rfl
def qbn1 (xs : List AV) : Option ((List AV) × Int) := qe ((qk xs) 1).cells (qo2 (gL [(qk xs) 0] 0))
def q10 {R : Type} : List AV → (AV → Option R) → Option R := entF qbhh qbn1 qbhg
theorem qbn2 {R : Type} : qd Try.prog 18 (q10 (R := R)) :=
  qz tabOk follows Try.func18 (by kernel_rfl) qbn0 (fun z r h => by
 obtain ⟨h1, h2⟩ := qo h
 cases h2
 exact (qds h1).symm) qbjw (qn (by kernel_rfl)) fun xs => qbnz _ _ _ _ _
def qdj (z : AV) : Option (AV × Bool) := cond (qgm [(.st [.b, (.i .u64), (.i .u64), (.i .i64)]), (.one .b)] z) (some ((gC (tpL z) 0), aB (gC (tpL z) 1))) none
def qbn3 (r : AV × Bool) : AV := .tup [ql5 (.st [.b, (.i .u64), (.i .u64), (.i .i64)]) r.1, .bool r.2]
def q11  (v1 v2 : Int) (Ai : Bool) (Aj Ak Al : Int) (Au : Bool) (Av Aw Ax : Int) (K : Ex → Env → Mem → Option (AV × Bool)) := (fun z_v30 => K .norm (qh [(1, (.int .i64 v1)), (2, (.int .u64 v2)), (3, (.ptr 0 0)), (6, (.ptr 1 0)), (30, (.bool z_v30))]) (qg [(some (.box true (qa Ai Aj Ak Al))), (some (.box true (qa Au Av Aw Ax)))]))
def qbeq : Shp := ⟨[(1, .one (.l (.i .i64))), (2, .one (.l (.i .u64))), (3, .one (.ptr 0 0)), (6, .one (.ptr 1 0))], [.box true (lk qf), .box true (lk qf)]⟩
def qur  (v1 v2 : Int) (Ai : Bool) (Aj Ak Al : Int) (Au : Bool) (Av Aw Ax : Int) (kn : Bool → Option (AV × Bool)) : Option (AV × Bool) :=
  (oB (qgb Ai Aj Ak Al) fun r1 => (bif ((!r1) || (decide (v1 < Al))) then (kn true) else (oB (qf5 Ai) fun r2 => (kn (decide (v1 > r2))))))
def qnv := hull (qur)
theorem q12 : qnv = qur := qj _
def qo3 : AC (AV × Bool) :=
  .seq (.reg [ao 14 (.load true 4 3),
 .call (po 15 (.call 45 [14])) 45 qhn,
 ao 16 (.un .not 15),
 ao 17 (.mv 16),
 .grp 17 false [(pg 18 17 false (.mv 1)), (pg 19 17 false (.fa 3 3)), (pg 20 17 false (.load false 1 19)), (pg 21 17 false (.bin .lss 18 20))] 22 21,
 ao 23 (.mv 22),
 ag 24 23 false (.mv 1),
 ag 25 23 false (.fa 0 3),
 ag 26 23 false (.fa 0 25),
 ag 27 23 false (.load false 1 26),
 .call (pg 28 23 false (.call 82 [27])) 82 qgo,
 ag 29 23 false (.bin .gtr 24 28),
 ao 30 (.pick 23 (.c (.bool true)) 29)]) (.view [.sel [1, 2, 3, 6, 30] [0, 1]])
theorem qbhi : AC.ok Try.prog (TIof Try.prog) 78 0 (kret [(.cell 6 true 4), .t 7] qdj) qo3 := qm (zA (qd.ok qni) (zA (qd.ok qlq) trivial))
theorem qbjx (v1 v2 : Int) (Ai : Bool) (Aj Ak Al : Int) (Au : Bool) (Av Aw Ax : Int) (K : Ex → Env → Mem → Option (AV × Bool)) : den 0 (kret [(.cell 6 true 4), .t 7] qdj) qo3 (qh [(1, (.int .i64 v1)), (2, (.int .u64 v2)), (3, (.ptr 0 0)), (6, (.ptr 1 0))]) (qg [(some (.box true (qa Ai Aj Ak Al))), (some (.box true (qa Au Av Aw Ax)))]) K = qnv v1 v2 Ai Aj Ak Al Au Av Aw Ax (q11 v1 v2 Ai Aj Ak Al Au Av Aw Ax K) := by
  rw [q12]; kernel_rfl
def q4v := subE (R := AV × Bool) qbeq fun t m K => qe (bxC (m.s 1)) (qe (bxC (m.s 0)) (qnv (gI [t 1] 0) (gI [t 2] 0))) (q11 (gI [t 1] 0) (gI [t 2] 0) (gB (bxC (m.s 0)) 0) (gI (bxC (m.s 0)) 1) (gI (bxC (m.s 0)) 2) (gI (bxC (m.s 0)) 3) (gB (bxC (m.s 1)) 0) (gI (bxC (m.s 1)) 1) (gI (bxC (m.s 1)) 2) (gI (bxC (m.s 1)) 3) K)
theorem qbjy : qca Try.prog (TIof Try.prog) 78 0 (kret [(.cell 6 true 4), .t 7] qdj) (scOf qo3) (q4v) :=
  qet tabOk follows (qbhi) (qn (by kernel_rfl)) fun t m K => qbjx _ _ _ _ _ _ _ _ _ _ K
def ql1  (v1 : Int) (Ai : Bool) (Aj Ak Al : Int) (Au : Bool) (Av Aw Ax : Int) (K : Ex → Env → Mem → Option (AV × Bool)) := (fun z_v10 z_v11 => K (.exit 0) (qh [(1, (.int .i64 v1)), (3, (.ptr 0 0)), (6, (.ptr 1 0)), (10, (.int .u64 z_v10)), (11, (.int .u64 z_v11))]) (qg [(some (.box true (qa Ai Aj Ak Al))), (some (.box true (qa Au Av Aw Ax)))]))
def qbcl : Shp := ⟨[(1, .one (.l (.i .i64))), (3, .one (.ptr 0 0)), (6, .one (.ptr 1 0)), (10, .one (.l (.i .u64))), (11, .one (.l (.i .u64))), (12, .one (.l (.i .i64)))], [.box true (lk qf), .box true (lk qf)]⟩
def qro (v1 v10 v11 v12 : Int) (Ai : Bool) (Aj Ak Al : Int) (Au : Bool) (Av Aw Ax : Int) : Env := qh [(1, (.int .i64 v1)), (3, (.ptr 0 0)), (6, (.ptr 1 0)), (10, (.int .u64 v10)), (11, (.int .u64 v11)), (12, (.int .i64 v12))]
def qrp (v1 v10 v11 v12 : Int) (Ai : Bool) (Aj Ak Al : Int) (Au : Bool) (Av Aw Ax : Int) : Mem := qg [(some (.box true (qa Ai Aj Ak Al))), (some (.box true (qa Au Av Aw Ax)))]
def qkh  (v1 v10 v11 v12 : Int) (Ai : Bool) (Aj Ak Al : Int) (Au : Bool) (Av Aw Ax : Int) (next : Int → Int → Int → Option (AV × Bool)) (kx0 : Int → Int → Option (AV × Bool)) : Option (AV × Bool) :=
  (oB (qf5 Ai) fun r1 => (bif (decide (v12 < r1)) then (next (IntKind.u64.wrap ((IntKind.u64.wrap (v10 * (2 : Int))) + (IntKind.u64.wrap (v11.tdiv (9223372036854775808 : Int))))) (IntKind.u64.wrap (v11 * (2 : Int))) (IntKind.i64.wrap (v12 + (1 : Int)))) else (kx0 v10 v11)))
def qg0  (v1 : Int) (Ai : Bool) (Aj Ak Al : Int) (Au : Bool) (Av Aw Ax : Int) (kx0 : Int → Int → Option (AV × Bool)) : Nat → Int → Int → Int → Option (AV × Bool)
  | 0 => (fun _ _ _ => none)
  | n + 1 => (fun v10 v11 v12 => qkh v1 v10 v11 v12 Ai Aj Ak Al Au Av Aw Ax (qg0 v1 Ai Aj Ak Al Au Av Aw Ax kx0 n) kx0)
def qp0 := hull (qg0)
theorem q0d : qp0 = qg0 := qj _
def qg1 : AC (AV × Bool) :=
  .seq (.seq (.reg [ao 46 (.mv 12),
 ao 47 (.fa 0 3),
 ao 48 (.fa 0 47),
 ao 49 (.load false 1 48),
 .call (po 50 (.call 82 [49])) 82 qgo,
 ao 51 (.bin .lss 46 50)]) (.cond 51 (.skip) (.seq (.view [.sel [1, 3, 6, 10, 11] [0, 1]]) (.exit 0)))) (.seq (.block 1 (.seq (.reg [ao 54 (.mv 10),
 ao 55 (.bin .mul 54 (.c (.int .u64 2))),
 ao 56 (.mv 11),
 ao 57 (.bin .quo 56 (.c (.int .u64 9223372036854775808))),
 ao 58 (.bin .add 55 57),
 ao 10 (.mv 58)]) (.reg [ao 59 (.mv 11),
 ao 60 (.bin .mul 59 (.c (.int .u64 2))),
 ao 11 (.mv 60)]))) (.seq (.reg [ao 52 (.mv 12),
 ao 53 (.bin .add 52 (.c (.int .i64 1))),
 ao 12 (.mv 53)]) (.view [.sel [1, 3, 6, 10, 11, 12] [0, 1]])))
theorem qber : AC.ok Try.prog (TIof Try.prog) 78 0 (kret [(.cell 6 true 4), .t 7] qdj) qg1 := qm (zA (qd.ok qlq) trivial)
theorem qbcm (v1 v10 v11 v12 : Int) (Ai : Bool) (Aj Ak Al : Int) (Au : Bool) (Av Aw Ax : Int) (K : Ex → Env → Mem → Option (AV × Bool)) : den 0 (kret [(.cell 6 true 4), .t 7] qdj) qg1 (qro v1 v10 v11 v12 Ai Aj Ak Al Au Av Aw Ax) (qrp v1 v10 v11 v12 Ai Aj Ak Al Au Av Aw Ax) K = qkh v1 v10 v11 v12 Ai Aj Ak Al Au Av Aw Ax (fun z_v10 z_v11 z_v12 => K .norm (qro v1 z_v10 z_v11 z_v12 Ai Aj Ak Al Au Av Aw Ax) (qrp v1 z_v10 z_v11 z_v12 Ai Aj Ak Al Au Av Aw Ax)) (ql1 v1 Ai Aj Ak Al Au Av Aw Ax K) := by kernel_rfl
theorem qbhj (v1 : Int) (Ai : Bool) (Aj Ak Al : Int) (Au : Bool) (Av Aw Ax : Int) (K : Ex → Env → Mem → Option (AV × Bool)) : ∀ (n : Nat) (v10 v11 v12 : Int), qe5 (den 0 (kret [(.cell 6 true 4), .t 7] qdj) qg1) n (qro v1 v10 v11 v12 Ai Aj Ak Al Au Av Aw Ax) (qrp v1 v10 v11 v12 Ai Aj Ak Al Au Av Aw Ax) K = qp0 v1 Ai Aj Ak Al Au Av Aw Ax (ql1 v1 Ai Aj Ak Al Au Av Aw Ax K) n v10 v11 v12 := by
  rw [q0d]
  intro n
  induction n with
  | zero => intros; rfl
  | succ n ih =>
 intro v10 v11 v12
 exact (qbcm v1 v10 v11 v12 Ai Aj Ak Al Au Av Aw Ax (itK (den 0 (kret [(.cell 6 true 4), .t 7] qdj) qg1) n K)).trans (congrArg (fun q => qkh v1 v10 v11 v12 Ai Aj Ak Al Au Av Aw Ax q (ql1 v1 Ai Aj Ak Al Au Av Aw Ax K)) (funext fun v10 => funext fun v11 => funext fun v12 => ih v10 v11 v12))
def q13 := subE (R := AV × Bool) qbcl fun t m K => qe (bxC (m.s 1)) (qe (bxC (m.s 0)) (qp0 (gI [t 1] 0))) (ql1 (gI [t 1] 0) (gB (bxC (m.s 0)) 0) (gI (bxC (m.s 0)) 1) (gI (bxC (m.s 0)) 2) (gI (bxC (m.s 0)) 3) (gB (bxC (m.s 1)) 0) (gI (bxC (m.s 1)) 1) (gI (bxC (m.s 1)) 2) (gI (bxC (m.s 1)) 3) K) FU (gI [t 10] 0) (gI [t 11] 0) (gI [t 12] 0)
theorem qbhk : qca Try.prog (TIof Try.prog) 78 0 (kret [(.cell 6 true 4), .t 7] qdj) (.loop (scOf qg1)) (q13) :=
  qen tabOk follows (qber) (qn (by kernel_rfl)) fun t m K => qbhj _ _ _ _ _ _ _ _ _ K FU _ _ _
def qbn4 : Shp := ⟨[(0, .st (lk qf)), (1, .one (.l (.i .i64))), (2, .one (.l (.i .u64)))], []⟩
def q0e (Aa : Bool) (Ab Ac Ad v1 v2 : Int) : Option (AV × Bool) :=
  (qnv v1 v2 Aa Ab Ac Ad false (0 : Int) (0 : Int) (0 : Int) (fun v30q1 => (bif v30q1 then (some ((.agg [(.bool false), (.int .u64 (0 : Int)), (.int .u64 (0 : Int)), (.int .i64 (0 : Int))]), false)) else (oB (ql8 (IntKind.i64.wrap (v1 - Ad))) fun r2 => (bif (decide (v2 > r2.2)) then (some ((.agg [(.bool false), (.int .u64 (0 : Int)), (.int .u64 (0 : Int)), (.int .i64 (0 : Int))]), false)) else (qp0 v1 Aa Ab Ac Ad false (0 : Int) (0 : Int) (0 : Int) (fun v10q3 v11q4 => (some ((.agg [(.bool Aa), (.int .u64 (IntKind.u64.wrap (Ab + v10q3))), (.int .u64 (IntKind.u64.wrap (Ac + v11q4))), (.int .i64 v1)]), true))) FU (0 : Int) v2 v1))))))
def qmc := hull q0e
theorem q8m : qmc = q0e := qj _
def q0f : AC (AV × Bool) :=
  .seq (.reg [ao 3 (.box 0),
 ao 6 (.alloc [(.bool false), (.int .u64 0), (.int .u64 0), (.int .i64 0)]),
 ao 7 (.mv (.c (.bool false)))]) (.seq (.seq (.seq (.view [.sel [1, 2, 3, 6] [0, 1]]) (.sub (scOf qo3) q4v)) (.cond 30 (.seq (.reg [ao 31 (.build [(.bool false), (.int .u64 0), (.int .u64 0), (.int .i64 0)] []),
 an (.store 4 6 31),
 ao 7 (.mv (.c (.bool false)))]) (.ret)) (.skip))) (.seq (.reg [ao 33 (.mv 1),
 ao 34 (.fa 3 3),
 ao 35 (.load false 1 34),
 ao 36 (.bin .sub 33 35),
 .call (po 37 (.call 83 [36])) 83 qpo,
 ao 32 (.mv 37),
 ao 38 (.ext 32 0),
 ao 39 (.ext 32 1),
 ao 8 (.mv 38),
 ao 9 (.mv 39)]) (.seq (.seq (.reg [ao 40 (.mv 2),
 ao 41 (.mv 9),
 ao 42 (.bin .gtr 40 41)]) (.cond 42 (.seq (.reg [ao 43 (.build [(.bool false), (.int .u64 0), (.int .u64 0), (.int .i64 0)] []),
 an (.store 4 6 43),
 ao 7 (.mv (.c (.bool false)))]) (.ret)) (.skip))) (.seq (.reg [ao 44 (.mv 2),
 ao 10 (.mv (.c (.int .u64 0))),
 ao 11 (.mv 44)]) (.seq (.seq (.reg [ao 45 (.mv 1),
 ao 12 (.mv 45)]) (.block 0 (.seq (.view [.sel [1, 3, 6, 10, 11, 12] [0, 1]]) (.sub (.loop (scOf qg1)) q13)))) (.seq (.reg [ao 61 (.fa 0 3),
 ao 62 (.fa 0 61),
 ao 63 (.load false 1 62),
 ao 64 (.fa 0 3),
 ao 65 (.fa 1 64),
 ao 66 (.load false 1 65),
 ao 67 (.mv 10),
 ao 68 (.bin .add 66 67),
 ao 69 (.fa 0 3),
 ao 70 (.fa 2 69),
 ao 71 (.load false 1 70),
 ao 72 (.mv 11),
 ao 73 (.bin .add 71 72),
 ao 74 (.build [(.bool false), (.int .u64 0), (.int .u64 0)] [(0, (1, 63)), (1, (1, 68)), (2, (1, 73))]),
 ao 13 (.alloc [(.bool false), (.int .u64 0), (.int .u64 0)]),
 an (.store 3 13 74)]) (.seq (.reg [ao 75 (.load true 3 13),
 ao 76 (.mv 1),
 ao 77 (.build [(.bool false), (.int .u64 0), (.int .u64 0), (.int .i64 0)] [(0, (3, 75)), (3, (1, 76))]),
 an (.store 4 6 77),
 ao 7 (.mv (.c (.bool true)))]) (.ret))))))))
theorem qbqy : AC.ok Try.prog (TIof Try.prog) 78 0 (kret [(.cell 6 true 4), .t 7] qdj) q0f := qm (zA qbjy (zA (qd.ok qzd) (zA qbhk trivial)))
theorem qbta (Aa : Bool) (Ab Ac Ad v1 v2 : Int) : den 0 (kret [(.cell 6 true 4), .t 7] qdj) q0f (qh [(0, .agg (qa Aa Ab Ac Ad)), (1, (.int .i64 v1)), (2, (.int .u64 v2))]) (qg []) (kend (kret [(.cell 6 true 4), .t 7] qdj)) = qmc Aa Ab Ac Ad v1 v2 := by
  rw [q8m]; kernel_rfl
theorem qbtb : cFn (TIof Try.prog) Try.f97 = some ⟨78, [(.cell 6 true 4), .t 7], scOf q0f⟩ := by kernel_rfl
def qbtc (xs : List AV) : Option (AV × Bool) := qe ((qk xs) 0).cells (qmc) (gI [(qk xs) 1] 0) (gI [(qk xs) 2] 0)
def qv8 {R : Type} : List AV → (AV → Option R) → Option R := entF qbn4 qbtc qbn3
theorem q96 {R : Type} : qd Try.prog 97 (qv8 (R := R)) :=
  qz tabOk follows Try.func97 (by kernel_rfl) qbtb (fun z r h => by
 obtain ⟨h1, h2⟩ := qo h
 cases h2
 exact (qds h1).symm) qbqy (qn (by kernel_rfl)) fun xs => qbta _ _ _ _ _ _
def qs1 (z : AV) : Option (AV × AV × Bool) := cond (qgm [(.st [.b, (.i .u64), (.i .u64), (.i .i64)]), (.st [.b, (.i .u64), (.i .u64), (.i .i64)]), (.one .b)] z) (some ((gC (tpL z) 0), (gC (tpL z) 1), aB (gC (tpL z) 2))) none
def qbhl (r : AV × AV × Bool) : AV := .tup [ql5 (.st [.b, (.i .u64), (.i .u64), (.i .i64)]) r.1, ql5 (.st [.b, (.i .u64), (.i .u64), (.i .i64)]) r.2.1, .bool r.2.2]
def qbhm : Shp := ⟨[(0, .st (lk qf))], []⟩
def qv9 (Aa : Bool) (Ab Ac Ad : Int) : Option (AV × AV × Bool) :=
  (oB (qmc Aa Ab Ac Ad (IntKind.i64.wrap (Ad + (1 : Int))) (0 : Int)) fun r1 => (oB (qmc Aa Ab Ac Ad (IntKind.i64.wrap (Ad + (1 : Int))) (1 : Int)) fun r2 => (bif (!r2.2) then (some ((.agg [(.bool false), (.int .u64 (0 : Int)), (.int .u64 (0 : Int)), (.int .i64 (0 : Int))]), (.agg [(.bool false), (.int .u64 (0 : Int)), (.int .u64 (0 : Int)), (.int .i64 (0 : Int))]), false)) else (some ((.agg [(.bool (gB r1.1.cells 0)), (.int .u64 (gI r1.1.cells 1)), (.int .u64 (gI r1.1.cells 2)), (.int .i64 (gI r1.1.cells 3))]), (.agg [(.bool (gB r2.1.cells 0)), (.int .u64 (gI r2.1.cells 1)), (.int .u64 (gI r2.1.cells 2)), (.int .i64 (gI r2.1.cells 3))]), true)))))
def ql2 := hull qv9
theorem q4w : ql2 = qv9 := qj _
def qwa : AC (AV × AV × Bool) :=
  .seq (.reg [ao 1 (.box 0),
 ao 2 (.alloc [(.bool false), (.int .u64 0), (.int .u64 0), (.int .i64 0)]),
 ao 3 (.alloc [(.bool false), (.int .u64 0), (.int .u64 0), (.int .i64 0)]),
 ao 4 (.mv (.c (.bool false)))]) (.seq (.reg [ao 10 (.load true 4 1),
 ao 11 (.fa 3 1),
 ao 12 (.load false 1 11),
 ao 13 (.bin .add 12 (.c (.int .i64 1))),
 .call (po 14 (.call 97 [10, 13, (.c (.int .u64 0))])) 97 qv8,
 ao 9 (.mv 14),
 ao 15 (.ext 9 0),
 ao 16 (.ext 9 1),
 ao 5 (.alloc [(.bool false), (.int .u64 0), (.int .u64 0), (.int .i64 0)]),
 an (.store 4 5 15),
 ao 6 (.mv 16)]) (.seq (.reg [ao 18 (.load true 4 1),
 ao 19 (.fa 3 1),
 ao 20 (.load false 1 19),
 ao 21 (.bin .add 20 (.c (.int .i64 1))),
 .call (po 22 (.call 97 [18, 21, (.c (.int .u64 1))])) 97 qv8,
 ao 17 (.mv 22),
 ao 23 (.ext 17 0),
 ao 24 (.ext 17 1),
 ao 7 (.alloc [(.bool false), (.int .u64 0), (.int .u64 0), (.int .i64 0)]),
 an (.store 4 7 23),
 ao 8 (.mv 24)]) (.seq (.seq (.reg [ao 25 (.mv 8),
 ao 26 (.un .not 25)]) (.cond 26 (.seq (.reg [ao 27 (.build [(.bool false), (.int .u64 0), (.int .u64 0), (.int .i64 0)] []),
 ao 28 (.build [(.bool false), (.int .u64 0), (.int .u64 0), (.int .i64 0)] []),
 an (.store 4 2 27),
 an (.store 4 3 28),
 ao 4 (.mv (.c (.bool false)))]) (.ret)) (.skip))) (.seq (.draw [] [ao 29 (.load true 4 5),
 ao 30 (.load true 4 7),
 an (.held [] [((.c (.bool true)), 7), (2, 7), (3, 7)])] [an (.store 4 2 29),
 an (.store 4 3 30),
 ao 4 (.mv (.c (.bool true)))]) (.ret)))))
theorem qbjz : AC.ok Try.prog (TIof Try.prog) 31 0 (kret [(.cell 2 true 4), (.cell 3 true 4), .t 4] qs1) qwa := qm (zA (qd.ok q96) (zA (qd.ok q96) (zA rfl trivial)))
theorem qbn5 (Aa : Bool) (Ab Ac Ad : Int) : den 0 (kret [(.cell 2 true 4), (.cell 3 true 4), .t 4] qs1) qwa (qh [(0, .agg (qa Aa Ab Ac Ad))]) (qg []) (kend (kret [(.cell 2 true 4), (.cell 3 true 4), .t 4] qs1)) = ql2 Aa Ab Ac Ad := by
  rw [q4w]; kernel_rfl
theorem qbn6 : cFn (TIof Try.prog) Try.f60 = some ⟨31, [(.cell 2 true 4), (.cell 3 true 4), .t 4], scOf qwa⟩ := by kernel_rfl
def qbn7 (xs : List AV) : Option (AV × AV × Bool) := qe ((qk xs) 0).cells (ql2)
def qs2 {R : Type} : List AV → (AV → Option R) → Option R := entF qbhm qbn7 qbhl
theorem q6v {R : Type} : qd Try.prog 60 (qs2 (R := R)) :=
  qz tabOk follows Try.func60 (by kernel_rfl) qbn6 (fun z r h => by
 obtain ⟨h1, h2⟩ := qo h
 cases h2
 exact (qds h1).symm) qbjz (qn (by kernel_rfl)) fun xs => qbn5 _ _ _ _
def qus (z : AV) : Option ((List AV) × Int) := cond (qgm [(.one (.sl 8)), (.one (.i .i64))] z) (some (aL (gC (tpL z) 0), aI (gC (tpL z) 1))) none
def qbj0 (r : (List AV) × Int) : AV := .tup [.sl 8 r.1, .int .i64 r.2]
def qbj1 : Shp := ⟨[(0, .one (.l (.sl 8))), (1, .st (lk qf))], []⟩
def qx0 (v0 : List AV) (Aq : Bool) (Ar As At : Int) : Option ((List AV) × Int) :=
  (oB (qf7 v0 Aq Ar As At) fun r1 => (bif (!r1.2) then (some (([] : List AV), (11 : Int))) else (oB (ql2 Aq Ar As At) fun r2 => (bif (!r2.2.2) then (some (([] : List AV), (21 : Int))) else (oB (qnd v0 Aq Ar As At) fun r3 => (bif r3 then (some (([] : List AV), (25 : Int))) else (bif (decide ((IntKind.i64.wrap (((gS r1.1.cells 5).length : Int) + (2 : Int))) > (63 : Int))) then (some (([] : List AV), (1 : Int))) else (bif (decide ((v0.length : Int) ≥ (512 : Int))) then (some (([] : List AV), (9 : Int))) else (bif decide ((gS r1.1.cells 5).length + ([45, 48] : List UInt8).length ≤ 9223372036854775807) then (bif decide ((gS r1.1.cells 5).length + ([45, 49] : List UInt8).length ≤ 9223372036854775807) then (oB (qfy v0 Aq Ar As At) fun r4 => (oB (qiy r4 (gB r2.1.cells 0) (gI r2.1.cells 1) (gI r2.1.cells 2) (gI r2.1.cells 3) (gI r1.1.cells 4) ((gS r1.1.cells 5) ++ ([45, 48] : List UInt8)) (gS r1.1.cells 6) (gI r1.1.cells 7)) fun r5 => (oB (qiy r5 (gB r2.2.1.cells 0) (gI r2.2.1.cells 1) (gI r2.2.1.cells 2) (gI r2.2.1.cells 3) (gI r1.1.cells 4) ((gS r1.1.cells 5) ++ ([45, 49] : List UInt8)) (gS r1.1.cells 6) (gI r1.1.cells 7)) fun r6 => (some (r6, (0 : Int)))))) else none) else none)))))))))
def qql := hull qx0
theorem q6w : qql = qx0 := qj _
def qx1 : AC ((List AV) × Int) :=
  .seq (.reg [ao 3 (.box 1),
 ao 4 (.mv (.c .nils)),
 ao 5 (.mv (.c (.int .i64 0)))]) (.seq (.reg [ao 14 (.mv 0),
 ao 15 (.load true 4 3),
 .call (po 16 (.call 25 [14, 15])) 25 qgp,
 ao 13 (.mv 16),
 ao 17 (.ext 13 0),
 ao 18 (.ext 13 1),
 ao 6 (.alloc [(.bool false), (.int .u64 0), (.int .u64 0), (.int .i64 0), (.int .i64 0), (.str []), (.str []), (.int .i64 0)]),
 an (.store 8 6 17),
 ao 7 (.mv 18)]) (.seq (.seq (.reg [ao 19 (.mv 7),
 ao 20 (.un .not 19)]) (.cond 20 (.seq (.reg [ao 4 (.mv (.c .nils)),
 ao 5 (.mv (.c (.int .i64 11)))]) (.seq (.view [.eta 4 (.one (.sl 8))]) (.ret))) (.skip))) (.seq (.reg [ao 22 (.load true 4 3),
 .call (po 23 (.call 60 [22])) 60 qs2,
 ao 21 (.mv 23),
 ao 24 (.ext 21 0),
 ao 25 (.ext 21 1),
 ao 26 (.ext 21 2),
 ao 8 (.alloc [(.bool false), (.int .u64 0), (.int .u64 0), (.int .i64 0)]),
 ao 9 (.alloc [(.bool false), (.int .u64 0), (.int .u64 0), (.int .i64 0)]),
 an (.store 4 8 24),
 an (.store 4 9 25),
 ao 10 (.mv 26)]) (.seq (.seq (.reg [ao 27 (.mv 10),
 ao 28 (.un .not 27)]) (.cond 28 (.seq (.reg [ao 4 (.mv (.c .nils)),
 ao 5 (.mv (.c (.int .i64 21)))]) (.seq (.view [.eta 4 (.one (.sl 8))]) (.ret))) (.skip))) (.seq (.seq (.reg [ao 29 (.mv 0),
 ao 30 (.load true 4 3),
 .call (po 31 (.call 57 [29, 30])) 57 qun]) (.cond 31 (.seq (.reg [ao 4 (.mv (.c .nils)),
 ao 5 (.mv (.c (.int .i64 25)))]) (.seq (.view [.eta 4 (.one (.sl 8))]) (.ret))) (.skip))) (.seq (.seq (.reg [ao 32 (.fa 5 6),
 ao 33 (.load false 1 32),
 ao 34 (.len true 33),
 ao 35 (.bin .add 34 (.c (.int .i64 2))),
 ao 36 (.bin .gtr 35 (.c (.int .i64 63)))]) (.cond 36 (.seq (.reg [ao 4 (.mv (.c .nils)),
 ao 5 (.mv (.c (.int .i64 1)))]) (.seq (.view [.eta 4 (.one (.sl 8))]) (.ret))) (.skip))) (.seq (.seq (.reg [ao 37 (.mv 0),
 ao 38 (.len false 37),
 ao 39 (.bin .geq 38 (.c (.int .i64 512)))]) (.cond 39 (.seq (.reg [ao 4 (.mv (.c .nils)),
 ao 5 (.mv (.c (.int .i64 9)))]) (.seq (.view [.eta 4 (.one (.sl 8))]) (.ret))) (.skip))) (.seq (.reg [ao 40 (.load true 8 6),
 ao 11 (.alloc [(.bool false), (.int .u64 0), (.int .u64 0), (.int .i64 0), (.int .i64 0), (.str []), (.str []), (.int .i64 0)]),
 an (.store 8 11 40)]) (.seq (.reg [ao 41 (.load true 4 8),
 ao 42 (.fa 0 11),
 an (.store 4 42 41)]) (.seq (.reg [ao 43 (.fa 5 6),
 ao 44 (.load false 1 43),
 ao 45 (.bin .add 44 (.c (.str [45, 48]))),
 ao 46 (.fa 5 11),
 an (.store 1 46 45)]) (.seq (.reg [ao 47 (.load true 8 6),
 ao 12 (.alloc [(.bool false), (.int .u64 0), (.int .u64 0), (.int .i64 0), (.int .i64 0), (.str []), (.str []), (.int .i64 0)]),
 an (.store 8 12 47)]) (.seq (.reg [ao 48 (.load true 4 9),
 ao 49 (.fa 0 12),
 an (.store 4 49 48)]) (.seq (.reg [ao 50 (.fa 5 6),
 ao 51 (.load false 1 50),
 ao 52 (.bin .add 51 (.c (.str [45, 49]))),
 ao 53 (.fa 5 12),
 an (.store 1 53 52)]) (.seq (.draw [] [ao 54 (.mv 0),
 ao 55 (.load true 4 3),
 .call (po 56 (.call 58 [54, 55])) 58 qiz,
 ao 57 (.load true 8 11),
 .call (po 58 (.call 55 [56, 57])) 55 qnt,
 ao 59 (.load true 8 12)] [.callc (po 60 (.call 55 [58, 59])) 55 qnt,
 ao 4 (.mv 60),
 ao 5 (.mv (.c (.int .i64 0)))]) (.ret)))))))))))))))
theorem qbn8 : AC.ok Try.prog (TIof Try.prog) 61 0 (kret [.t 4, .t 5] qus) qx1 := qm (zA (qd.ok qly) (zA (qd.ok q6v) (zA (qd.ok q8l) (zA (qd.ok qo1) (zA (qd.ok qu5) (zA (qd.ok qu5) (zA rfl trivial)))))))
theorem qbqz (v0 : List AV) (Aq : Bool) (Ar As At : Int) : den 0 (kret [.t 4, .t 5] qus) qx1 (qh [(0, (.sl 8 v0)), (1, .agg (qa Aq Ar As At))]) (qg []) (kend (kret [.t 4, .t 5] qus)) = qql v0 Aq Ar As At := by
  rw [q6w]; kernel_rfl
theorem qbq0 : cFn (TIof Try.prog) Try.f21 = some ⟨61, [.t 4, .t 5], scOf qx1⟩ := by kernel_rfl
def qbq1 (xs : List AV) : Option ((List AV) × Int) := qe ((qk xs) 1).cells (qql (gL [(qk xs) 0] 0))
def q4x {R : Type} : List AV → (AV → Option R) → Option R := entF qbj1 qbq1 qbj0
theorem qbq2 {R : Type} : qd Try.prog 21 (q4x (R := R)) :=
  qz tabOk follows Try.func21 (by kernel_rfl) qbq0 (fun z r h => by
 obtain ⟨h1, h2⟩ := qo h
 cases h2
 exact (qds h1).symm) qbn8 (qn (by kernel_rfl)) fun xs => qbqz _ _ _ _ _
def qew (z : AV) : Option ((List AV) × Int) := cond (qgm [(.one (.sl 8)), (.one (.i .i64))] z) (some (aL (gC (tpL z) 0), aI (gC (tpL z) 1))) none
def qbn9 (r : (List AV) × Int) : AV := .tup [.sl 8 r.1, .int .i64 r.2]
def q0g  (v0 : List AV) (v15 : Int) (Ai : Bool) (Aj Ak Al : Int) (Au : Bool) (Av Aw Ax : Int) (A2 : Bool) (A3 A4 A5 : Int) (A6 : Bool) (A7 A8 A9 Ba : Int) (Bd Bb : List UInt8) (Bc : Int) (K : Ex → Env → Mem → Option ((List AV) × Int)) := (fun z_v85 => K .norm (qh [(0, (.sl 8 v0)), (3, (.ptr 0 0)), (6, (.ptr 1 0)), (7, (.ptr 2 0)), (9, (.ptr 3 0)), (15, (.int .i64 v15)), (85, (.bool z_v85))]) (qg [(some (.box true (qa Ai Aj Ak Al))), (some (.box true (qa Au Av Aw Ax))), (some (.box true (qa A2 A3 A4 A5))), (some (.box true (qc A6 A7 A8 A9 Ba Bd Bb Bc)))]))
def qbcn : Shp := ⟨[(0, .one (.l (.sl 8))), (3, .one (.ptr 0 0)), (6, .one (.ptr 1 0)), (7, .one (.ptr 2 0)), (9, .one (.ptr 3 0)), (15, .one (.l (.i .i64)))], [.box true (lk qf), .box true (lk qf), .box true (lk qf), .box true (lk qb)]⟩
def qs3  (v0 : List AV) (v15 : Int) (Ai : Bool) (Aj Ak Al : Int) (Au : Bool) (Av Aw Ax : Int) (A2 : Bool) (A3 A4 A5 : Int) (A6 : Bool) (A7 A8 A9 Ba : Int) (Bd Bb : List UInt8) (Bc : Int) (kn : Bool → Option ((List AV) × Int)) : Option ((List AV) × Int) :=
  (bif (decide (v15 > (2 : Int))) then (oB (cutI Bd (some (IntKind.i64.wrap (v15 - (2 : Int)))) none) fun s1 => (kn (s1 == ([45, 48] : List UInt8)))) else (kn false))
def qp1 := hull (qs3)
theorem q0h : qp1 = qs3 := qj _
def qn6 : AC ((List AV) × Int) :=
  .seq (.reg [ao 76 (.mv 15),
 ao 77 (.bin .gtr 76 (.c (.int .i64 2))),
 ao 78 (.mv 77),
 ag 79 78 true (.fa 5 9),
 ag 80 78 true (.load false 1 79),
 ag 81 78 true (.mv 15),
 ag 82 78 true (.bin .sub 81 (.c (.int .i64 2))),
 ag 83 78 true (.slcs 80 (some 82) none),
 ag 84 78 true (.bin .eql 83 (.c (.str [45, 48]))),
 ao 85 (.pick 78 84 (.c (.bool false)))]) (.view [.sel [0, 3, 6, 7, 9, 15, 85] [0, 1, 2, 3]])
theorem qbes : AC.ok Try.prog (TIof Try.prog) 101 0 (kret [.t 4, .t 5] qew) qn6 := qm trivial
theorem qbhn (v0 : List AV) (v15 : Int) (Ai : Bool) (Aj Ak Al : Int) (Au : Bool) (Av Aw Ax : Int) (A2 : Bool) (A3 A4 A5 : Int) (A6 : Bool) (A7 A8 A9 Ba : Int) (Bd Bb : List UInt8) (Bc : Int) (K : Ex → Env → Mem → Option ((List AV) × Int)) : den 0 (kret [.t 4, .t 5] qew) qn6 (qh [(0, (.sl 8 v0)), (3, (.ptr 0 0)), (6, (.ptr 1 0)), (7, (.ptr 2 0)), (9, (.ptr 3 0)), (15, (.int .i64 v15))]) (qg [(some (.box true (qa Ai Aj Ak Al))), (some (.box true (qa Au Av Aw Ax))), (some (.box true (qa A2 A3 A4 A5))), (some (.box true (qc A6 A7 A8 A9 Ba Bd Bb Bc)))]) K = qp1 v0 v15 Ai Aj Ak Al Au Av Aw Ax A2 A3 A4 A5 A6 A7 A8 A9 Ba Bd Bb Bc (q0g v0 v15 Ai Aj Ak Al Au Av Aw Ax A2 A3 A4 A5 A6 A7 A8 A9 Ba Bd Bb Bc K) := by
  rw [q0h]; kernel_rfl
def q14 := subE (R := (List AV) × Int) qbcn fun t m K => qi (bxC (m.s 3)) (qe (bxC (m.s 2)) (qe (bxC (m.s 1)) (qe (bxC (m.s 0)) (qp1 (gL [t 0] 0) (gI [t 15] 0))))) (q0g (gL [t 0] 0) (gI [t 15] 0) (gB (bxC (m.s 0)) 0) (gI (bxC (m.s 0)) 1) (gI (bxC (m.s 0)) 2) (gI (bxC (m.s 0)) 3) (gB (bxC (m.s 1)) 0) (gI (bxC (m.s 1)) 1) (gI (bxC (m.s 1)) 2) (gI (bxC (m.s 1)) 3) (gB (bxC (m.s 2)) 0) (gI (bxC (m.s 2)) 1) (gI (bxC (m.s 2)) 2) (gI (bxC (m.s 2)) 3) (gB (bxC (m.s 3)) 0) (gI (bxC (m.s 3)) 1) (gI (bxC (m.s 3)) 2) (gI (bxC (m.s 3)) 3) (gI (bxC (m.s 3)) 4) (gS (bxC (m.s 3)) 5) (gS (bxC (m.s 3)) 6) (gI (bxC (m.s 3)) 7) K)
theorem qbho : qca Try.prog (TIof Try.prog) 101 0 (kret [.t 4, .t 5] qew) (scOf qn6) (q14) :=
  qet tabOk follows (qbes) (qn (by kernel_rfl)) fun t m K => qbhn _ _ _ _ _ _ _ _ _ _ _ _ _ _ _ _ _ _ _ _ _ _ K
def q0i  (v0 : List AV) (Ai : Bool) (Aj Ak Al : Int) (Au : Bool) (Av Aw Ax : Int) (A2 : Bool) (A3 A4 A5 : Int) (A6 : Bool) (A7 A8 A9 Ba : Int) (Bb : List UInt8) (Bc : Int) (K : Ex → Env → Mem → Option ((List AV) × Int)) := (fun z_b3_5 => K .norm (qh [(0, (.sl 8 v0)), (3, (.ptr 0 0)), (6, (.ptr 1 0)), (7, (.ptr 2 0)), (9, (.ptr 3 0))]) (qg [(some (.box true (qa Ai Aj Ak Al))), (some (.box true (qa Au Av Aw Ax))), (some (.box true (qa A2 A3 A4 A5))), (some (.box true (qc A6 A7 A8 A9 Ba z_b3_5 Bb Bc)))]))
def qbco : Shp := ⟨[(0, .one (.l (.sl 8))), (3, .one (.ptr 0 0)), (6, .one (.ptr 1 0)), (7, .one (.ptr 2 0)), (9, .one (.ptr 3 0)), (15, .one (.l (.i .i64)))], [.box true (lk qf), .box true (lk qf), .box true (lk qf), .box true (lk qb)]⟩
def qs4  (v0 : List AV) (v15 : Int) (Ai : Bool) (Aj Ak Al : Int) (Au : Bool) (Av Aw Ax : Int) (A2 : Bool) (A3 A4 A5 : Int) (A6 : Bool) (A7 A8 A9 Ba : Int) (Bd Bb : List UInt8) (Bc : Int) (kn : (List UInt8) → Option ((List AV) × Int)) : Option ((List AV) × Int) :=
  (qp1 v0 v15 Ai Aj Ak Al Au Av Aw Ax A2 A3 A4 A5 A6 A7 A8 A9 Ba Bd Bb Bc (fun v85q1 => (bif v85q1 then (oB (cutI Bd none (some (IntKind.i64.wrap (v15 - (2 : Int))))) fun s2 => (kn s2)) else (kn Bd))))
def qmm := hull (qs4)
theorem q0j : qmm = qs4 := qj _
def qn7 : AC ((List AV) × Int) :=
  .seq (.seq (.view [.sel [0, 3, 6, 7, 9, 15] [0, 1, 2, 3]]) (.sub (scOf qn6) q14)) (.cond 85 (.seq (.reg [ao 86 (.fa 5 9),
 ao 87 (.load false 1 86),
 ao 88 (.mv 15),
 ao 89 (.bin .sub 88 (.c (.int .i64 2))),
 ao 90 (.slcs 87 none (some 89)),
 ao 91 (.fa 5 9),
 an (.store 1 91 90)]) (.view [.sel [0, 3, 6, 7, 9] [0, 1, 2, 3]])) (.seq (.skip) (.view [.sel [0, 3, 6, 7, 9] [0, 1, 2, 3]])))
theorem qbet : AC.ok Try.prog (TIof Try.prog) 101 0 (kret [.t 4, .t 5] qew) qn7 := qm (zA qbho trivial)
theorem qbhp (v0 : List AV) (v15 : Int) (Ai : Bool) (Aj Ak Al : Int) (Au : Bool) (Av Aw Ax : Int) (A2 : Bool) (A3 A4 A5 : Int) (A6 : Bool) (A7 A8 A9 Ba : Int) (Bd Bb : List UInt8) (Bc : Int) (K : Ex → Env → Mem → Option ((List AV) × Int)) : den 0 (kret [.t 4, .t 5] qew) qn7 (qh [(0, (.sl 8 v0)), (3, (.ptr 0 0)), (6, (.ptr 1 0)), (7, (.ptr 2 0)), (9, (.ptr 3 0)), (15, (.int .i64 v15))]) (qg [(some (.box true (qa Ai Aj Ak Al))), (some (.box true (qa Au Av Aw Ax))), (some (.box true (qa A2 A3 A4 A5))), (some (.box true (qc A6 A7 A8 A9 Ba Bd Bb Bc)))]) K = qmm v0 v15 Ai Aj Ak Al Au Av Aw Ax A2 A3 A4 A5 A6 A7 A8 A9 Ba Bd Bb Bc (q0i v0 Ai Aj Ak Al Au Av Aw Ax A2 A3 A4 A5 A6 A7 A8 A9 Ba Bb Bc K) := by
  rw [q0j]; kernel_rfl
def q15 := subE (R := (List AV) × Int) qbco fun t m K => qi (bxC (m.s 3)) (qe (bxC (m.s 2)) (qe (bxC (m.s 1)) (qe (bxC (m.s 0)) (qmm (gL [t 0] 0) (gI [t 15] 0))))) (q0i (gL [t 0] 0) (gB (bxC (m.s 0)) 0) (gI (bxC (m.s 0)) 1) (gI (bxC (m.s 0)) 2) (gI (bxC (m.s 0)) 3) (gB (bxC (m.s 1)) 0) (gI (bxC (m.s 1)) 1) (gI (bxC (m.s 1)) 2) (gI (bxC (m.s 1)) 3) (gB (bxC (m.s 2)) 0) (gI (bxC (m.s 2)) 1) (gI (bxC (m.s 2)) 2) (gI (bxC (m.s 2)) 3) (gB (bxC (m.s 3)) 0) (gI (bxC (m.s 3)) 1) (gI (bxC (m.s 3)) 2) (gI (bxC (m.s 3)) 3) (gI (bxC (m.s 3)) 4) (gS (bxC (m.s 3)) 6) (gI (bxC (m.s 3)) 7) K)
theorem qbhq : qca Try.prog (TIof Try.prog) 101 0 (kret [.t 4, .t 5] qew) (scOf qn7) (q15) :=
  qet tabOk follows (qbet) (qn (by kernel_rfl)) fun t m K => qbhp _ _ _ _ _ _ _ _ _ _ _ _ _ _ _ _ _ _ _ _ _ _ K
def qboa : Shp := ⟨[(0, .one (.l (.sl 8))), (1, .st (lk qf))], []⟩
def q0k (v0 : List AV) (Aq : Bool) (Ar As At : Int) : Option ((List AV) × Int) :=
  (oB (ql2 Aq Ar As At) fun r1 => (bif (!r1.2.2) then (some (([] : List AV), (11 : Int))) else (oB (qf7 v0 (gB r1.1.cells 0) (gI r1.1.cells 1) (gI r1.1.cells 2) (gI r1.1.cells 3)) fun r2 => (oB (qf7 v0 (gB r1.2.1.cells 0) (gI r1.2.1.cells 1) (gI r1.2.1.cells 2) (gI r1.2.1.cells 3)) fun r3 => (bif ((!r2.2) || (!r3.2)) then (some (([] : List AV), (11 : Int))) else (oB (qf7 v0 Aq Ar As At) fun r4 => (bif r4.2 then (some (([] : List AV), (12 : Int))) else (bif (((((gI r2.1.cells 4) != (gI r3.1.cells 4)) || (!((gS r2.1.cells 6) == (gS r3.1.cells 6)))) || ((gI r2.1.cells 7) != (gI r3.1.cells 7))) || ((gI r2.1.cells 4) == (3 : Int))) then (some (([] : List AV), (21 : Int))) else (qmm v0 ((gS r2.1.cells 5).length : Int) Aq Ar As At (gB r1.1.cells 0) (gI r1.1.cells 1) (gI r1.1.cells 2) (gI r1.1.cells 3) (gB r1.2.1.cells 0) (gI r1.2.1.cells 1) (gI r1.2.1.cells 2) (gI r1.2.1.cells 3) (gB r2.1.cells 0) (gI r2.1.cells 1) (gI r2.1.cells 2) (gI r2.1.cells 3) (gI r2.1.cells 4) (gS r2.1.cells 5) (gS r2.1.cells 6) (gI r2.1.cells 7) (fun b3_5q5 => (oB (qfy v0 (gB r1.1.cells 0) (gI r1.1.cells 1) (gI r1.1.cells 2) (gI r1.1.cells 3)) fun r6 => (oB (qfy r6 (gB r1.2.1.cells 0) (gI r1.2.1.cells 1) (gI r1.2.1.cells 2) (gI r1.2.1.cells 3)) fun r7 => (oB (qiy r7 Aq Ar As At (gI r2.1.cells 4) b3_5q5 (gS r2.1.cells 6) (gI r2.1.cells 7)) fun r8 => (some (r8, (0 : Int))))))))))))))))
def qr9 := hull q0k
theorem q8n : qr9 = q0k := qj _
def q0l : AC ((List AV) × Int) :=
  .seq (.reg [ao 3 (.box 1),
 ao 4 (.mv (.c .nils)),
 ao 5 (.mv (.c (.int .i64 0)))]) (.seq (.reg [ao 17 (.load true 4 3),
 .call (po 18 (.call 60 [17])) 60 qs2,
 ao 16 (.mv 18),
 ao 19 (.ext 16 0),
 ao 20 (.ext 16 1),
 ao 21 (.ext 16 2),
 ao 6 (.alloc [(.bool false), (.int .u64 0), (.int .u64 0), (.int .i64 0)]),
 ao 7 (.alloc [(.bool false), (.int .u64 0), (.int .u64 0), (.int .i64 0)]),
 an (.store 4 6 19),
 an (.store 4 7 20),
 ao 8 (.mv 21)]) (.seq (.seq (.reg [ao 22 (.mv 8),
 ao 23 (.un .not 22)]) (.cond 23 (.seq (.reg [ao 4 (.mv (.c .nils)),
 ao 5 (.mv (.c (.int .i64 11)))]) (.seq (.view [.eta 4 (.one (.sl 8))]) (.ret))) (.skip))) (.seq (.reg [ao 25 (.mv 0),
 ao 26 (.load true 4 6),
 .call (po 27 (.call 25 [25, 26])) 25 qgp,
 ao 24 (.mv 27),
 ao 28 (.ext 24 0),
 ao 29 (.ext 24 1),
 ao 9 (.alloc [(.bool false), (.int .u64 0), (.int .u64 0), (.int .i64 0), (.int .i64 0), (.str []), (.str []), (.int .i64 0)]),
 an (.store 8 9 28),
 ao 10 (.mv 29)]) (.seq (.reg [ao 31 (.mv 0),
 ao 32 (.load true 4 7),
 .call (po 33 (.call 25 [31, 32])) 25 qgp,
 ao 30 (.mv 33),
 ao 34 (.ext 30 0),
 ao 35 (.ext 30 1),
 ao 11 (.alloc [(.bool false), (.int .u64 0), (.int .u64 0), (.int .i64 0), (.int .i64 0), (.str []), (.str []), (.int .i64 0)]),
 an (.store 8 11 34),
 ao 12 (.mv 35)]) (.seq (.seq (.reg [ao 36 (.mv 10),
 ao 37 (.un .not 36),
 ao 38 (.mv 37),
 .grp 38 false [(pg 39 38 false (.mv 12)), (pg 40 38 false (.un .not 39))] 41 40]) (.cond 41 (.seq (.reg [ao 4 (.mv (.c .nils)),
 ao 5 (.mv (.c (.int .i64 11)))]) (.seq (.view [.eta 4 (.one (.sl 8))]) (.ret))) (.skip))) (.seq (.reg [ao 43 (.mv 0),
 ao 44 (.load true 4 3),
 .call (po 45 (.call 25 [43, 44])) 25 qgp,
 ao 42 (.mv 45),
 ao 46 (.ext 42 0),
 ao 47 (.ext 42 1),
 ao 13 (.alloc [(.bool false), (.int .u64 0), (.int .u64 0), (.int .i64 0), (.int .i64 0), (.str []), (.str []), (.int .i64 0)]),
 an (.store 8 13 46),
 ao 14 (.mv 47)]) (.seq (.seq (.reg [ao 48 (.mv 14)]) (.cond 48 (.seq (.reg [ao 4 (.mv (.c .nils)),
 ao 5 (.mv (.c (.int .i64 12)))]) (.seq (.view [.eta 4 (.one (.sl 8))]) (.ret))) (.skip))) (.seq (.seq (.reg [ao 49 (.fa 4 9),
 ao 50 (.load false 1 49),
 ao 51 (.fa 4 11),
 ao 52 (.load false 1 51),
 ao 53 (.bin .neq 50 52),
 ao 54 (.mv 53),
 .grp 54 false [(pg 55 54 false (.fa 6 9)), (pg 56 54 false (.load false 1 55)), (pg 57 54 false (.fa 6 11)), (pg 58 54 false (.load false 1 57)), (pg 59 54 false (.bin .neq 56 58))] 60 59,
 ao 61 (.mv 60),
 .grp 61 false [(pg 62 61 false (.fa 7 9)), (pg 63 61 false (.load false 1 62)), (pg 64 61 false (.fa 7 11)), (pg 65 61 false (.load false 1 64)), (pg 66 61 false (.bin .neq 63 65))] 67 66,
 ao 68 (.mv 67),
 .grp 68 false [(pg 69 68 false (.fa 4 9)), (pg 70 68 false (.load false 1 69)), (pg 71 68 false (.bin .eql 70 (.c (.int .i64 3))))] 72 71]) (.cond 72 (.seq (.reg [ao 4 (.mv (.c .nils)),
 ao 5 (.mv (.c (.int .i64 21)))]) (.seq (.view [.eta 4 (.one (.sl 8))]) (.ret))) (.skip))) (.seq (.reg [ao 73 (.fa 5 9),
 ao 74 (.load false 1 73),
 ao 75 (.len true 74),
 ao 15 (.mv 75)]) (.seq (.seq (.view [.sel [0, 3, 6, 7, 9, 15] [0, 1, 2, 3]]) (.sub (scOf qn7) q15)) (.seq (.reg [ao 92 (.load true 4 3),
 ao 93 (.fa 0 9),
 an (.store 4 93 92)]) (.seq (.draw [] [ao 94 (.mv 0),
 ao 95 (.load true 4 6),
 .call (po 96 (.call 58 [94, 95])) 58 qiz,
 ao 97 (.load true 4 7),
 .call (po 98 (.call 58 [96, 97])) 58 qiz,
 ao 99 (.load true 8 9)] [.callc (po 100 (.call 55 [98, 99])) 55 qnt,
 ao 4 (.mv 100),
 ao 5 (.mv (.c (.int .i64 0)))]) (.ret)))))))))))))
theorem qbq3 : AC.ok Try.prog (TIof Try.prog) 101 0 (kret [.t 4, .t 5] qew) q0l := qm (zA (qd.ok q6v) (zA (qd.ok qly) (zA (qd.ok qly) (zA (qd.ok qly) (zA qbhq (zA (qd.ok qo1) (zA (qd.ok qo1) (zA (qd.ok qu5) (zA rfl trivial)))))))))
theorem qbtd (v0 : List AV) (Aq : Bool) (Ar As At : Int) : den 0 (kret [.t 4, .t 5] qew) q0l (qh [(0, (.sl 8 v0)), (1, .agg (qa Aq Ar As At))]) (qg []) (kend (kret [.t 4, .t 5] qew)) = qr9 v0 Aq Ar As At := by
  rw [q8n]; kernel_rfl
theorem qbte : cFn (TIof Try.prog) Try.f23 = some ⟨101, [.t 4, .t 5], scOf q0l⟩ := by kernel_rfl
def qbtf (xs : List AV) : Option ((List AV) × Int) := qe ((qk xs) 1).cells (qr9 (gL [(qk xs) 0] 0))
def q6x {R : Type} : List AV → (AV → Option R) → Option R := entF qboa qbtf qbn9
theorem qbtg {R : Type} : qd Try.prog 23 (q6x (R := R)) :=
  qz tabOk follows Try.func23 (by kernel_rfl) qbte (fun z r h => by
 obtain ⟨h1, h2⟩ := qo h
 cases h2
 exact (qds h1).symm) qbq3 (qn (by kernel_rfl)) fun xs => qbtd _ _ _ _ _
def qqm  (K : Ex → Env → Mem → Option Bool) := (fun z_v6 => K .norm (qh [(6, (.bool z_v6))]) (qg []))
def q06 : Shp := ⟨[(0, .one (.l (.sl 8)))], []⟩
def qlk  (v0 : List AV) (kn : Bool → Option Bool) : Option Bool :=
  (oB (qnh v0) fun r1 => (bif (r1 != (0 : Int)) then (oB (qnc) fun r2 => (kn r2)) else (kn false)))
def qhz := hull (qlk)
theorem qqn : qhz = qlk := qj _
def qgs : AC Bool :=
  .seq (.reg [ao 22 (.mv 0),
 .call (po 23 (.call 11 [22])) 11 qxb,
 ao 24 (.bin .neq 23 (.c (.int .i64 0))),
 ao 25 (.mv 24),
 .call (pg 26 25 true (.call 13 [])) 13 qui,
 ao 27 (.pick 25 26 (.c (.bool false))),
 ao 6 (.mv 27)]) (.view [.sel [6] []])
theorem q20 : AC.ok Try.prog (TIof Try.prog) 117 0 (kret [.t 6] decB) qgs := qm (zA (qd.ok qbbn) (zA (qd.ok q8h) trivial))
theorem q4y (v0 : List AV) (K : Ex → Env → Mem → Option Bool) : den 0 (kret [.t 6] decB) qgs (qh [(0, (.sl 8 v0))]) (qg []) K = qhz v0 (qqm K) := by
  rw [qqn]; kernel_rfl
def qqs := subE (R := Bool) q06 fun t m K => qhz (gL [t 0] 0) (qqm K)
theorem q4z : qca Try.prog (TIof Try.prog) 117 0 (kret [.t 6] decB) (scOf qgs) (qqs) :=
  qet tabOk follows (q20) (qn (by kernel_rfl)) fun t m K => q4y _ K
def qpk  (v0 : List AV) (Ai : Bool) (Aj Ak Al : Int) (K : Ex → Env → Mem → Option Bool) := (fun z_v71 => K .norm (qh [(0, (.sl 8 v0)), (5, (.ptr 0 0)), (71, (.bool z_v71))]) (qg [(some (.box true (qa Ai Aj Ak Al)))]))
def q0m : Shp := ⟨[(0, .one (.l (.sl 8))), (5, .one (.ptr 0 0)), (7, .one (.l (.sl 8))), (8, .one (.l (.i .i64))), (9, .one (.l (.sl 8))), (10, .one (.l (.i .i64))), (11, .one (.l (.sl 8))), (12, .one (.l (.i .i64))), (13, .one (.l (.sl 8))), (14, .one (.l (.i .i64)))], [.box true (lk qf)]⟩
def qkr  (v0 v7 : List AV) (v8 : Int) (v9 : List AV) (v10 : Int) (v11 : List AV) (v12 : Int) (v13 : List AV) (v14 : Int) (Ai : Bool) (Aj Ak Al : Int) (kn : Bool → Option Bool) : Option Bool :=
  (oB (qdf v7 v9) fun r1 => (bif ((!r1) || (v8 != v10)) then (kn true) else (oB (qdf v11 v13) fun r2 => (kn ((!r2) || (v12 != v14))))))
def qg9 := hull (qkr)
theorem qpl : qg9 = qkr := qj _
def qgj : AC Bool :=
  .seq (.reg [ao 52 (.mv 7),
 ao 53 (.mv 9),
 .call (po 54 (.call 19 [52, 53])) 19 qjb,
 ao 55 (.un .not 54),
 ao 56 (.mv 55),
 .grp 56 false [(pg 57 56 false (.mv 8)), (pg 58 56 false (.mv 10)), (pg 59 56 false (.bin .neq 57 58))] 60 59,
 ao 61 (.mv 60),
 ag 62 61 false (.mv 11),
 ag 63 61 false (.mv 13),
 .call (pg 64 61 false (.call 19 [62, 63])) 19 qjb,
 ag 65 61 false (.un .not 64),
 ao 66 (.pick 61 (.c (.bool true)) 65),
 ao 67 (.mv 66),
 .grp 67 false [(pg 68 67 false (.mv 12)), (pg 69 67 false (.mv 14)), (pg 70 67 false (.bin .neq 68 69))] 71 70]) (.view [.sel [0, 5, 71] [0]])
theorem q07 : AC.ok Try.prog (TIof Try.prog) 117 0 (kret [.t 6] decB) qgj := qm (zA (qd.ok qov) (zA (qd.ok qov) trivial))
theorem q21 (v0 v7 : List AV) (v8 : Int) (v9 : List AV) (v10 : Int) (v11 : List AV) (v12 : Int) (v13 : List AV) (v14 : Int) (Ai : Bool) (Aj Ak Al : Int) (K : Ex → Env → Mem → Option Bool) : den 0 (kret [.t 6] decB) qgj (qh [(0, (.sl 8 v0)), (5, (.ptr 0 0)), (7, (.sl 8 v7)), (8, (.int .i64 v8)), (9, (.sl 8 v9)), (10, (.int .i64 v10)), (11, (.sl 8 v11)), (12, (.int .i64 v12)), (13, (.sl 8 v13)), (14, (.int .i64 v14))]) (qg [(some (.box true (qa Ai Aj Ak Al)))]) K = qg9 v0 v7 v8 v9 v10 v11 v12 v13 v14 Ai Aj Ak Al (qpk v0 Ai Aj Ak Al K) := by
  rw [qpl]; kernel_rfl
def qqo := subE (R := Bool) q0m fun t m K => qe (bxC (m.s 0)) (qg9 (gL [t 0] 0) (gL [t 7] 0) (gI [t 8] 0) (gL [t 9] 0) (gI [t 10] 0) (gL [t 11] 0) (gI [t 12] 0) (gL [t 13] 0) (gI [t 14] 0)) (qpk (gL [t 0] 0) (gB (bxC (m.s 0)) 0) (gI (bxC (m.s 0)) 1) (gI (bxC (m.s 0)) 2) (gI (bxC (m.s 0)) 3) K)
theorem q23 : qca Try.prog (TIof Try.prog) 117 0 (kret [.t 6] decB) (scOf qgj) (qqo) :=
  qet tabOk follows (q07) (qn (by kernel_rfl)) fun t m K => q21 _ _ _ _ _ _ _ _ _ _ _ _ _ K
def qfb : Shp := ⟨[(0, .one (.l (.sl 8))), (1, .st (lk qb)), (2, .st (lk qf))], []⟩
def qnw (v0 : List AV) (Aq : Bool) (Ar As At Ay : Int) (Az A0 : List UInt8) (A1 : Int) (Br : Bool) (Bs Bt Bu : Int) : Option Bool :=
  (oB (qtv v0) fun r1 => (oB (quj Aq Ar As At Ay Az A0 A1) fun r2 => (oB (qqd r1) fun r3 => (bif (r3 != (0 : Int)) then (qhz r1 (fun v6q4 => (some v6q4))) else (oB (qrb r1 (gB r2.cells 0) (gI r2.cells 1) (gI r2.cells 2) (gI r2.cells 3) (gI r2.cells 4) (gS r2.cells 5) (gS r2.cells 6) (gI r2.cells 7)) fun r5 => (oB (qum r1 (gB r2.cells 0) (gI r2.cells 1) (gI r2.cells 2) (gI r2.cells 3) (gI r2.cells 4) (gS r2.cells 5) (gS r2.cells 6) (gI r2.cells 7)) fun r6 => (oB (ql9 r1 Br Bs Bt Bu) fun r7 => (oB (qo2 r1 Br Bs Bt Bu) fun r8 => (qg9 r1 r5.1 r5.2 r6.1 r6.2 r7.1 r7.2 r8.1 r8.2 Br Bs Bt Bu (fun v71q9 => (bif v71q9 then (some false) else (oB (qno r1 Br Bs Bt Bu) fun r10 => (oB (qql r1 Br Bs Bt Bu) fun r11 => (oB (qpc r1 Br Bs Bt Bu) fun r12 => (oB (qr9 r1 Br Bs Bt Bu) fun r13 => (oB (qdf r10.1 r11.1) fun r14 => (bif (r14 && (r10.2 == r11.2)) then (oB (qdf r12.1 r13.1) fun r15 => (bif (r15 && (r12.2 == r13.2)) then (oB (qnc) fun r16 => (some r16)) else (some false))) else (some false))))))))))))))))))
def qfe := hull qnw
theorem qtj : qfe = qnw := qj _
def qnx : AC Bool :=
  .seq (.reg [ao 4 (.box 1),
 ao 5 (.box 2),
 ao 6 (.mv (.c (.bool false)))]) (.seq (.draw [] [ao 15 (.mv 0),
 .call (po 16 (.call 10 [15])) 10 q7l,
 ao 17 (.load true 8 4)] [.call (po 18 (.call 14 [17])) 14 q8i,
 ao 0 (.mv 16),
 an (.store 8 4 18)]) (.seq (.seq (.reg [ao 19 (.mv 0),
 .call (po 20 (.call 12 [19])) 12 q38,
 ao 21 (.bin .neq 20 (.c (.int .i64 0)))]) (.cond 21 (.seq (.seq (.view [.sel [0] []]) (.sub (scOf qgs) qqs)) (.ret)) (.skip))) (.seq (.reg [ao 29 (.mv 0),
 ao 30 (.load true 8 4),
 .callc (po 31 (.call 15 [29, 30])) 15 q2q,
 ao 28 (.mv 31),
 ao 32 (.ext 28 0),
 ao 33 (.ext 28 1),
 ao 7 (.mv 32),
 ao 8 (.mv 33)]) (.seq (.reg [ao 35 (.mv 0),
 ao 36 (.load true 8 4),
 .callc (po 37 (.call 16 [35, 36])) 16 q8k,
 ao 34 (.mv 37),
 ao 38 (.ext 34 0),
 ao 39 (.ext 34 1),
 ao 9 (.mv 38),
 ao 10 (.mv 39)]) (.seq (.reg [ao 41 (.mv 0),
 ao 42 (.load true 4 5),
 .callc (po 43 (.call 17 [41, 42])) 17 qvt,
 ao 40 (.mv 43),
 ao 44 (.ext 40 0),
 ao 45 (.ext 40 1),
 ao 11 (.mv 44),
 ao 12 (.mv 45)]) (.seq (.reg [ao 47 (.mv 0),
 ao 48 (.load true 4 5),
 .callc (po 49 (.call 18 [47, 48])) 18 q10,
 ao 46 (.mv 49),
 ao 50 (.ext 46 0),
 ao 51 (.ext 46 1),
 ao 13 (.mv 50),
 ao 14 (.mv 51)]) (.seq (.seq (.seq (.view [.sel [0, 5, 7, 8, 9, 10, 11, 12, 13, 14] [1]]) (.sub (scOf qgj) qqo)) (.cond 71 (.seq (.reg [ao 6 (.mv (.c (.bool false)))]) (.ret)) (.skip))) (.seq (.reg [ao 73 (.mv 0),
 ao 74 (.load true 4 5),
 .callc (po 75 (.call 20 [73, 74])) 20 qxt,
 ao 72 (.mv 75),
 ao 76 (.ext 72 0),
 ao 77 (.ext 72 1),
 ao 7 (.mv 76),
 ao 8 (.mv 77)]) (.seq (.reg [ao 79 (.mv 0),
 ao 80 (.load true 4 5),
 .callc (po 81 (.call 21 [79, 80])) 21 q4x,
 ao 78 (.mv 81),
 ao 82 (.ext 78 0),
 ao 83 (.ext 78 1),
 ao 9 (.mv 82),
 ao 10 (.mv 83)]) (.seq (.reg [ao 85 (.mv 0),
 ao 86 (.load true 4 5),
 .callc (po 87 (.call 22 [85, 86])) 22 qzz,
 ao 84 (.mv 87),
 ao 88 (.ext 84 0),
 ao 89 (.ext 84 1),
 ao 11 (.mv 88),
 ao 12 (.mv 89)]) (.seq (.reg [ao 91 (.mv 0),
 ao 92 (.load true 4 5),
 .callc (po 93 (.call 23 [91, 92])) 23 q6x,
 ao 90 (.mv 93),
 ao 94 (.ext 90 0),
 ao 95 (.ext 90 1),
 ao 13 (.mv 94),
 ao 14 (.mv 95)]) (.seq (.reg [ao 96 (.mv 7),
 ao 97 (.mv 9),
 .call (po 98 (.call 19 [96, 97])) 19 qjb,
 ao 99 (.mv 98),
 .grp 99 true [(pg 100 99 true (.mv 8)), (pg 101 99 true (.mv 10)), (pg 102 99 true (.bin .eql 100 101))] 103 102,
 ao 104 (.mv 103),
 ag 105 104 true (.mv 11),
 ag 106 104 true (.mv 13),
 .call (pg 107 104 true (.call 19 [105, 106])) 19 qjb,
 ao 108 (.pick 104 107 (.c (.bool false))),
 ao 109 (.mv 108),
 .grp 109 true [(pg 110 109 true (.mv 12)), (pg 111 109 true (.mv 14)), (pg 112 109 true (.bin .eql 110 111))] 113 112,
 ao 114 (.mv 113),
 .call (pg 115 114 true (.call 13 [])) 13 qui,
 ao 116 (.pick 114 115 (.c (.bool false))),
 ao 6 (.mv 116)]) (.ret)))))))))))))
theorem q62 : AC.ok Try.prog (TIof Try.prog) 117 0 (kret [.t 6] decB) qnx := qm (zA (qd.ok qbuo) (zA (qd.ok qbv1) (zA rfl (zA (qd.ok qbpw) (zA q4z (zA (qd.ok qbi3) (zA (qd.ok qbv8) (zA (qd.ok q90) (zA (qd.ok qbn2) (zA q23 (zA (qd.ok qbb0) (zA (qd.ok qbq2) (zA (qd.ok qbfy) (zA (qd.ok qbtg) (zA (qd.ok qov) (zA (qd.ok qov) (zA (qd.ok q8h) trivial)))))))))))))))))
theorem q8o (v0 : List AV) (Aq : Bool) (Ar As At Ay : Int) (Az A0 : List UInt8) (A1 : Int) (Br : Bool) (Bs Bt Bu : Int) : den 0 (kret [.t 6] decB) qnx (qh [(0, (.sl 8 v0)), (1, .agg (qc Aq Ar As At Ay Az A0 A1)), (2, .agg (qa Br Bs Bt Bu))]) (qg []) (kend (kret [.t 6] decB)) = qfe v0 Aq Ar As At Ay Az A0 A1 Br Bs Bt Bu := by
  rw [qtj]; kernel_rfl
theorem q8p : cFn (TIof Try.prog) Try.f4 = some ⟨117, [.t 6], scOf qnx⟩ := by kernel_rfl
def q8q (xs : List AV) : Option Bool := qe ((qk xs) 2).cells (qi ((qk xs) 1).cells (qfe (gL [(qk xs) 0] 0)))
def q5u {R : Type} : List AV → (AV → Option R) → Option R := entF qfb q8q AV.bool
theorem q8r {R : Type} : qd Try.prog 4 (q5u (R := R)) :=
  qz tabOk follows Try.func4 (by kernel_rfl) q8p hdeB q62 (qn (by kernel_rfl)) fun xs => q8o _ _ _ _ _ _ _ _ _ _ _ _ _
end
end Go.Proofs.Ytmjdngnagiloeaa.Dn
