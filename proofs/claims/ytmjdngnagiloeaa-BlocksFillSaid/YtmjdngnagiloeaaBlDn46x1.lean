import Derived.Test.YtmjdngnagiloeaaProg
import Derived.Test.YtmjdngnagiloeaaBlLibD
set_option linter.all false
namespace Go.Proofs.Ytmjdngnagiloeaa.Dn
open Go Go.Pev
set_option linter.unusedVariables false
set_option linter.unusedSimpArgs false
set_option maxRecDepth 100000
set_option maxHeartbeats 4000000
theorem zT : True := True.intro
theorem zA {a b : Prop} (x : a) (y : b) : a ∧ b := ⟨x, y⟩
theorem tabOk : Tab.ok (TIof Try.prog) Try.prog := fun _ _ h => h
theorem follows : Try.prog.follows .mixedOrders = true := by kernel_rfl
def qa : List LT := [.b, (.i .u64), (.i .u64), (.i .i64), (.i .i64), .s, .s, (.i .i64)]
def qb (x0 : Bool) (x1 x2 x3 x4 : Int) (x5 x6 : List UInt8) (x7 : Int) : List AV := [.bool x0, .int .u64 x1, .int .u64 x2, .int .i64 x3, .int .i64 x4, .str x5, .str x6, .int .i64 x7]
def qf {β : Type} (cs : List AV) (f : Bool → Int → Int → Int → Int → List UInt8 → List UInt8 → Int → β) : β := f (gB cs 0) (gI cs 1) (gI cs 2) (gI cs 3) (gI cs 4) (gS cs 5) (gS cs 6) (gI cs 7)
def q87 : Shp := ⟨[(0, .st (lk qa))], []⟩
noncomputable section
def qtn (Aa : Bool) (Ab Ac Ad Ae : Int) (Af Ag : List UInt8) (Ah : Int) : Option AV :=
  (oB (cutI Af none (some (if (100 : Int) < (Af.length : Int) then (100 : Int) else (Af.length : Int)))) fun s1 => (oB (cutI Ag none (some (if (100 : Int) < (Ag.length : Int) then (100 : Int) else (Ag.length : Int)))) fun s2 => (some (.agg [(.bool Aa), (.int .u64 Ab), (.int .u64 Ac), (.int .i64 Ad), (.int .i64 Ae), (.str s1), (.str s2), (.int .i64 Ah)]))))
def qob := hull qtn
theorem q0b : qob = qtn := ql _
def qto : AC AV :=
  .seq (.reg [ao 1 (.box 0),
 ao 2 (.alloc [(.bool false), (.int .u64 0), (.int .u64 0), (.int .i64 0), (.int .i64 0), (.str []), (.str []), (.int .i64 0)])]) (.seq (.reg [ao 3 (.fa 5 1),
 ao 4 (.load false 1 3),
 ao 5 (.fa 5 1),
 ao 6 (.load false 1 5),
 ao 7 (.len true 6),
 ao 8 (.mm false 7 [(.c (.int .i64 100))]),
 ao 9 (.slcs 4 none (some 8)),
 ao 10 (.fa 5 1),
 an (.store 1 10 9)]) (.seq (.reg [ao 11 (.fa 6 1),
 ao 12 (.load false 1 11),
 ao 13 (.fa 6 1),
 ao 14 (.load false 1 13),
 ao 15 (.len true 14),
 ao 16 (.mm false 15 [(.c (.int .i64 100))]),
 ao 17 (.slcs 12 none (some 16)),
 ao 18 (.fa 6 1),
 an (.store 1 18 17)]) (.seq (.reg [ao 19 (.load true 8 1),
 an (.store 8 2 19)]) (.ret))))
theorem qbbz : AC.ok Try.prog (TIof Try.prog) 20 0 (kret [(.cell 2 true 8)] (decT [.b, (.i .u64), (.i .u64), (.i .i64), (.i .i64), .s, .s, (.i .i64)])) qto := qp trivial
theorem qbd2 (Aa : Bool) (Ab Ac Ad Ae : Int) (Af Ag : List UInt8) (Ah : Int) : den 0 (kret [(.cell 2 true 8)] (decT [.b, (.i .u64), (.i .u64), (.i .i64), (.i .i64), .s, .s, (.i .i64)])) qto (qk [(0, .agg (qb Aa Ab Ac Ad Ae Af Ag Ah))]) (qi []) (kend (kret [(.cell 2 true 8)] (decT [.b, (.i .u64), (.i .u64), (.i .i64), (.i .i64), .s, .s, (.i .i64)]))) = qob Aa Ab Ac Ad Ae Af Ag Ah := by
  rw [q0b]; kernel_rfl
theorem qbd3 : cFn (TIof Try.prog) Try.f42 = some ⟨20, [(.cell 2 true 8)], scOf qto⟩ := by kernel_rfl
def qbd4 (xs : List AV) : Option AV := qf ((qm xs) 0).cells (qob)
def qx8 {R : Type} : List AV → (AV → Option R) → Option R := entF q87 qbd4 (qoa (.st [.b, (.i .u64), (.i .u64), (.i .i64), (.i .i64), .s, .s, (.i .i64)]))
theorem qbd5 {R : Type} : qd Try.prog 42 (qx8 (R := R)) :=
  qce tabOk follows Try.func42 (by kernel_rfl) qbd3 hdeT qbbz (qy (by kernel_rfl)) fun xs => qbd2 _ _ _ _ _ _ _ _
def qmw  (K : Ex → Env → Mem → Option (List AV)) := (fun z_a0 => K (.exit 0) (qk [(3, (.own 0 z_a0.length))]) (qi [(some (.arr true 8 z_a0))]))
def q8f : Shp := ⟨[(0, .one (.l (.sl 8))), (3, .one (.own 0)), (4, .one (.l (.i .i64)))], [.arr true 8]⟩
def qra (v0 : List AV) (v4 : Int) (a0 : List AV) : Env := qk [(0, (.sl 8 v0)), (3, (.own 0 a0.length)), (4, (.int .i64 v4))]
def qrb (v0 : List AV) (v4 : Int) (a0 : List AV) : Mem := qi [(some (.arr true 8 a0))]
def qiv  (v0 : List AV) (v4 : Int) (a0 : List AV) (next : Int → (List AV) → Option (List AV)) (kx0 : (List AV) → Option (List AV)) : Option (List AV) :=
  (bif ((decide (v4 < (v0.length : Int))) && (decide (v4 < (30 : Int)))) then (oB (ixB v0 v4) fun y1 => (bif fitC qa y1.cells then (oB (qob (gB y1.cells 0) (gI y1.cells 1) (gI y1.cells 2) (gI y1.cells 3) (gI y1.cells 4) (gS y1.cells 5) (gS y1.cells 6) (gI y1.cells 7)) fun r2 => (bif hd a0 a0.length then (bif hd ([(.agg [(.bool (gB r2.cells 0)), (.int .u64 (gI r2.cells 1)), (.int .u64 (gI r2.cells 2)), (.int .i64 (gI r2.cells 3)), (.int .i64 (gI r2.cells 4)), (.str (gS r2.cells 5)), (.str (gS r2.cells 6)), (.int .i64 (gI r2.cells 7))])] : List AV) (([(.agg [(.bool (gB r2.cells 0)), (.int .u64 (gI r2.cells 1)), (.int .u64 (gI r2.cells 2)), (.int .i64 (gI r2.cells 3)), (.int .i64 (gI r2.cells 4)), (.str (gS r2.cells 5)), (.str (gS r2.cells 6)), (.int .i64 (gI r2.cells 7))])] : List AV).length) then (bif decide ((a0.length + ([(.agg [(.bool (gB r2.cells 0)), (.int .u64 (gI r2.cells 1)), (.int .u64 (gI r2.cells 2)), (.int .i64 (gI r2.cells 3)), (.int .i64 (gI r2.cells 4)), (.str (gS r2.cells 5)), (.str (gS r2.cells 6)), (.int .i64 (gI r2.cells 7))])] : List AV).length) * 80 ≤ 140737488355328) then (next (IntKind.i64.wrap (v4 + (1 : Int))) (a0 ++ ([(.agg [(.bool (gB r2.cells 0)), (.int .u64 (gI r2.cells 1)), (.int .u64 (gI r2.cells 2)), (.int .i64 (gI r2.cells 3)), (.int .i64 (gI r2.cells 4)), (.str (gS r2.cells 5)), (.str (gS r2.cells 6)), (.int .i64 (gI r2.cells 7))])] : List AV))) else none) else none) else none)) else none)) else (kx0 a0))
def qnx  (v0 : List AV) (kx0 : (List AV) → Option (List AV)) : Nat → Int → (List AV) → Option (List AV)
  | 0 => (fun _ _ => none)
  | n + 1 => (fun v4 a0 => qiv v0 v4 a0 (qnx v0 kx0 n) kx0)
def qqi := hull (qnx)
theorem qx9 : qqi = qnx := ql _
def qiw : AC (List AV) :=
  .seq (.seq (.reg [ao 5 (.mv 4),
 ao 6 (.mv 0),
 ao 7 (.len false 6),
 ao 8 (.bin .lss 5 7),
 ao 9 (.mv 8),
 .grp 9 true [(pg 10 9 true (.mv 4)), (pg 11 9 true (.bin .lss 10 (.c (.int .i64 30))))] 12 11]) (.cond 12 (.skip) (.seq (.view [.sel [3] [0]]) (.exit 0)))) (.seq (.block 1 (.reg [ao 15 (.mv 3),
 ao 16 (.mv 0),
 ao 17 (.mv 4),
 ao 18 (.ia 8 16 17),
 .st (.etac 18 qa),
 ao 19 (.load true 8 18),
 .call (po 20 (.call 42 [19])) 42 qx8,
 ao 21 (.bsl 8 [20]),
 ao 22 (.app 8 80 15 21),
 ao 3 (.mv 22)])) (.seq (.reg [ao 13 (.mv 4),
 ao 14 (.bin .add 13 (.c (.int .i64 1))),
 ao 4 (.mv 14)]) (.view [.sel [0, 3, 4] [0]])))
theorem q88 : AC.ok Try.prog (TIof Try.prog) 24 0 (kret [.t 2] (decF true 8)) qiw := qp (zA (qd.ok qbd5) trivial)
theorem q8g (v0 : List AV) (v4 : Int) (a0 : List AV) (K : Ex → Env → Mem → Option (List AV)) : den 0 (kret [.t 2] (decF true 8)) qiw (qra v0 v4 a0) (qrb v0 v4 a0) K = qiv v0 v4 a0 (fun z_v4 z_a0 => K .norm (qra v0 z_v4 z_a0) (qrb v0 z_v4 z_a0)) (qmw K) := by kernel_rfl
theorem qbb0 (v0 : List AV) (K : Ex → Env → Mem → Option (List AV)) : ∀ (n : Nat) (v4 : Int) (a0 : List AV), qgc (den 0 (kret [.t 2] (decF true 8)) qiw) n (qra v0 v4 a0) (qrb v0 v4 a0) K = qqi v0 (qmw K) n v4 a0 := by
  rw [qx9]
  intro n
  induction n with
  | zero => intros; rfl
  | succ n ih =>
 intro v4 a0
 exact (q8g v0 v4 a0 (itK (den 0 (kret [.t 2] (decF true 8)) qiw) n K)).trans (congrArg (fun q => qiv v0 v4 a0 q (qmw K)) (funext fun v4 => funext fun a0 => ih v4 a0))
def q0c := subE (R := (List AV)) q8f fun t m K => qqi (gL [t 0] 0) (qmw K) FU (gI [t 4] 0) (arL (m.s 0))
theorem qbb1 : qdb Try.prog (TIof Try.prog) 24 0 (kret [.t 2] (decF true 8)) (.loop (scOf qiw)) (q0c) :=
  qgd tabOk follows (q88) (qy (by kernel_rfl)) fun t m K => qbb0 _ K FU _ _
def qbd6 : Shp := ⟨[(0, .one (.l (.sl 8)))], []⟩
def qwu (v0 : List AV) : Option (List AV) :=
  (bif (hd ([] : List AV) (([] : List AV).length) && true) then (qqi v0 (fun a0q1 => (bif hd a0q1 a0q1.length then (some a0q1) else none)) FU (0 : Int) ([] : List AV)) else none)
def qrc := hull qwu
theorem q3k : qrc = qwu := ql _
def qwv : AC (List AV) :=
  .seq (.reg [ao 2 (.mv (.c .nils))]) (.seq (.reg [ao 3 (.mv (.c .nils))]) (.seq (.seq (.reg [ao 4 (.mv (.c (.int .i64 0)))]) (.block 0 (.seq (.view [.own 3 8, .sel [0, 3, 4] [0]]) (.sub (.loop (scOf qiw)) q0c)))) (.seq (.reg [ao 23 (.mv 3),
 ao 2 (.mv 23)]) (.ret))))
theorem qbf0 : AC.ok Try.prog (TIof Try.prog) 24 0 (kret [.t 2] (decF true 8)) qwv := qp (zA qbb1 trivial)
theorem qbis (v0 : List AV) : den 0 (kret [.t 2] (decF true 8)) qwv (qk [(0, (.sl 8 v0))]) (qi []) (kend (kret [.t 2] (decF true 8))) = qrc v0 := by
  rw [q3k]; kernel_rfl
theorem qbit : cFn (TIof Try.prog) Try.f10 = some ⟨24, [.t 2], scOf qwv⟩ := by kernel_rfl
def qbiu (xs : List AV) : Option (List AV) := qrc (gL [(qm xs) 0] 0)
def q10 {R : Type} : List AV → (AV → Option R) → Option R := entF qbd6 qbiu (AV.fr true 8)
theorem qbiv {R : Type} : qd Try.prog 10 (q10 (R := R)) :=
  qce tabOk follows Try.func10 (by kernel_rfl) qbit hdeF qbf0 (qy (by kernel_rfl)) fun xs => qbis _
def qdj : List LT := [.b, (.i .u64), (.i .u64)]
def qbl (x0 : Bool) (x1 x2 : Int) : List AV := [.bool x0, .int .u64 x1, .int .u64 x2]
def qcj {β : Type} (cs : List AV) (f : Bool → Int → Int → β) : β := f (gB cs 0) (gI cs 1) (gI cs 2)
def qbiw : Shp := ⟨[(0, .st (lk qdj))], []⟩
def q11 (Aa : Bool) (Ab Ac : Int) : Option Bool :=
  (bif Aa then (some true) else (bif (Ab == (0 : Int)) then (some (decide (Ac ≤ (4294967295 : Int)))) else (some false)))
def qm9 := hull q11
theorem q72 : qm9 = q11 := ql _
def q12 : AC Bool :=
  .seq (.reg [ao 1 (.box 0),
 ao 2 (.mv (.c (.bool false)))]) (.seq (.reg [ao 3 (.fa 0 1),
 ao 4 (.load false 1 3),
 ao 5 (.mv 4),
 ag 6 5 false (.fa 1 1),
 ag 7 5 false (.load false 1 6),
 ag 8 5 false (.bin .eql 7 (.c (.int .u64 0))),
 ag 9 5 false (.mv 8),
 ag 10 9 true (.fa 2 1),
 ag 11 9 true (.load false 1 10),
 ag 12 9 true (.bin .leq 11 (.c (.int .u64 4294967295))),
 ag 13 5 false (.pick 9 12 (.c (.bool false))),
 ao 14 (.pick 5 (.c (.bool true)) 13),
 ao 2 (.mv 14)]) (.ret))
theorem qblt : AC.ok Try.prog (TIof Try.prog) 15 0 (kret [.t 2] decB) q12 := qp trivial
theorem qbm6 (Aa : Bool) (Ab Ac : Int) : den 0 (kret [.t 2] decB) q12 (qk [(0, .agg (qbl Aa Ab Ac))]) (qi []) (kend (kret [.t 2] decB)) = qm9 Aa Ab Ac := by
  rw [q72]; kernel_rfl
theorem qbm7 : cFn (TIof Try.prog) Try.f73 = some ⟨15, [.t 2], scOf q12⟩ := by kernel_rfl
def qbm8 (xs : List AV) : Option Bool := qcj ((qm xs) 0).cells (qm9)
def qoc {R : Type} : List AV → (AV → Option R) → Option R := entF qbiw qbm8 AV.bool
theorem quy {R : Type} : qd Try.prog 73 (qoc (R := R)) :=
  qce tabOk follows Try.func73 (by kernel_rfl) qbm7 hdeB qblt (qy (by kernel_rfl)) fun xs => qbm6 _ _ _
def qbb2 : Shp := ⟨[(0, .st (lk qdj))], []⟩
def quz (Aa : Bool) (Ab Ac : Int) : Option Int :=
  (bif Aa then (some (128 : Int)) else (some (32 : Int)))
def qjf := hull quz
theorem q13 : qjf = quz := ql _
def qu0 : AC Int :=
  .seq (.reg [ao 1 (.box 0),
 ao 2 (.mv (.c (.int .i64 0)))]) (.seq (.seq (.reg [ao 3 (.fa 0 1),
 ao 4 (.load false 1 3)]) (.cond 4 (.seq (.reg [ao 2 (.mv (.c (.int .i64 128)))]) (.ret)) (.skip))) (.seq (.reg [ao 2 (.mv (.c (.int .i64 32)))]) (.ret)))
theorem qbd7 : AC.ok Try.prog (TIof Try.prog) 5 0 (kret [.t 2] (decI .i64)) qu0 := qp trivial
theorem qbf1 (Aa : Bool) (Ab Ac : Int) : den 0 (kret [.t 2] (decI .i64)) qu0 (qk [(0, .agg (qbl Aa Ab Ac))]) (qi []) (kend (kret [.t 2] (decI .i64))) = qjf Aa Ab Ac := by
  rw [q13]; kernel_rfl
theorem qbf2 : cFn (TIof Try.prog) Try.f76 = some ⟨5, [.t 2], scOf qu0⟩ := by kernel_rfl
def qbf3 (xs : List AV) : Option Int := qcj ((qm xs) 0).cells (qjf)
def qlx {R : Type} : List AV → (AV → Option R) → Option R := entF qbb2 qbf3 (AV.int .i64)
theorem qqj {R : Type} : qd Try.prog 76 (qlx (R := R)) :=
  qce tabOk follows Try.func76 (by kernel_rfl) qbf2 hdeI qbd7 (qy (by kernel_rfl)) fun xs => qbf1 _ _ _
def qtp (z : AV) : Option (Int × Int) := cond (qmv [(.one (.i .u64)), (.one (.i .u64))] z) (some (aI (gC (tpL z) 0), aI (gC (tpL z) 1))) none
def qbd8 (r : Int × Int) : AV := .tup [.int .u64 r.1, .int .u64 r.2]
def qbd9 : Shp := ⟨[(0, .one (.l .b)), (1, .one (.l (.i .i64)))], []⟩
def qrz (v0 : Bool) (v1 : Int) : Option (Int × Int) :=
  (bif (!v0) then (bif decide ((IntKind.u64.wrap (IntKind.i64.wrap ((32 : Int) - v1))) < 0) then none else (some ((0 : Int), (IntKind.u64.wrap ((IntKind.u64.wrap ((1 : Int) * 2 ^ min (IntKind.u64.wrap (IntKind.i64.wrap ((32 : Int) - v1))).toNat IntKind.u64.bits)) - (1 : Int)))))) else (bif (decide (v1 ≥ (64 : Int))) then (bif decide ((IntKind.u64.wrap (IntKind.i64.wrap ((128 : Int) - v1))) < 0) then none else (some ((0 : Int), (IntKind.u64.wrap ((IntKind.u64.wrap ((1 : Int) * 2 ^ min (IntKind.u64.wrap (IntKind.i64.wrap ((128 : Int) - v1))).toNat IntKind.u64.bits)) - (1 : Int)))))) else (bif decide ((IntKind.u64.wrap (IntKind.i64.wrap ((64 : Int) - v1))) < 0) then none else (some ((IntKind.u64.wrap ((IntKind.u64.wrap ((1 : Int) * 2 ^ min (IntKind.u64.wrap (IntKind.i64.wrap ((64 : Int) - v1))).toNat IntKind.u64.bits)) - (1 : Int))), (18446744073709551615 : Int))))))
def qmo := hull qrz
theorem q3l : qmo = qrz := ql _
def qww : AC (Int × Int) :=
  .seq (.reg [ao 4 (.mv (.c (.int .u64 0))),
 ao 5 (.mv (.c (.int .u64 0)))]) (.seq (.seq (.reg [ao 6 (.mv 0),
 ao 7 (.un .not 6)]) (.cond 7 (.seq (.reg [ao 8 (.mv 1),
 ao 9 (.bin .sub (.c (.int .i64 32)) 8),
 ao 10 (.conv (.int .u64) 9),
 ao 11 (.bin .shl (.c (.int .u64 1)) 10),
 ao 12 (.bin .sub 11 (.c (.int .u64 1))),
 ao 4 (.mv (.c (.int .u64 0))),
 ao 5 (.mv 12)]) (.ret)) (.skip))) (.seq (.seq (.reg [ao 13 (.mv 1),
 ao 14 (.bin .geq 13 (.c (.int .i64 64)))]) (.cond 14 (.seq (.reg [ao 15 (.mv 1),
 ao 16 (.bin .sub (.c (.int .i64 128)) 15),
 ao 17 (.conv (.int .u64) 16),
 ao 18 (.bin .shl (.c (.int .u64 1)) 17),
 ao 19 (.bin .sub 18 (.c (.int .u64 1))),
 ao 4 (.mv (.c (.int .u64 0))),
 ao 5 (.mv 19)]) (.ret)) (.skip))) (.seq (.reg [ao 20 (.mv 1),
 ao 21 (.bin .sub (.c (.int .i64 64)) 20),
 ao 22 (.conv (.int .u64) 21),
 ao 23 (.bin .shl (.c (.int .u64 1)) 22),
 ao 24 (.bin .sub 23 (.c (.int .u64 1))),
 ao 4 (.mv 24),
 ao 5 (.mv (.c (.int .u64 18446744073709551615)))]) (.ret))))
theorem qbf4 : AC.ok Try.prog (TIof Try.prog) 25 0 (kret [.t 4, .t 5] qtp) qww := qp trivial
theorem qbix (v0 : Bool) (v1 : Int) : den 0 (kret [.t 4, .t 5] qtp) qww (qk [(0, (.bool v0)), (1, (.int .i64 v1))]) (qi []) (kend (kret [.t 4, .t 5] qtp)) = qmo v0 v1 := by
  rw [q3l]; kernel_rfl
theorem qbiy : cFn (TIof Try.prog) Try.f72 = some ⟨25, [.t 4, .t 5], scOf qww⟩ := by kernel_rfl
def qbiz (xs : List AV) : Option (Int × Int) := qmo (gB [(qm xs) 0] 0) (gI [(qm xs) 1] 0)
def qou {R : Type} : List AV → (AV → Option R) → Option R := entF qbd9 qbiz qbd8
theorem qwx {R : Type} : qd Try.prog 72 (qou (R := R)) :=
  qce tabOk follows Try.func72 (by kernel_rfl) qbiy (fun z r h => by
 obtain ⟨h1, h2⟩ := qo h
 cases h2
 exact (qhm h1).symm) qbf4 (qy (by kernel_rfl)) fun xs => qbix _ _
def qe : List LT := [.b, (.i .u64), (.i .u64), (.i .i64)]
def qc (x0 : Bool) (x1 x2 x3 : Int) : List AV := [.bool x0, .int .u64 x1, .int .u64 x2, .int .i64 x3]
def qh {β : Type} (cs : List AV) (f : Bool → Int → Int → Int → β) : β := f (gB cs 0) (gI cs 1) (gI cs 2) (gI cs 3)
def qya  (Ai : Bool) (Aj Ak Al : Int) (K : Ex → Env → Mem → Option Bool) := (fun z_v21 => K .norm (qk [(1, (.ptr 0 0)), (21, (.bool z_v21))]) (qi [(some (.box true (qc Ai Aj Ak Al)))]))
def q8h : Shp := ⟨[(1, .one (.ptr 0 0))], [.box true (lk qe)]⟩
def qsc  (Ai : Bool) (Aj Ak Al : Int) (kn : Bool → Option Bool) : Option Bool :=
  (oB (qm9 Ai Aj Ak) fun r1 => (bif (!r1) then (kn true) else (bif (decide (Al < (0 : Int))) then (kn true) else (oB (qjf Ai Aj Ak) fun r2 => (kn (decide (Al > r2)))))))
def qqk := hull (qsc)
theorem qyb : qqk = qsc := ql _
def qny : AC Bool :=
  .seq (.draw [] [ao 5 (.fa 0 1),
 ao 6 (.load true 3 5),
 .call (po 7 (.call 73 [6])) 73 qoc,
 ao 8 (.un .not 7),
 ao 9 (.mv 8),
 ag 10 9 false (.fa 3 1),
 ag 11 9 false (.load false 1 10),
 ag 12 9 false (.bin .lss 11 (.c (.int .i64 0))),
 ao 13 (.pick 9 (.c (.bool true)) 12),
 ao 14 (.mv 13),
 ag 15 14 false (.fa 3 1),
 ag 16 14 false (.load false 1 15),
 ag 17 14 false (.fa 0 1),
 ag 18 14 false (.load true 3 17),
 .call (pg 19 14 false (.call 76 [18])) 76 qlx] [ag 20 14 false (.bin .gtr 16 19),
 ao 21 (.pick 14 (.c (.bool true)) 20)]) (.view [.sel [1, 21] [0]])
theorem q89 : AC.ok Try.prog (TIof Try.prog) 45 0 (kret [.t 2] decB) qny := qp (zA (qd.ok quy) (zA (qd.ok qqj) (zA rfl trivial)))
theorem qbb3 (Ai : Bool) (Aj Ak Al : Int) (K : Ex → Env → Mem → Option Bool) : den 0 (kret [.t 2] decB) qny (qk [(1, (.ptr 0 0))]) (qi [(some (.box true (qc Ai Aj Ak Al)))]) K = qqk Ai Aj Ak Al (qya Ai Aj Ak Al K) := by
  rw [qyb]; kernel_rfl
def q0d := subE (R := Bool) q8h fun t m K => qh (bxC (m.s 0)) (qqk) (qya (gB (bxC (m.s 0)) 0) (gI (bxC (m.s 0)) 1) (gI (bxC (m.s 0)) 2) (gI (bxC (m.s 0)) 3) K)
theorem qbb4 : qdb Try.prog (TIof Try.prog) 45 0 (kret [.t 2] decB) (scOf qny) (q0d) :=
  qis tabOk follows (q89) (qy (by kernel_rfl)) fun t m K => qbb3 _ _ _ _ K
def qbea : Shp := ⟨[(0, .st (lk qe))], []⟩
def qwy (Aa : Bool) (Ab Ac Ad : Int) : Option Bool :=
  (qqk Aa Ab Ac Ad (fun v21q1 => (bif v21q1 then (some false) else (oB (qmo Aa Ad) fun r2 => (some (((qcg .and .u64 Ab r2.1) == (0 : Int)) && ((qcg .and .u64 Ac r2.2) == (0 : Int))))))))
def qfu := hull qwy
theorem q3m : qfu = qwy := ql _
def qwz : AC Bool :=
  .seq (.reg [ao 1 (.box 0),
 ao 2 (.mv (.c (.bool false)))]) (.seq (.seq (.seq (.view [.sel [1] [0]]) (.sub (scOf qny) q0d)) (.cond 21 (.seq (.reg [ao 2 (.mv (.c (.bool false)))]) (.ret)) (.skip))) (.seq (.reg [ao 23 (.fa 0 1),
 ao 24 (.fa 0 23),
 ao 25 (.load false 1 24),
 ao 26 (.fa 3 1),
 ao 27 (.load false 1 26),
 .call (po 28 (.call 72 [25, 27])) 72 qou,
 ao 22 (.mv 28),
 ao 29 (.ext 22 0),
 ao 30 (.ext 22 1),
 ao 3 (.mv 29),
 ao 4 (.mv 30)]) (.seq (.reg [ao 31 (.fa 0 1),
 ao 32 (.fa 1 31),
 ao 33 (.load false 1 32),
 ao 34 (.mv 3),
 ao 35 (.bin .and 33 34),
 ao 36 (.bin .eql 35 (.c (.int .u64 0))),
 ao 37 (.mv 36),
 .grp 37 true [(pg 38 37 true (.fa 0 1)), (pg 39 37 true (.fa 2 38)), (pg 40 37 true (.load false 1 39)), (pg 41 37 true (.mv 4)), (pg 42 37 true (.bin .and 40 41)), (pg 43 37 true (.bin .eql 42 (.c (.int .u64 0))))] 44 43,
 ao 2 (.mv 44)]) (.ret))))
theorem qbf5 : AC.ok Try.prog (TIof Try.prog) 45 0 (kret [.t 2] decB) qwz := qp (zA qbb4 (zA (qd.ok qwx) trivial))
theorem qbi0 (Aa : Bool) (Ab Ac Ad : Int) : den 0 (kret [.t 2] decB) qwz (qk [(0, .agg (qc Aa Ab Ac Ad))]) (qi []) (kend (kret [.t 2] decB)) = qfu Aa Ab Ac Ad := by
  rw [q3m]; kernel_rfl
theorem qbi1 : cFn (TIof Try.prog) Try.f71 = some ⟨45, [.t 2], scOf qwz⟩ := by kernel_rfl
def qbi2 (xs : List AV) : Option Bool := qh ((qm xs) 0).cells (qfu)
def qfv {R : Type} : List AV → (AV → Option R) → Option R := entF qbea qbi2 AV.bool
theorem qj9 {R : Type} : qd Try.prog 71 (qfv (R := R)) :=
  qce tabOk follows Try.func71 (by kernel_rfl) qbi1 hdeB qbf5 (qy (by kernel_rfl)) fun xs => qbi0 _ _ _ _
def qbeb : Shp := ⟨[(0, .st (lk qe))], []⟩
def qw0 (Aa : Bool) (Ab Ac Ad : Int) : Option Int :=
  (bif Aa then (some (128 : Int)) else (some (32 : Int)))
def qrd := hull qw0
theorem q3n : qrd = qw0 := ql _
def qw1 : AC Int :=
  .seq (.reg [ao 1 (.box 0),
 ao 2 (.mv (.c (.int .i64 0)))]) (.seq (.seq (.reg [ao 3 (.fa 0 1),
 ao 4 (.fa 0 3),
 ao 5 (.load false 1 4)]) (.cond 5 (.seq (.reg [ao 2 (.mv (.c (.int .i64 128)))]) (.ret)) (.skip))) (.seq (.reg [ao 2 (.mv (.c (.int .i64 32)))]) (.ret)))
theorem qbf6 : AC.ok Try.prog (TIof Try.prog) 6 0 (kret [.t 2] (decI .i64)) qw1 := qp trivial
theorem qbi3 (Aa : Bool) (Ab Ac Ad : Int) : den 0 (kret [.t 2] (decI .i64)) qw1 (qk [(0, .agg (qc Aa Ab Ac Ad))]) (qi []) (kend (kret [.t 2] (decI .i64))) = qrd Aa Ab Ac Ad := by
  rw [q3n]; kernel_rfl
theorem qbi4 : cFn (TIof Try.prog) Try.f77 = some ⟨6, [.t 2], scOf qw1⟩ := by kernel_rfl
def qbi5 (xs : List AV) : Option Int := qh ((qm xs) 0).cells (qrd)
def q14 {R : Type} : List AV → (AV → Option R) → Option R := entF qbeb qbi5 (AV.int .i64)
theorem qbi6 {R : Type} : qd Try.prog 77 (q14 (R := R)) :=
  qce tabOk follows Try.func77 (by kernel_rfl) qbi4 hdeI qbf6 (qy (by kernel_rfl)) fun xs => qbi3 _ _ _ _
def qkp  (K : Ex → Env → Mem → Option Bool) := (fun (_ : Unit) => K (.exit 0) (qk []) (qi []))
def q4f : Shp := ⟨[(0, .one (.l .s)), (19, .one (.l (.i .i64))), (20, .one (.l (.i .i64)))], []⟩
def qod (v0 : List UInt8) (v19 v20 : Int) : Env := qk [(0, (.str v0)), (19, (.int .i64 v19)), (20, (.int .i64 v20))]
def qoe (v0 : List UInt8) (v19 v20 : Int) : Mem := qi []
def qf4  (v0 : List UInt8) (v19 v20 : Int) (next : Int → Option Bool) (kx0 : Unit → Option Bool) : Option Bool :=
  (bif (decide (v20 < v19)) then (oB (ixB v0 v20) fun c1 => (bif (decide ((c1.toNat : Int) < (33 : Int))) then (some false) else (oB (ixB v0 v20) fun c2 => (bif (decide ((c2.toNat : Int) > (126 : Int))) then (some false) else (next (IntKind.i64.wrap (v20 + (1 : Int)))))))) else (kx0 ()))
def ql6  (v0 : List UInt8) (v19 : Int) (kx0 : Unit → Option Bool) : Nat → Int → Option Bool
  | 0 => (fun _ => none)
  | n + 1 => (fun v20 => qf4 v0 v19 v20 (ql6 v0 v19 kx0 n) kx0)
def qkz := hull (ql6)
theorem qud : qkz = ql6 := ql _
def qf5 : AC Bool :=
  .seq (.reg [ao 21 (.bin .lss 20 19)]) (.seq (.cond 21 (.skip) (.seq (.view [.sel [] []]) (.exit 0))) (.seq (.block 1 (.seq (.reg [ao 22 (.mv 20),
 ao 7 (.mv 22)]) (.seq (.reg [ao 23 (.mv 0),
 ao 24 (.mv 7),
 ao 25 (.ixs 23 24),
 ao 26 (.bin .lss 25 (.c (.int .u8 33))),
 ao 27 (.mv 26),
 ag 28 27 false (.mv 0),
 ag 29 27 false (.mv 7),
 ag 30 27 false (.ixs 28 29),
 ag 31 27 false (.bin .gtr 30 (.c (.int .u8 126))),
 ao 32 (.pick 27 (.c (.bool true)) 31)]) (.cond 32 (.seq (.reg [ao 6 (.mv (.c (.bool false)))]) (.ret)) (.skip))))) (.seq (.reg [ao 33 (.bin .add 20 (.c (.int .i64 1))),
 ao 20 (.mv 33)]) (.view [.sel [0, 19, 20] []]))))
theorem q4w : AC.ok Try.prog (TIof Try.prog) 34 0 (kret [.t 6] decB) qf5 := qp trivial
theorem q4g (v0 : List UInt8) (v19 v20 : Int) (K : Ex → Env → Mem → Option Bool) : den 0 (kret [.t 6] decB) qf5 (qod v0 v19 v20) (qoe v0 v19 v20) K = qf4 v0 v19 v20 (fun z_v20 => K .norm (qod v0 v19 z_v20) (qoe v0 v19 z_v20)) (qkp K) := by kernel_rfl
theorem q6c (v0 : List UInt8) (v19 : Int) (K : Ex → Env → Mem → Option Bool) : ∀ (n : Nat) (v20 : Int), qgc (den 0 (kret [.t 6] decB) qf5) n (qod v0 v19 v20) (qoe v0 v19 v20) K = qkz v0 v19 (qkp K) n v20 := by
  rw [qud]
  intro n
  induction n with
  | zero => intros; rfl
  | succ n ih =>
 intro v20
 exact (q4g v0 v19 v20 (itK (den 0 (kret [.t 6] decB) qf5) n K)).trans (congrArg (fun q => qf4 v0 v19 v20 q (qkp K)) (funext fun v20 => ih v20))
def qu1 := subE (R := Bool) q4f fun t m K => qkz (gS [t 0] 0) (gI [t 19] 0) (qkp K) FU (gI [t 20] 0)
theorem q6d : qdb Try.prog (TIof Try.prog) 34 0 (kret [.t 6] decB) (.loop (scOf qf5)) (qu1) :=
  qgd tabOk follows (q4w) (qy (by kernel_rfl)) fun t m K => q6c _ _ K FU _
def q9a : Shp := ⟨[(0, .one (.l .s)), (1, .one (.l (.i .i64))), (2, .one (.l (.i .i64)))], []⟩
def qtq (v0 : List UInt8) (v1 v2 : Int) : Option Bool :=
  (bif ((decide ((v0.length : Int) < v1)) || (decide ((v0.length : Int) > v2))) then (some false) else (qkz v0 (v0.length : Int) (fun (_ : Unit) => (some true)) FU (0 : Int)))
def qmk := hull qtq
theorem q0e : qmk = qtq := ql _
def qtr : AC Bool :=
  .seq (.reg [ao 6 (.mv (.c (.bool false)))]) (.seq (.seq (.reg [ao 8 (.mv 0),
 ao 9 (.len true 8),
 ao 10 (.mv 1),
 ao 11 (.bin .lss 9 10),
 ao 12 (.mv 11),
 .grp 12 false [(pg 13 12 false (.mv 0)), (pg 14 12 false (.len true 13)), (pg 15 12 false (.mv 2)), (pg 16 12 false (.bin .gtr 14 15))] 17 16]) (.cond 17 (.seq (.reg [ao 6 (.mv (.c (.bool false)))]) (.ret)) (.skip))) (.seq (.seq (.reg [ao 18 (.mv 0),
 ao 19 (.len true 18),
 ao 20 (.mv (.c (.int .i64 0)))]) (.block 0 (.seq (.view [.sel [0, 19, 20] []]) (.sub (.loop (scOf qf5)) qu1)))) (.seq (.reg [ao 6 (.mv (.c (.bool true)))]) (.ret))))
theorem qbb5 : AC.ok Try.prog (TIof Try.prog) 34 0 (kret [.t 6] decB) qtr := qp (zA q6d trivial)
theorem qbec (v0 : List UInt8) (v1 v2 : Int) : den 0 (kret [.t 6] decB) qtr (qk [(0, (.str v0)), (1, (.int .i64 v1)), (2, (.int .i64 v2))]) (qi []) (kend (kret [.t 6] decB)) = qmk v0 v1 v2 := by
  rw [q0e]; kernel_rfl
theorem qbed : cFn (TIof Try.prog) Try.f78 = some ⟨34, [.t 6], scOf qtr⟩ := by kernel_rfl
def qbee (xs : List AV) : Option Bool := qmk (gS [(qm xs) 0] 0) (gI [(qm xs) 1] 0) (gI [(qm xs) 2] 0)
def qre {R : Type} : List AV → (AV → Option R) → Option R := entF q9a qbee AV.bool
theorem q15 {R : Type} : qd Try.prog 78 (qre (R := R)) :=
  qce tabOk follows Try.func78 (by kernel_rfl) qbed hdeB qbb5 (qy (by kernel_rfl)) fun xs => qbec _ _ _
def qwh  (Ai : Bool) (Aj Ak Al Am : Int) (An Ao : List UInt8) (Ap : Int) (K : Ex → Env → Mem → Option Int) := (fun z_v28 => K .norm (qk [(1, (.ptr 0 0)), (28, (.bool z_v28))]) (qi [(some (.box true (qb Ai Aj Ak Al Am An Ao Ap)))]))
def q6e : Shp := ⟨[(1, .one (.ptr 0 0))], [.box true (lk qa)]⟩
def qrf  (Ai : Bool) (Aj Ak Al Am : Int) (An Ao : List UInt8) (Ap : Int) (kn : Bool → Option Int) : Option Int :=
  (bif (decide (Am < (1 : Int))) then (kn true) else (bif (decide (Am > (3 : Int))) then (kn true) else (bif (Am == (3 : Int)) then (oB (qrd Ai Aj Ak Al) fun r1 => (kn (Al != r1))) else (kn false))))
def qov := hull (qrf)
theorem qwi : qov = qrf := ql _
def qna : AC Int :=
  .seq (.draw [] [ao 7 (.fa 4 1),
 ao 8 (.load false 1 7),
 ao 9 (.bin .lss 8 (.c (.int .i64 1))),
 ao 10 (.mv 9),
 ag 11 10 false (.fa 4 1),
 ag 12 10 false (.load false 1 11),
 ag 13 10 false (.bin .gtr 12 (.c (.int .i64 3))),
 ao 14 (.pick 10 (.c (.bool true)) 13),
 ao 15 (.mv 14),
 ag 16 15 false (.fa 4 1),
 ag 17 15 false (.load false 1 16),
 ag 18 15 false (.bin .eql 17 (.c (.int .i64 3))),
 ag 19 15 false (.mv 18),
 ag 20 19 true (.fa 0 1),
 ag 21 19 true (.fa 3 20),
 ag 22 19 true (.load false 1 21),
 ag 23 19 true (.fa 0 1),
 ag 24 19 true (.load true 4 23),
 .call (pg 25 19 true (.call 77 [24])) 77 q14] [ag 26 19 true (.bin .neq 22 25),
 ag 27 15 false (.pick 19 26 (.c (.bool false))),
 ao 28 (.pick 15 (.c (.bool true)) 27)]) (.view [.sel [1, 28] [0]])
theorem q8i : AC.ok Try.prog (TIof Try.prog) 49 0 (kret [.t 2] (decI .i64)) qna := qp (zA (qd.ok qbi6) (zA rfl trivial))
theorem q9b (Ai : Bool) (Aj Ak Al Am : Int) (An Ao : List UInt8) (Ap : Int) (K : Ex → Env → Mem → Option Int) : den 0 (kret [.t 2] (decI .i64)) qna (qk [(1, (.ptr 0 0))]) (qi [(some (.box true (qb Ai Aj Ak Al Am An Ao Ap)))]) K = qov Ai Aj Ak Al Am An Ao Ap (qwh Ai Aj Ak Al Am An Ao Ap K) := by
  rw [qwi]; kernel_rfl
def qyc := subE (R := Int) q6e fun t m K => qf (bxC (m.s 0)) (qov) (qwh (gB (bxC (m.s 0)) 0) (gI (bxC (m.s 0)) 1) (gI (bxC (m.s 0)) 2) (gI (bxC (m.s 0)) 3) (gI (bxC (m.s 0)) 4) (gS (bxC (m.s 0)) 5) (gS (bxC (m.s 0)) 6) (gI (bxC (m.s 0)) 7) K)
theorem q9c : qdb Try.prog (TIof Try.prog) 49 0 (kret [.t 2] (decI .i64)) (scOf qna) (qyc) :=
  qis tabOk follows (q8i) (qy (by kernel_rfl)) fun t m K => q9b _ _ _ _ _ _ _ _ K
def qbef : Shp := ⟨[(0, .st (lk qa))], []⟩
def qw2 (Aa : Bool) (Ab Ac Ad Ae : Int) (Af Ag : List UInt8) (Ah : Int) : Option Int :=
  (oB (qfu Aa Ab Ac Ad) fun r1 => (bif (!r1) then (some (3 : Int)) else (qov Aa Ab Ac Ad Ae Af Ag Ah (fun v28q2 => (bif v28q2 then (some (1 : Int)) else (oB (qmk Af (1 : Int) (63 : Int)) fun r3 => (bif (!r3) then (some (1 : Int)) else (oB (qmk Ag (0 : Int) (32 : Int)) fun r4 => (bif (((!r4) || (decide (Ah < (0 : Int)))) || (decide (Ah > (4294967295 : Int)))) then (some (1 : Int)) else (some (0 : Int)))))))))))
def qmp := hull qw2
theorem q3o : qmp = qw2 := ql _
def qw3 : AC Int :=
  .seq (.reg [ao 1 (.box 0),
 ao 2 (.mv (.c (.int .i64 0)))]) (.seq (.seq (.reg [ao 3 (.fa 0 1),
 ao 4 (.load true 4 3),
 .call (po 5 (.call 71 [4])) 71 qfv,
 ao 6 (.un .not 5)]) (.cond 6 (.seq (.reg [ao 2 (.mv (.c (.int .i64 3)))]) (.ret)) (.skip))) (.seq (.seq (.seq (.view [.sel [1] [0]]) (.sub (scOf qna) qyc)) (.cond 28 (.seq (.reg [ao 2 (.mv (.c (.int .i64 1)))]) (.ret)) (.skip))) (.seq (.seq (.reg [ao 29 (.fa 5 1),
 ao 30 (.load false 1 29),
 .call (po 31 (.call 78 [30, (.c (.int .i64 1)), (.c (.int .i64 63))])) 78 qre,
 ao 32 (.un .not 31),
 ao 33 (.mv 32),
 ag 34 33 false (.fa 6 1),
 ag 35 33 false (.load false 1 34),
 .call (pg 36 33 false (.call 78 [35, (.c (.int .i64 0)), (.c (.int .i64 32))])) 78 qre,
 ag 37 33 false (.un .not 36),
 ao 38 (.pick 33 (.c (.bool true)) 37),
 ao 39 (.mv 38),
 .grp 39 false [(pg 40 39 false (.fa 7 1)), (pg 41 39 false (.load false 1 40)), (pg 42 39 false (.bin .lss 41 (.c (.int .i64 0))))] 43 42,
 ao 44 (.mv 43),
 .grp 44 false [(pg 45 44 false (.fa 7 1)), (pg 46 44 false (.load false 1 45)), (pg 47 44 false (.bin .gtr 46 (.c (.int .i64 4294967295))))] 48 47]) (.cond 48 (.seq (.reg [ao 2 (.mv (.c (.int .i64 1)))]) (.ret)) (.skip))) (.seq (.reg [ao 2 (.mv (.c (.int .i64 0)))]) (.ret)))))
theorem qbf7 : AC.ok Try.prog (TIof Try.prog) 49 0 (kret [.t 2] (decI .i64)) qw3 := qp (zA (qd.ok qj9) (zA q9c (zA (qd.ok q15) (zA (qd.ok q15) trivial))))
theorem qbi7 (Aa : Bool) (Ab Ac Ad Ae : Int) (Af Ag : List UInt8) (Ah : Int) : den 0 (kret [.t 2] (decI .i64)) qw3 (qk [(0, .agg (qb Aa Ab Ac Ad Ae Af Ag Ah))]) (qi []) (kend (kret [.t 2] (decI .i64))) = qmp Aa Ab Ac Ad Ae Af Ag Ah := by
  rw [q3o]; kernel_rfl
theorem qbi8 : cFn (TIof Try.prog) Try.f43 = some ⟨49, [.t 2], scOf qw3⟩ := by kernel_rfl
def qbi9 (xs : List AV) : Option Int := qf ((qm xs) 0).cells (qmp)
def qts {R : Type} : List AV → (AV → Option R) → Option R := entF qbef qbi9 (AV.int .i64)
theorem q4x {R : Type} : qd Try.prog 43 (qts (R := R)) :=
  qce tabOk follows Try.func43 (by kernel_rfl) qbi8 hdeI qbf7 (qy (by kernel_rfl)) fun xs => qbi7 _ _ _ _ _ _ _ _
def qbf8 : Shp := ⟨[(0, .one (.l (.i .u64))), (1, .one (.l (.i .u64)))], []⟩
def qzi (v0 v1 : Int) : Option Int :=
  (bif (decide (v0 < v1)) then (some (-1 : Int)) else (bif (decide (v0 > v1)) then (some (1 : Int)) else (some (0 : Int))))
def qsx := hull qzi
theorem q4y : qsx = qzi := ql _
def qzj : AC Int :=
  .seq (.reg [ao 4 (.mv (.c (.int .i64 0)))]) (.seq (.block 0 (.seq (.reg [ao 6 (.mv 0),
 ao 7 (.mv 1),
 ao 8 (.bin .lss 6 7),
 ao 5 (.mv 8)]) (.cond 5 (.seq (.reg [ao 4 (.mv (.c (.int .i64 (-1))))]) (.ret)) (.seq (.reg [ao 10 (.mv 0),
 ao 11 (.mv 1),
 ao 12 (.bin .gtr 10 11),
 ao 9 (.mv 12)]) (.cond 9 (.seq (.reg [ao 4 (.mv (.c (.int .i64 1)))]) (.ret)) (.skip)))))) (.seq (.reg [ao 4 (.mv (.c (.int .i64 0)))]) (.ret)))
theorem qbja : AC.ok Try.prog (TIof Try.prog) 13 0 (kret [.t 4] (decI .i64)) qzj := qp trivial
theorem qblu (v0 v1 : Int) : den 0 (kret [.t 4] (decI .i64)) qzj (qk [(0, (.int .u64 v0)), (1, (.int .u64 v1))]) (qi []) (kend (kret [.t 4] (decI .i64))) = qsx v0 v1 := by
  rw [q4y]; kernel_rfl
theorem qblv : cFn (TIof Try.prog) Try.f101 = some ⟨13, [.t 4], scOf qzj⟩ := by kernel_rfl
def qblw (xs : List AV) : Option Int := qsx (gI [(qm xs) 0] 0) (gI [(qm xs) 1] 0)
def qu2 {R : Type} : List AV → (AV → Option R) → Option R := entF qbf8 qblw (AV.int .i64)
theorem q73 {R : Type} : qd Try.prog 101 (qu2 (R := R)) :=
  qce tabOk follows Try.func101 (by kernel_rfl) qblv hdeI qbja (qy (by kernel_rfl)) fun xs => qblu _ _
def qbeg : Shp := ⟨[(0, .st (lk qdj)), (1, .st (lk qdj))], []⟩
def qw4 (Aa : Bool) (Ab Ac : Int) (Aq : Bool) (Ar As : Int) : Option Int :=
  (bif ((!((Aa == Aq) && true)) && Aq) then (some (-1 : Int)) else (bif (!((Aa == Aq) && true)) then (some (1 : Int)) else (bif (Ab != Ar) then (oB (qsx Ab Ar) fun r1 => (some r1)) else (oB (qsx Ac As) fun r2 => (some r2)))))
def qrg := hull qw4
theorem q3p : qrg = qw4 := ql _
def qw5 : AC Int :=
  .seq (.reg [ao 2 (.box 0),
 ao 3 (.box 1),
 ao 4 (.mv (.c (.int .i64 0)))]) (.seq (.block 0 (.seq (.reg [ao 6 (.fa 0 2),
 ao 7 (.load false 1 6),
 ao 8 (.fa 0 3),
 ao 9 (.load false 1 8),
 ao 10 (.eq true false [.b] 7 9),
 ao 11 (.mv 10),
 .grp 11 true [(pg 12 11 true (.fa 0 3)), (pg 13 11 true (.load false 1 12))] 14 13,
 ao 5 (.mv 14)]) (.cond 5 (.seq (.reg [ao 4 (.mv (.c (.int .i64 (-1))))]) (.ret)) (.seq (.reg [ao 16 (.fa 0 2),
 ao 17 (.load false 1 16),
 ao 18 (.fa 0 3),
 ao 19 (.load false 1 18),
 ao 20 (.eq true false [.b] 17 19),
 ao 15 (.mv 20)]) (.cond 15 (.seq (.reg [ao 4 (.mv (.c (.int .i64 1)))]) (.ret)) (.seq (.reg [ao 22 (.fa 1 2),
 ao 23 (.load false 1 22),
 ao 24 (.fa 1 3),
 ao 25 (.load false 1 24),
 ao 26 (.bin .neq 23 25),
 ao 21 (.mv 26)]) (.cond 21 (.seq (.reg [ao 27 (.fa 1 2),
 ao 28 (.load false 1 27),
 ao 29 (.fa 1 3),
 ao 30 (.load false 1 29),
 .call (po 31 (.call 101 [28, 30])) 101 qu2,
 ao 4 (.mv 31)]) (.ret)) (.skip)))))))) (.seq (.reg [ao 32 (.fa 2 2),
 ao 33 (.load false 1 32),
 ao 34 (.fa 2 3),
 ao 35 (.load false 1 34),
 .call (po 36 (.call 101 [33, 35])) 101 qu2,
 ao 4 (.mv 36)]) (.ret)))
theorem qbf9 : AC.ok Try.prog (TIof Try.prog) 37 0 (kret [.t 4] (decI .i64)) qw5 := qp (zA (qd.ok q73) (zA (qd.ok q73) trivial))
theorem qbjb (Aa : Bool) (Ab Ac : Int) (Aq : Bool) (Ar As : Int) : den 0 (kret [.t 4] (decI .i64)) qw5 (qk [(0, .agg (qbl Aa Ab Ac)), (1, .agg (qbl Aq Ar As))]) (qi []) (kend (kret [.t 4] (decI .i64))) = qrg Aa Ab Ac Aq Ar As := by
  rw [q3p]; kernel_rfl
theorem qbjc : cFn (TIof Try.prog) Try.f75 = some ⟨37, [.t 4], scOf qw5⟩ := by kernel_rfl
def qbjd (xs : List AV) : Option Int := qcj ((qm xs) 1).cells (qcj ((qm xs) 0).cells (qrg))
def q16 {R : Type} : List AV → (AV → Option R) → Option R := entF qbeg qbjd (AV.int .i64)
theorem qbje {R : Type} : qd Try.prog 75 (q16 (R := R)) :=
  qce tabOk follows Try.func75 (by kernel_rfl) qbjc hdeI qbf9 (qy (by kernel_rfl)) fun xs => qbjb _ _ _ _ _ _
def q9d : Shp := ⟨[(0, .st (lk qe)), (1, .st (lk qe))], []⟩
def qtt (Aa : Bool) (Ab Ac Ad : Int) (Aq : Bool) (Ar As At : Int) : Option Int :=
  (oB (qrg Aa Ab Ac Aq Ar As) fun r1 => (bif (r1 != (0 : Int)) then (some r1) else (bif (decide (Ad < At)) then (some (-1 : Int)) else (bif (decide (Ad > At)) then (some (1 : Int)) else (some (0 : Int))))))
def qka := hull qtt
theorem q0f : qka = qtt := ql _
def qtu : AC Int :=
  .seq (.reg [ao 2 (.box 0),
 ao 3 (.box 1),
 ao 4 (.mv (.c (.int .i64 0)))]) (.seq (.seq (.reg [ao 6 (.fa 0 2),
 ao 7 (.load true 3 6),
 ao 8 (.fa 0 3),
 ao 9 (.load true 3 8),
 .call (po 10 (.call 75 [7, 9])) 75 q16,
 ao 5 (.mv 10)]) (.seq (.reg [ao 11 (.mv 5),
 ao 12 (.bin .neq 11 (.c (.int .i64 0)))]) (.cond 12 (.seq (.reg [ao 13 (.mv 5),
 ao 4 (.mv 13)]) (.ret)) (.skip)))) (.seq (.block 0 (.seq (.reg [ao 15 (.fa 3 2),
 ao 16 (.load false 1 15),
 ao 17 (.fa 3 3),
 ao 18 (.load false 1 17),
 ao 19 (.bin .lss 16 18),
 ao 14 (.mv 19)]) (.cond 14 (.seq (.reg [ao 4 (.mv (.c (.int .i64 (-1))))]) (.ret)) (.seq (.reg [ao 21 (.fa 3 2),
 ao 22 (.load false 1 21),
 ao 23 (.fa 3 3),
 ao 24 (.load false 1 23),
 ao 25 (.bin .gtr 22 24),
 ao 20 (.mv 25)]) (.cond 20 (.seq (.reg [ao 4 (.mv (.c (.int .i64 1)))]) (.ret)) (.skip)))))) (.seq (.reg [ao 4 (.mv (.c (.int .i64 0)))]) (.ret))))
theorem qbb6 : AC.ok Try.prog (TIof Try.prog) 26 0 (kret [.t 4] (decI .i64)) qtu := qp (zA (qd.ok qbje) trivial)
theorem qbeh (Aa : Bool) (Ab Ac Ad : Int) (Aq : Bool) (Ar As At : Int) : den 0 (kret [.t 4] (decI .i64)) qtu (qk [(0, .agg (qc Aa Ab Ac Ad)), (1, .agg (qc Aq Ar As At))]) (qi []) (kend (kret [.t 4] (decI .i64))) = qka Aa Ab Ac Ad Aq Ar As At := by
  rw [q0f]; kernel_rfl
theorem qbei : cFn (TIof Try.prog) Try.f40 = some ⟨26, [.t 4], scOf qtu⟩ := by kernel_rfl
def qbej (xs : List AV) : Option Int := qh ((qm xs) 1).cells (qh ((qm xs) 0).cells (qka))
def qnb {R : Type} : List AV → (AV → Option R) → Option R := entF q9d qbej (AV.int .i64)
theorem qtv {R : Type} : qd Try.prog 40 (qnb (R := R)) :=
  qce tabOk follows Try.func40 (by kernel_rfl) qbei hdeI qbb6 (qy (by kernel_rfl)) fun xs => qbeh _ _ _ _ _ _ _ _
def qm4 (z : AV) : Option (AV × Bool) := cond (qmv [(.st [.b, (.i .u64), (.i .u64), (.i .i64)]), (.one .b)] z) (some ((gC (tpL z) 0), aB (gC (tpL z) 1))) none
def qblx (r : AV × Bool) : AV := .tup [qoa (.st [.b, (.i .u64), (.i .u64), (.i .i64)]) r.1, .bool r.2]
def q3q  (v1 : Int) (Ai : Bool) (Aj Ak : Int) (Au : Bool) (Av Aw Ax : Int) (K : Ex → Env → Mem → Option (AV × Bool)) := (fun z_v20 => K .norm (qk [(1, (.int .i64 v1)), (2, (.ptr 0 0)), (4, (.ptr 1 0)), (20, (.bool z_v20))]) (qi [(some (.box true (qbl Ai Aj Ak))), (some (.box true (qc Au Av Aw Ax)))]))
def qbek : Shp := ⟨[(1, .one (.l (.i .i64))), (2, .one (.ptr 0 0)), (4, .one (.ptr 1 0))], [.box true (lk qdj), .box true (lk qe)]⟩
def qw6  (v1 : Int) (Ai : Bool) (Aj Ak : Int) (Au : Bool) (Av Aw Ax : Int) (kn : Bool → Option (AV × Bool)) : Option (AV × Bool) :=
  (oB (qm9 Ai Aj Ak) fun r1 => (bif ((!r1) || (decide (v1 < (0 : Int)))) then (kn true) else (oB (qjf Ai Aj Ak) fun r2 => (kn (decide (v1 > r2))))))
def qu3 := hull (qw6)
theorem q3r : qu3 = qw6 := ql _
def qr0 : AC (AV × Bool) :=
  .seq (.reg [ao 8 (.load true 3 2),
 .call (po 9 (.call 73 [8])) 73 qoc,
 ao 10 (.un .not 9),
 ao 11 (.mv 10),
 .grp 11 false [(pg 12 11 false (.mv 1)), (pg 13 11 false (.bin .lss 12 (.c (.int .i64 0))))] 14 13,
 ao 15 (.mv 14),
 ag 16 15 false (.mv 1),
 ag 17 15 false (.load true 3 2),
 .call (pg 18 15 false (.call 76 [17])) 76 qlx,
 ag 19 15 false (.bin .gtr 16 18),
 ao 20 (.pick 15 (.c (.bool true)) 19)]) (.view [.sel [1, 2, 4, 20] [0, 1]])
theorem qbga : AC.ok Try.prog (TIof Try.prog) 42 0 (kret [(.cell 4 true 4), .t 5] qm4) qr0 := qp (zA (qd.ok quy) (zA (qd.ok qqj) trivial))
theorem qbjf (v1 : Int) (Ai : Bool) (Aj Ak : Int) (Au : Bool) (Av Aw Ax : Int) (K : Ex → Env → Mem → Option (AV × Bool)) : den 0 (kret [(.cell 4 true 4), .t 5] qm4) qr0 (qk [(1, (.int .i64 v1)), (2, (.ptr 0 0)), (4, (.ptr 1 0))]) (qi [(some (.box true (qbl Ai Aj Ak))), (some (.box true (qc Au Av Aw Ax)))]) K = qu3 v1 Ai Aj Ak Au Av Aw Ax (q3q v1 Ai Aj Ak Au Av Aw Ax K) := by
  rw [q3r]; kernel_rfl
def q4z := subE (R := AV × Bool) qbek fun t m K => qh (bxC (m.s 1)) (qcj (bxC (m.s 0)) (qu3 (gI [t 1] 0))) (q3q (gI [t 1] 0) (gB (bxC (m.s 0)) 0) (gI (bxC (m.s 0)) 1) (gI (bxC (m.s 0)) 2) (gB (bxC (m.s 1)) 0) (gI (bxC (m.s 1)) 1) (gI (bxC (m.s 1)) 2) (gI (bxC (m.s 1)) 3) K)
theorem qbjg : qdb Try.prog (TIof Try.prog) 42 0 (kret [(.cell 4 true 4), .t 5] qm4) (scOf qr0) (q4z) :=
  qis tabOk follows (qbga) (qy (by kernel_rfl)) fun t m K => qbjf _ _ _ _ _ _ _ _ K
def qbly : Shp := ⟨[(0, .st (lk qdj)), (1, .one (.l (.i .i64)))], []⟩
def q4h (Aa : Bool) (Ab Ac v1 : Int) : Option (AV × Bool) :=
  (qu3 v1 Aa Ab Ac false (0 : Int) (0 : Int) (0 : Int) (fun v20q1 => (bif v20q1 then (some ((.agg [(.bool false), (.int .u64 (0 : Int)), (.int .u64 (0 : Int)), (.int .i64 (0 : Int))]), false)) else (oB (qmo Aa v1) fun r2 => (some ((.agg [(.bool Aa), (.int .u64 (qcg .andNot .u64 Ab r2.1)), (.int .u64 (qcg .andNot .u64 Ac r2.2)), (.int .i64 v1)]), true))))))
def qrh := hull q4h
theorem q9e : qrh = q4h := ql _
def q4i : AC (AV × Bool) :=
  .seq (.reg [ao 2 (.box 0),
 ao 4 (.alloc [(.bool false), (.int .u64 0), (.int .u64 0), (.int .i64 0)]),
 ao 5 (.mv (.c (.bool false)))]) (.seq (.seq (.seq (.view [.sel [1, 2, 4] [0, 1]]) (.sub (scOf qr0) q4z)) (.cond 20 (.seq (.reg [ao 21 (.build [(.bool false), (.int .u64 0), (.int .u64 0), (.int .i64 0)] []),
 an (.store 4 4 21),
 ao 5 (.mv (.c (.bool false)))]) (.ret)) (.skip))) (.seq (.reg [ao 23 (.fa 0 2),
 ao 24 (.load false 1 23),
 ao 25 (.mv 1),
 .call (po 26 (.call 72 [24, 25])) 72 qou,
 ao 22 (.mv 26),
 ao 27 (.ext 22 0),
 ao 28 (.ext 22 1),
 ao 6 (.mv 27),
 ao 7 (.mv 28)]) (.seq (.reg [ao 29 (.fa 1 2),
 ao 30 (.load false 1 29),
 ao 31 (.mv 6),
 ao 32 (.bin .andNot 30 31),
 ao 33 (.fa 1 2),
 an (.store 1 33 32)]) (.seq (.reg [ao 34 (.fa 2 2),
 ao 35 (.load false 1 34),
 ao 36 (.mv 7),
 ao 37 (.bin .andNot 35 36),
 ao 38 (.fa 2 2),
 an (.store 1 38 37)]) (.seq (.reg [ao 39 (.load true 3 2),
 ao 40 (.mv 1),
 ao 41 (.build [(.bool false), (.int .u64 0), (.int .u64 0), (.int .i64 0)] [(0, (3, 39)), (3, (1, 40))]),
 an (.store 4 4 41),
 ao 5 (.mv (.c (.bool true)))]) (.ret))))))
theorem qbm9 : AC.ok Try.prog (TIof Try.prog) 42 0 (kret [(.cell 4 true 4), .t 5] qm4) q4i := qp (zA qbjg (zA (qd.ok qwx) trivial))
theorem qbo6 (Aa : Bool) (Ab Ac v1 : Int) : den 0 (kret [(.cell 4 true 4), .t 5] qm4) q4i (qk [(0, .agg (qbl Aa Ab Ac)), (1, (.int .i64 v1))]) (qi []) (kend (kret [(.cell 4 true 4), .t 5] qm4)) = qrh Aa Ab Ac v1 := by
  rw [q9e]; kernel_rfl
theorem qbo7 : cFn (TIof Try.prog) Try.f41 = some ⟨42, [(.cell 4 true 4), .t 5], scOf q4i⟩ := by kernel_rfl
def qbo8 (xs : List AV) : Option (AV × Bool) := qcj ((qm xs) 0).cells (qrh) (gI [(qm xs) 1] 0)
def qzk {R : Type} : List AV → (AV → Option R) → Option R := entF qbly qbo8 qblx
theorem qbdm {R : Type} : qd Try.prog 41 (qzk (R := R)) :=
  qce tabOk follows Try.func41 (by kernel_rfl) qbo7 (fun z r h => by
 obtain ⟨h1, h2⟩ := qo h
 cases h2
 exact (qhm h1).symm) qbm9 (qy (by kernel_rfl)) fun xs => qbo6 _ _ _ _
def q8j : Shp := ⟨[(0, .st (lk qe)), (1, .st (lk qdj))], []⟩
def qsd (Aa : Bool) (Ab Ac Ad : Int) (Aq : Bool) (Ar As : Int) : Option Bool :=
  (oB (qfu Aa Ab Ac Ad) fun r1 => (bif ((!r1) || (!((Aa == Aq) && true))) then (some false) else (oB (qrh Aq Ar As Ad) fun r2 => (some (r2.2 && (((gB r2.1.cells 0) == Aa) && (((gI r2.1.cells 1) == Ab) && (((gI r2.1.cells 2) == Ac) && (((gI r2.1.cells 3) == Ad) && true)))))))))
def qgm := hull qsd
theorem qyd : qgm = qsd := ql _
def qse : AC Bool :=
  .seq (.reg [ao 2 (.box 0),
 ao 3 (.box 1),
 ao 4 (.mv (.c (.bool false)))]) (.seq (.seq (.reg [ao 7 (.load true 4 2),
 .call (po 8 (.call 71 [7])) 71 qfv,
 ao 9 (.un .not 8),
 ao 10 (.mv 9),
 .grp 10 false [(pg 11 10 false (.fa 0 2)), (pg 12 10 false (.fa 0 11)), (pg 13 10 false (.load false 1 12)), (pg 14 10 false (.fa 0 3)), (pg 15 10 false (.load false 1 14)), (pg 16 10 false (.eq true false [.b] 13 15))] 17 16]) (.cond 17 (.seq (.reg [ao 4 (.mv (.c (.bool false)))]) (.ret)) (.skip))) (.seq (.reg [ao 19 (.load true 3 3),
 ao 20 (.fa 3 2),
 ao 21 (.load false 1 20),
 .call (po 22 (.call 41 [19, 21])) 41 qzk,
 ao 18 (.mv 22),
 ao 23 (.ext 18 0),
 ao 24 (.ext 18 1),
 ao 5 (.alloc [(.bool false), (.int .u64 0), (.int .u64 0), (.int .i64 0)]),
 an (.store 4 5 23),
 ao 6 (.mv 24)]) (.seq (.reg [ao 25 (.mv 6),
 ao 26 (.mv 25),
 .grp 26 true [(pg 27 26 true (.load true 4 5)), (pg 28 26 true (.load true 4 2)), (pg 29 26 true (.eq false true [.b, (.i .u64), (.i .u64), (.i .i64)] 27 28))] 30 29,
 ao 4 (.mv 30)]) (.ret))))
theorem q9f : AC.ok Try.prog (TIof Try.prog) 31 0 (kret [.t 4] decB) qse := qp (zA (qd.ok qj9) (zA (qd.ok qbdm) trivial))
theorem qbb7 (Aa : Bool) (Ab Ac Ad : Int) (Aq : Bool) (Ar As : Int) : den 0 (kret [.t 4] decB) qse (qk [(0, .agg (qc Aa Ab Ac Ad)), (1, .agg (qbl Aq Ar As))]) (qi []) (kend (kret [.t 4] decB)) = qgm Aa Ab Ac Ad Aq Ar As := by
  rw [qyd]; kernel_rfl
theorem qbb8 : cFn (TIof Try.prog) Try.f35 = some ⟨31, [.t 4], scOf qse⟩ := by kernel_rfl
def qbb9 (xs : List AV) : Option Bool := qcj ((qm xs) 1).cells (qh ((qm xs) 0).cells (qgm))
def qjs {R : Type} : List AV → (AV → Option R) → Option R := entF q8j qbb9 AV.bool
theorem qnz {R : Type} : qd Try.prog 35 (qjs (R := R)) :=
  qce tabOk follows Try.func35 (by kernel_rfl) qbb8 hdeB q9f (qy (by kernel_rfl)) fun xs => qbb7 _ _ _ _ _ _ _
def qbca : Shp := ⟨[(0, .st (lk qe)), (1, .st (lk qe))], []⟩
def qu4 (Aa : Bool) (Ab Ac Ad : Int) (Aq : Bool) (Ar As At : Int) : Option Bool :=
  (oB (qfu Aa Ab Ac Ad) fun r1 => (bif r1 then (oB (qfu Aq Ar As At) fun r2 => (bif (r2 && (decide (Ad ≥ At))) then (oB (qgm Aq Ar As At Aa Ab Ac) fun r3 => (some r3)) else (some false))) else (some false)))
def qg3 := hull qu4
theorem q17 : qg3 = qu4 := ql _
def qu5 : AC Bool :=
  .seq (.reg [ao 2 (.box 0),
 ao 3 (.box 1),
 ao 4 (.mv (.c (.bool false)))]) (.seq (.reg [ao 5 (.load true 4 2),
 .call (po 6 (.call 71 [5])) 71 qfv,
 ao 7 (.mv 6),
 ag 8 7 true (.load true 4 3),
 .call (pg 9 7 true (.call 71 [8])) 71 qfv,
 ao 10 (.pick 7 9 (.c (.bool false))),
 ao 11 (.mv 10),
 .grp 11 true [(pg 12 11 true (.fa 3 2)), (pg 13 11 true (.load false 1 12)), (pg 14 11 true (.fa 3 3)), (pg 15 11 true (.load false 1 14)), (pg 16 11 true (.bin .geq 13 15))] 17 16,
 ao 18 (.mv 17),
 ag 19 18 true (.load true 4 3),
 ag 20 18 true (.fa 0 2),
 ag 21 18 true (.load true 3 20),
 .call (pg 22 18 true (.call 35 [19, 21])) 35 qjs,
 ao 23 (.pick 18 22 (.c (.bool false))),
 ao 4 (.mv 23)]) (.ret))
theorem qbel : AC.ok Try.prog (TIof Try.prog) 24 0 (kret [.t 4] decB) qu5 := qp (zA (qd.ok qj9) (zA (qd.ok qj9) (zA (qd.ok qnz) trivial)))
theorem qbgb (Aa : Bool) (Ab Ac Ad : Int) (Aq : Bool) (Ar As At : Int) : den 0 (kret [.t 4] decB) qu5 (qk [(0, .agg (qc Aa Ab Ac Ad)), (1, .agg (qc Aq Ar As At))]) (qi []) (kend (kret [.t 4] decB)) = qg3 Aa Ab Ac Ad Aq Ar As At := by
  rw [q17]; kernel_rfl
theorem qbgc : cFn (TIof Try.prog) Try.f37 = some ⟨24, [.t 4], scOf qu5⟩ := by kernel_rfl
def qbgd (xs : List AV) : Option Bool := qh ((qm xs) 1).cells (qh ((qm xs) 0).cells (qg3))
def qix {R : Type} : List AV → (AV → Option R) → Option R := entF qbca qbgd AV.bool
theorem qnc {R : Type} : qd Try.prog 37 (qix (R := R)) :=
  qce tabOk follows Try.func37 (by kernel_rfl) qbgc hdeB qbel (qy (by kernel_rfl)) fun xs => qbgb _ _ _ _ _ _ _ _
def qbge : Shp := ⟨[(0, .st (lk qe)), (1, .st (lk qe))], []⟩
def qzl (Aa : Bool) (Ab Ac Ad : Int) (Aq : Bool) (Ar As At : Int) : Option Bool :=
  (bif (decide (Ad > At)) then (oB (qg3 Aa Ab Ac Ad Aq Ar As At) fun r1 => (some r1)) else (some false))
def qgy := hull qzl
theorem q40 : qgy = qzl := ql _
def qzm : AC Bool :=
  .seq (.reg [ao 2 (.box 0),
 ao 3 (.box 1),
 ao 4 (.mv (.c (.bool false)))]) (.seq (.reg [ao 5 (.fa 3 2),
 ao 6 (.load false 1 5),
 ao 7 (.fa 3 3),
 ao 8 (.load false 1 7),
 ao 9 (.bin .gtr 6 8),
 ao 10 (.mv 9),
 ag 11 10 true (.load true 4 2),
 ag 12 10 true (.load true 4 3),
 .call (pg 13 10 true (.call 37 [11, 12])) 37 qix,
 ao 14 (.pick 10 13 (.c (.bool false))),
 ao 4 (.mv 14)]) (.ret))
theorem qbjh : AC.ok Try.prog (TIof Try.prog) 15 0 (kret [.t 4] decB) qzm := qp (zA (qd.ok qnc) trivial)
theorem qblz (Aa : Bool) (Ab Ac Ad : Int) (Aq : Bool) (Ar As At : Int) : den 0 (kret [.t 4] decB) qzm (qk [(0, .agg (qc Aa Ab Ac Ad)), (1, .agg (qc Aq Ar As At))]) (qi []) (kend (kret [.t 4] decB)) = qgy Aa Ab Ac Ad Aq Ar As At := by
  rw [q40]; kernel_rfl
theorem qbl0 : cFn (TIof Try.prog) Try.f64 = some ⟨15, [.t 4], scOf qzm⟩ := by kernel_rfl
def qbl1 (xs : List AV) : Option Bool := qh ((qm xs) 1).cells (qh ((qm xs) 0).cells (qgy))
def qgn {R : Type} : List AV → (AV → Option R) → Option R := entF qbge qbl1 AV.bool
theorem qll {R : Type} : qd Try.prog 64 (qgn (R := R)) :=
  qce tabOk follows Try.func64 (by kernel_rfl) qbl0 hdeB qbjh (qy (by kernel_rfl)) fun xs => qblz _ _ _ _ _ _ _ _
def qbcb : Shp := ⟨[(0, .st (lk qa)), (1, .st (lk qa))], []⟩
def qu6 (Aa : Bool) (Ab Ac Ad Ae : Int) (Af Ag : List UInt8) (Ah : Int) (Aq : Bool) (Ar As At Ay : Int) (Az A0 : List UInt8) (A1 : Int) : Option Bool :=
  (bif (Ae == (1 : Int)) then (some true) else (bif (Ae == (2 : Int)) then (some (Ay == (3 : Int))) else (some false)))
def qpj := hull qu6
theorem q18 : qpj = qu6 := ql _
def qu7 : AC Bool :=
  .seq (.reg [ao 2 (.box 0),
 ao 3 (.box 1),
 ao 4 (.mv (.c (.bool false)))]) (.seq (.reg [ao 5 (.fa 4 2),
 ao 6 (.load false 1 5),
 ao 7 (.bin .eql 6 (.c (.int .i64 1))),
 ao 8 (.mv 7),
 ag 9 8 false (.fa 4 2),
 ag 10 8 false (.load false 1 9),
 ag 11 8 false (.bin .eql 10 (.c (.int .i64 2))),
 ag 12 8 false (.mv 11),
 ag 13 12 true (.fa 4 3),
 ag 14 12 true (.load false 1 13),
 ag 15 12 true (.bin .eql 14 (.c (.int .i64 3))),
 ag 16 8 false (.pick 12 15 (.c (.bool false))),
 ao 17 (.pick 8 (.c (.bool true)) 16),
 ao 4 (.mv 17)]) (.ret))
theorem qbem : AC.ok Try.prog (TIof Try.prog) 18 0 (kret [.t 4] decB) qu7 := qp trivial
theorem qbgf (Aa : Bool) (Ab Ac Ad Ae : Int) (Af Ag : List UInt8) (Ah : Int) (Aq : Bool) (Ar As At Ay : Int) (Az A0 : List UInt8) (A1 : Int) : den 0 (kret [.t 4] decB) qu7 (qk [(0, .agg (qb Aa Ab Ac Ad Ae Af Ag Ah)), (1, .agg (qb Aq Ar As At Ay Az A0 A1))]) (qi []) (kend (kret [.t 4] decB)) = qpj Aa Ab Ac Ad Ae Af Ag Ah Aq Ar As At Ay Az A0 A1 := by
  rw [q18]; kernel_rfl
theorem qbgg : cFn (TIof Try.prog) Try.f80 = some ⟨18, [.t 4], scOf qu7⟩ := by kernel_rfl
def qbgh (xs : List AV) : Option Bool := qf ((qm xs) 1).cells (qf ((qm xs) 0).cells (qpj))
def q0g {R : Type} : List AV → (AV → Option R) → Option R := entF qbcb qbgh AV.bool
theorem qbgi {R : Type} : qd Try.prog 80 (q0g (R := R)) :=
  qce tabOk follows Try.func80 (by kernel_rfl) qbgg hdeB qbem (qy (by kernel_rfl)) fun xs => qbgf _ _ _ _ _ _ _ _ _ _ _ _ _ _ _ _
def q4j : Shp := ⟨[(0, .st (lk qa)), (1, .one (.ptr 0 0))], [.box true (lk qa)]⟩
def que {R : Type} (KK : AV → Mem → Option R) := (fun v3 Ai Aj Ak Al Am An Ao Ap => KK (.bool v3) (qi [(some (.box true [(.bool Ai), (.int .u64 Aj), (.int .u64 Ak), (.int .i64 Al), (.int .i64 Am), (.str An), (.str Ao), (.int .i64 Ap)]))]))
def qow {R : Type}  (Aa : Bool) (Ab Ac Ad Ae : Int) (Af Ag : List UInt8) (Ah : Int) (Ai : Bool) (Aj Ak Al Am : Int) (An Ao : List UInt8) (Ap : Int) (kr : Bool → Bool → Int → Int → Int → Int → (List UInt8) → (List UInt8) → Int → Option R) : Option R :=
  (oB (qgy Ai Aj Ak Al Aa Ab Ac Ad) fun r1 => (bif r1 then (oB (qpj Aa Ab Ac Ad Ae Af Ag Ah Ai Aj Ak Al Am An Ao Ap) fun r2 => (kr (!r2) Ai Aj Ak Al Am An Ao Ap)) else (kr false Ai Aj Ak Al Am An Ao Ap)))
def qk0 {R : Type} := hull (qow (R := R))
theorem quf {R : Type} : qk0 (R := R) = qow := ql _
def qf6 {R : Type} (KK : AV → Mem → Option R) : AC R :=
  .seq (.reg [ao 2 (.box 0),
 ao 3 (.mv (.c (.bool false)))]) (.seq (.reg [ao 4 (.fa 0 1),
 ao 5 (.load true 4 4),
 ao 6 (.fa 0 2),
 ao 7 (.load true 4 6),
 .call (po 8 (.call 64 [5, 7])) 64 qgn,
 ao 9 (.mv 8),
 ag 10 9 true (.load true 8 2),
 ag 11 9 true (.load true 8 1),
 .call (pg 12 9 true (.call 80 [10, 11])) 80 q0g,
 ag 13 9 true (.un .not 12),
 ao 14 (.pick 9 13 (.c (.bool false))),
 ao 3 (.mv 14)]) (.seq (.view [.sel [3] [0]]) (.ret)))
theorem q41 {R : Type} (KK : AV → Mem → Option R) : AC.ok Try.prog (TIof Try.prog) 15 1 (qn [.t 3] KK) (qf6 KK) := qp (zA (qd.ok qll) (zA (qd.ok qbgi) trivial))
theorem q6f {R : Type} (KK : AV → Mem → Option R) (Aa : Bool) (Ab Ac Ad Ae : Int) (Af Ag : List UInt8) (Ah : Int) (Ai : Bool) (Aj Ak Al Am : Int) (An Ao : List UInt8) (Ap : Int) : den 1 (qn [.t 3] KK) (qf6 KK) (qk [(0, .agg (qb Aa Ab Ac Ad Ae Af Ag Ah)), (1, (.ptr 0 0))]) (qi [(some (.box true (qb Ai Aj Ak Al Am An Ao Ap)))]) (kend (qn [.t 3] KK)) = qk0 Aa Ab Ac Ad Ae Af Ag Ah Ai Aj Ak Al Am An Ao Ap (que KK) := by
  rw [quf]; kernel_rfl
theorem q6g : cFn (TIof Try.prog) Try.f79 = some ⟨15, [.t 3], scOf (qf6 (R := Unit) (fun _ _ => none))⟩ := by kernel_rfl
theorem q6h {R : Type} (KK : AV → Mem → Option R) : (qf6 KK).er = some (scOf (qf6 (R := Unit) (fun _ _ => none))) := by kernel_rfl
def qu8 {R : Type} : List AV → Mem → (AV → Mem → Option R) → Option R := refE q4j fun xs m KK => qf (bxC (m.s 0)) (qf ((qm xs) 0).cells (qk0)) (que KK)
theorem q6i {R : Type} : qfp Try.prog 79 (qu8 (R := R)) :=
  qld (ac := fun KK => qf6 KK) tabOk follows Try.func79 (by kernel_rfl) q6g (fun KK => q41 KK) (fun KK => q6h KK) rfl fun xs m KK => q6f KK _ _ _ _ _ _ _ _ _ _ _ _ _ _ _ _
def qbr {R : Type}  (K : Ex → Env → Mem → Option R) := (fun z_b0_0 z_b0_1 z_b0_2 z_b0_3 z_b0_4 z_b0_5 z_b0_6 z_b0_7 => K (.exit 0) (qk []) (qi [(some (.box true (qb z_b0_0 z_b0_1 z_b0_2 z_b0_3 z_b0_4 z_b0_5 z_b0_6 z_b0_7)))]))
def qbt {R : Type} (KK : AV → Mem → Option R) := (fun v4 Ai Aj Ak Al Am An Ao Ap => KK (.int .i64 v4) (qi [(some (.box true [(.bool Ai), (.int .u64 Aj), (.int .u64 Ak), (.int .i64 Al), (.int .i64 Am), (.str An), (.str Ao), (.int .i64 Ap)]))]))
def qhd : Shp := ⟨[(0, .one (.l (.sl 8))), (1, .one (.fn 79 [(0, 0)])), (7, .one (.l (.i .i64))), (8, .one (.l (.i .i64)))], [.box true (lk qa)]⟩
def qcr (v0 : List AV) (v7 v8 : Int) (Ai : Bool) (Aj Ak Al Am : Int) (An Ao : List UInt8) (Ap : Int) : Env := qk [(0, (.sl 8 v0)), (1, (.func 79 [(.ptr 0 0)])), (7, (.int .i64 v7)), (8, (.int .i64 v8))]
def qcs (v0 : List AV) (v7 v8 : Int) (Ai : Bool) (Aj Ak Al Am : Int) (An Ao : List UInt8) (Ap : Int) : Mem := qi [(some (.box true (qb Ai Aj Ak Al Am An Ao Ap)))]
def qv {R : Type}  (v0 : List AV) (v7 v8 : Int) (Ai : Bool) (Aj Ak Al Am : Int) (An Ao : List UInt8) (Ap : Int) (next : Int → Bool → Int → Int → Int → Int → (List UInt8) → (List UInt8) → Int → Option R) (kx0 : Bool → Int → Int → Int → Int → (List UInt8) → (List UInt8) → Int → Option R) (kr : Int → Bool → Int → Int → Int → Int → (List UInt8) → (List UInt8) → Int → Option R) : Option R :=
  (bif (decide (v8 < v7)) then (oB (ixB v0 v8) fun y1 => (bif fitC qa y1.cells then (qk0 (gB y1.cells 0) (gI y1.cells 1) (gI y1.cells 2) (gI y1.cells 3) (gI y1.cells 4) (gS y1.cells 5) (gS y1.cells 6) (gI y1.cells 7) Ai Aj Ak Al Am An Ao Ap fun v3q2 b0_0q3 b0_1q4 b0_2q5 b0_3q6 b0_4q7 b0_5q8 b0_6q9 b0_7q10 => (bif v3q2 then (kr v8 b0_0q3 b0_1q4 b0_2q5 b0_3q6 b0_4q7 b0_5q8 b0_6q9 b0_7q10) else (next (IntKind.i64.wrap (v8 + (1 : Int))) b0_0q3 b0_1q4 b0_2q5 b0_3q6 b0_4q7 b0_5q8 b0_6q9 b0_7q10))) else none)) else (kx0 Ai Aj Ak Al Am An Ao Ap))
def qbx {R : Type}  (v0 : List AV) (v7 : Int) (kx0 : Bool → Int → Int → Int → Int → (List UInt8) → (List UInt8) → Int → Option R) (kr : Int → Bool → Int → Int → Int → Int → (List UInt8) → (List UInt8) → Int → Option R) : Nat → Int → Bool → Int → Int → Int → Int → (List UInt8) → (List UInt8) → Int → Option R
  | 0 => (fun _ _ _ _ _ _ _ _ _ => none)
  | n + 1 => (fun v8 Ai Aj Ak Al Am An Ao Ap => qv v0 v7 v8 Ai Aj Ak Al Am An Ao Ap (qbx v0 v7 kx0 kr n) kx0 kr)
def qb5 {R : Type} := hull (qbx (R := R))
theorem qdr {R : Type} : qb5 (R := R) = qbx := ql _
def qw {R : Type} (KK : AV → Mem → Option R) : AC R :=
  .seq (.reg [ao 9 (.bin .lss 8 7)]) (.seq (.cond 9 (.skip) (.seq (.view [.sel [] [0]]) (.exit 0))) (.seq (.block 1 (.seq (.reg [ao 10 (.mv 8),
 ao 5 (.mv 10)]) (.seq (.reg [ao 11 (.mv 1),
 ao 12 (.mv 0),
 ao 13 (.mv 5),
 ao 14 (.ia 8 12 13),
 .st (.etac 14 qa),
 ao 15 (.load true 8 14),
 .st (.sel [0, 1, 5, 7, 8, 11, 15] [0]),
 .callr (po 16 (.callv 11 [15])) 79 qu8]) (.cond 16 (.seq (.reg [ao 17 (.mv 5),
 ao 4 (.mv 17)]) (.seq (.view [.sel [4] [0]]) (.ret))) (.skip))))) (.seq (.reg [ao 18 (.bin .add 8 (.c (.int .i64 1))),
 ao 8 (.mv 18)]) (.view [.sel [0, 1, 7, 8] [0]]))))
theorem qhv {R : Type} (KK : AV → Mem → Option R) : AC.ok Try.prog (TIof Try.prog) 19 1 (qn [.t 4] KK) (qw KK) := qp (zA q6i trivial)
theorem qhe {R : Type} (KK : AV → Mem → Option R) (v0 : List AV) (v7 v8 : Int) (Ai : Bool) (Aj Ak Al Am : Int) (An Ao : List UInt8) (Ap : Int) (K : Ex → Env → Mem → Option R) : den 1 (qn [.t 4] KK) (qw KK) (qcr v0 v7 v8 Ai Aj Ak Al Am An Ao Ap) (qcs v0 v7 v8 Ai Aj Ak Al Am An Ao Ap) K = qv v0 v7 v8 Ai Aj Ak Al Am An Ao Ap (fun z_v8 z_b0_0 z_b0_1 z_b0_2 z_b0_3 z_b0_4 z_b0_5 z_b0_6 z_b0_7 => K .norm (qcr v0 v7 z_v8 z_b0_0 z_b0_1 z_b0_2 z_b0_3 z_b0_4 z_b0_5 z_b0_6 z_b0_7) (qcs v0 v7 z_v8 z_b0_0 z_b0_1 z_b0_2 z_b0_3 z_b0_4 z_b0_5 z_b0_6 z_b0_7)) (qbr K) (qbt KK) := by kernel_rfl
theorem qh6 {R : Type} (KK : AV → Mem → Option R) (v0 : List AV) (v7 : Int) (K : Ex → Env → Mem → Option R) : ∀ (n : Nat) (v8 : Int) (Ai : Bool) (Aj Ak Al Am : Int) (An Ao : List UInt8) (Ap : Int), qgc (den 1 (qn [.t 4] KK) (qw KK)) n (qcr v0 v7 v8 Ai Aj Ak Al Am An Ao Ap) (qcs v0 v7 v8 Ai Aj Ak Al Am An Ao Ap) K = qb5 v0 v7 (qbr K) (qbt KK) n v8 Ai Aj Ak Al Am An Ao Ap := by
  rw [qdr]
  intro n
  induction n with
  | zero => intros; rfl
  | succ n ih =>
 intro v8 Ai Aj Ak Al Am An Ao Ap
 exact (qhe KK v0 v7 v8 Ai Aj Ak Al Am An Ao Ap (itK (den 1 (qn [.t 4] KK) (qw KK)) n K)).trans (congrArg (fun q => qv v0 v7 v8 Ai Aj Ak Al Am An Ao Ap q (qbr K) (qbt KK)) (funext fun v8 => funext fun Ai => funext fun Aj => funext fun Ak => funext fun Al => funext fun Am => funext fun An => funext fun Ao => funext fun Ap => ih v8 Ai Aj Ak Al Am An Ao Ap))
def qd0 {R : Type} (KK : AV → Mem → Option R) := subE (R := R) qhd fun t m K => qf (bxC (m.s 0)) (qb5 (gL [t 0] 0) (gI [t 7] 0) (qbr K) (qbt KK) FU (gI [t 8] 0))
theorem qh7 {R : Type} (KK : AV → Mem → Option R) : qdb Try.prog (TIof Try.prog) 19 1 (qn [.t 4] KK) (.loop (scOf (qw KK))) (qd0 KK) :=
  qgd tabOk follows (qhv KK) (qy (by kernel_rfl)) fun t m K => qh6 KK _ _ K FU _ _ _ _ _ _ _ _ _
def qif : Shp := ⟨[(0, .one (.l (.sl 8))), (1, .one (.fn 79 [(0, 0)]))], [.box true (lk qa)]⟩
def qeg {R : Type} (KK : AV → Mem → Option R) := (fun v4 Ai Aj Ak Al Am An Ao Ap => KK (.int .i64 v4) (qi [(some (.box true [(.bool Ai), (.int .u64 Aj), (.int .u64 Ak), (.int .i64 Al), (.int .i64 Am), (.str An), (.str Ao), (.int .i64 Ap)]))]))
def qc4 {R : Type}  (v0 : List AV) (Ai : Bool) (Aj Ak Al Am : Int) (An Ao : List UInt8) (Ap : Int) (kr : Int → Bool → Int → Int → Int → Int → (List UInt8) → (List UInt8) → Int → Option R) : Option R :=
  (qb5 v0 (v0.length : Int) (fun b0_0q1 b0_1q2 b0_2q3 b0_3q4 b0_4q5 b0_5q6 b0_6q7 b0_7q8 => (kr (-1 : Int) b0_0q1 b0_1q2 b0_2q3 b0_3q4 b0_4q5 b0_5q6 b0_6q7 b0_7q8)) kr FU (0 : Int) Ai Aj Ak Al Am An Ao Ap)
def qbn {R : Type} := hull (qc4 (R := R))
theorem qeh {R : Type} : qbn (R := R) = qc4 := ql _
def qbc {R : Type} (KK : AV → Mem → Option R) : AC R :=
  .seq (.reg [ao 4 (.mv (.c (.int .i64 0)))]) (.seq (.seq (.reg [ao 6 (.mv 0),
 ao 7 (.len false 6),
 ao 8 (.mv (.c (.int .i64 0)))]) (.block 0 (.seq (.view [.sel [0, 1, 7, 8] [0]]) (.sub (.loop (scOf (qw KK))) (qd0 KK))))) (.seq (.reg [ao 4 (.mv (.c (.int .i64 (-1))))]) (.seq (.view [.sel [4] [0]]) (.ret))))
theorem qi6 {R : Type} (KK : AV → Mem → Option R) : AC.ok Try.prog (TIof Try.prog) 19 1 (qn [.t 4] KK) (qbc KK) := qp (zA (qh7 KK) trivial)
theorem qji {R : Type} (KK : AV → Mem → Option R) (v0 : List AV) (Ai : Bool) (Aj Ak Al Am : Int) (An Ao : List UInt8) (Ap : Int) : den 1 (qn [.t 4] KK) (qbc KK) (qk [(0, (.sl 8 v0)), (1, (.func 79 [(.ptr 0 0)]))]) (qi [(some (.box true (qb Ai Aj Ak Al Am An Ao Ap)))]) (kend (qn [.t 4] KK)) = qbn v0 Ai Aj Ak Al Am An Ao Ap (qeg KK) := by
  rw [qeh]; kernel_rfl
theorem qjj : cFn (TIof Try.prog) Try.f88 = some ⟨19, [.t 4], scOf (qbc (R := Unit) (fun _ _ => none))⟩ := by kernel_rfl
theorem qjk {R : Type} (KK : AV → Mem → Option R) : (qbc KK).er = some (scOf (qbc (R := Unit) (fun _ _ => none))) := by kernel_rfl
def qew {R : Type} : List AV → Mem → (AV → Mem → Option R) → Option R := refE qif fun xs m KK => qf (bxC (m.s 0)) (qbn (gL [(qm xs) 0] 0)) (qeg KK)
theorem qjl {R : Type} : qfp Try.prog 88 (qew (R := R)) :=
  qld (ac := fun KK => qbc KK) tabOk follows Try.func88 (by kernel_rfl) qjj (fun KK => qi6 KK) (fun KK => qjk KK) rfl fun xs m KK => qji KK _ _ _ _ _ _ _ _ _
def qhf : Shp := ⟨[(0, .one (.l (.sl 8))), (1, .one (.fn 79 [(0, 0)]))], [.box true (lk qa)]⟩
def qds {R : Type} (KK : AV → Mem → Option R) := (fun v4 Ai Aj Ak Al Am An Ao Ap => KK (.bool v4) (qi [(some (.box true [(.bool Ai), (.int .u64 Aj), (.int .u64 Ak), (.int .i64 Al), (.int .i64 Am), (.str An), (.str Ao), (.int .i64 Ap)]))]))
def qcv {R : Type}  (v0 : List AV) (Ai : Bool) (Aj Ak Al Am : Int) (An Ao : List UInt8) (Ap : Int) (kr : Bool → Bool → Int → Int → Int → Int → (List UInt8) → (List UInt8) → Int → Option R) : Option R :=
  (qbn v0 Ai Aj Ak Al Am An Ao Ap fun v4q1 b0_0q2 b0_1q3 b0_2q4 b0_3q5 b0_4q6 b0_5q7 b0_6q8 b0_7q9 => (kr (decide (v4q1 ≥ (0 : Int))) b0_0q2 b0_1q3 b0_2q4 b0_3q5 b0_4q6 b0_5q7 b0_6q8 b0_7q9))
def qb6 {R : Type} := hull (qcv (R := R))
theorem qdt {R : Type} : qb6 (R := R) = qcv := ql _
def qx {R : Type} (KK : AV → Mem → Option R) : AC R :=
  .seq (.reg [ao 4 (.mv (.c (.bool false)))]) (.seq (.reg [ao 5 (.mv 0),
 ao 6 (.mv 1),
 .st (.sel [5, 6] [0]),
 .callr (po 7 (.call 88 [5, 6])) 88 qew,
 ao 8 (.bin .geq 7 (.c (.int .i64 0))),
 ao 4 (.mv 8)]) (.seq (.view [.sel [4] [0]]) (.ret)))
theorem qhw {R : Type} (KK : AV → Mem → Option R) : AC.ok Try.prog (TIof Try.prog) 9 1 (qn [.t 4] KK) (qx KK) := qp (zA qjl trivial)
theorem qh8 {R : Type} (KK : AV → Mem → Option R) (v0 : List AV) (Ai : Bool) (Aj Ak Al Am : Int) (An Ao : List UInt8) (Ap : Int) : den 1 (qn [.t 4] KK) (qx KK) (qk [(0, (.sl 8 v0)), (1, (.func 79 [(.ptr 0 0)]))]) (qi [(some (.box true (qb Ai Aj Ak Al Am An Ao Ap)))]) (kend (qn [.t 4] KK)) = qb6 v0 Ai Aj Ak Al Am An Ao Ap (qds KK) := by
  rw [qdt]; kernel_rfl
theorem qh9 : cFn (TIof Try.prog) Try.f68 = some ⟨9, [.t 4], scOf (qx (R := Unit) (fun _ _ => none))⟩ := by kernel_rfl
theorem qia {R : Type} (KK : AV → Mem → Option R) : (qx KK).er = some (scOf (qx (R := Unit) (fun _ _ => none))) := by kernel_rfl
def qd1 {R : Type} : List AV → Mem → (AV → Mem → Option R) → Option R := refE qhf fun xs m KK => qf (bxC (m.s 0)) (qb6 (gL [(qm xs) 0] 0)) (qds KK)
theorem qib {R : Type} : qfp Try.prog 68 (qd1 (R := R)) :=
  qld (ac := fun KK => qx KK) tabOk follows Try.func68 (by kernel_rfl) qh9 (fun KK => qhw KK) (fun KK => qia KK) rfl fun xs m KK => qh8 KK _ _ _ _ _ _ _ _ _
def q6j : Shp := ⟨[(0, .one (.l (.sl 8))), (1, .st (lk qa))], []⟩
def qri (v0 : List AV) (Aq : Bool) (Ar As At Ay : Int) (Az A0 : List UInt8) (A1 : Int) : Option Bool :=
  (qb6 v0 Aq Ar As At Ay Az A0 A1 fun v4q1 b0_0q2 b0_1q3 b0_2q4 b0_3q5 b0_4q6 b0_5q7 b0_6q8 b0_7q9 => (some v4q1))
def qg8 := hull qri
theorem qwj : qg8 = qri := ql _
def qrj : AC Bool :=
  .seq (.reg [ao 3 (.box 1),
 ao 4 (.mv (.c (.bool false)))]) (.seq (.reg [ao 5 (.mv 0),
 ao 6 (.mkf 79 [3]),
 .st (.sel [5, 6] [0]),
 .callr (po 7 (.call 68 [5, 6])) 68 qd1,
 ao 4 (.mv 7)]) (.ret))
theorem q8k : AC.ok Try.prog (TIof Try.prog) 8 0 (kret [.t 4] decB) qrj := qp (zA qib trivial)
theorem q9g (v0 : List AV) (Aq : Bool) (Ar As At Ay : Int) (Az A0 : List UInt8) (A1 : Int) : den 0 (kret [.t 4] decB) qrj (qk [(0, (.sl 8 v0)), (1, .agg (qb Aq Ar As At Ay Az A0 A1))]) (qi []) (kend (kret [.t 4] decB)) = qg8 v0 Aq Ar As At Ay Az A0 A1 := by
  rw [qwj]; kernel_rfl
theorem q9h : cFn (TIof Try.prog) Try.f44 = some ⟨8, [.t 4], scOf qrj⟩ := by kernel_rfl
def q9i (xs : List AV) : Option Bool := qf ((qm xs) 1).cells (qg8 (gL [(qm xs) 0] 0))
def qox {R : Type} : List AV → (AV → Option R) → Option R := entF q6j q9i AV.bool
theorem qye {R : Type} : qd Try.prog 44 (qox (R := R)) :=
  qce tabOk follows Try.func44 (by kernel_rfl) q9h hdeB q8k (qy (by kernel_rfl)) fun xs => q9g _ _ _ _ _ _ _ _ _
def qwk  (v0 : List AV) (v3 : Int) (v10 : List AV) (v11 v12 : Int) (Ai : Bool) (Aj Ak Al Am : Int) (An Ao : List UInt8) (Ap : Int) (K : Ex → Env → Mem → Option Int) := (fun (_ : Unit) => K .norm (qk [(0, (.sl 8 v0)), (3, (.int .i64 v3)), (4, (.ptr 0 0)), (10, (.sl 8 v10)), (11, (.int .i64 v11)), (12, (.int .i64 v12))]) (qi [(some (.box true (qb Ai Aj Ak Al Am An Ao Ap)))]))
def q6k : Shp := ⟨[(0, .one (.l (.sl 8))), (3, .one (.l (.i .i64))), (4, .one (.ptr 0 0)), (10, .one (.l (.sl 8))), (11, .one (.l (.i .i64))), (12, .one (.l (.i .i64)))], [.box true (lk qa)]⟩
def qrk  (v0 : List AV) (v3 : Int) (v10 : List AV) (v11 v12 : Int) (Ai : Bool) (Aj Ak Al Am : Int) (An Ao : List UInt8) (Ap : Int) (kn : Unit → Option Int) : Option Int :=
  (bif (decide (v3 > (0 : Int))) then (oB (ixB v0 (IntKind.i64.wrap (v3 - (1 : Int)))) fun y1 => (bif fitC qa y1.cells then (oB (qka Ai Aj Ak Al (gB y1.cells 0) (gI y1.cells 1) (gI y1.cells 2) (gI y1.cells 3)) fun r2 => (bif (decide (r2 < (0 : Int))) then (some (7 : Int)) else (bif (r2 == (0 : Int)) then (some (12 : Int)) else (kn ())))) else none)) else (kn ()))
def qoy := hull (qrk)
theorem qwl : qoy = qrk := ql _
def qnd : AC Int :=
  .seq (.reg [ao 22 (.mv 3),
 ao 23 (.bin .gtr 22 (.c (.int .i64 0)))]) (.cond 23 (.seq (.draw [] [ao 24 (.fa 0 4),
 ao 25 (.load true 4 24),
 ao 26 (.mv 0),
 ao 27 (.mv 3),
 ao 28 (.bin .sub 27 (.c (.int .i64 1))),
 ao 29 (.ia 8 26 28),
 .et 29 qa,
 ao 30 (.fa 0 29),
 ao 31 (.load true 4 30)] [.call (po 32 (.call 40 [25, 31])) 40 qnb,
 ao 6 (.mv 32)]) (.seq (.seq (.reg [ao 33 (.mv 6),
 ao 34 (.bin .lss 33 (.c (.int .i64 0)))]) (.cond 34 (.seq (.reg [ao 2 (.mv (.c (.int .i64 7)))]) (.ret)) (.skip))) (.seq (.reg [ao 35 (.mv 6),
 ao 36 (.bin .eql 35 (.c (.int .i64 0)))]) (.cond 36 (.seq (.reg [ao 2 (.mv (.c (.int .i64 12)))]) (.ret)) (.seq (.skip) (.view [.sel [0, 3, 4, 10, 11, 12] [0]])))))) (.seq (.skip) (.view [.sel [0, 3, 4, 10, 11, 12] [0]])))
theorem q8l : AC.ok Try.prog (TIof Try.prog) 43 0 (kret [.t 2] (decI .i64)) qnd := qp (zA (qd.ok qtv) (zA rfl trivial))
theorem q9j (v0 : List AV) (v3 : Int) (v10 : List AV) (v11 v12 : Int) (Ai : Bool) (Aj Ak Al Am : Int) (An Ao : List UInt8) (Ap : Int) (K : Ex → Env → Mem → Option Int) : den 0 (kret [.t 2] (decI .i64)) qnd (qk [(0, (.sl 8 v0)), (3, (.int .i64 v3)), (4, (.ptr 0 0)), (10, (.sl 8 v10)), (11, (.int .i64 v11)), (12, (.int .i64 v12))]) (qi [(some (.box true (qb Ai Aj Ak Al Am An Ao Ap)))]) K = qoy v0 v3 v10 v11 v12 Ai Aj Ak Al Am An Ao Ap (qwk v0 v3 v10 v11 v12 Ai Aj Ak Al Am An Ao Ap K) := by
  rw [qwl]; kernel_rfl
def qyf := subE (R := Int) q6k fun t m K => qf (bxC (m.s 0)) (qoy (gL [t 0] 0) (gI [t 3] 0) (gL [t 10] 0) (gI [t 11] 0) (gI [t 12] 0)) (qwk (gL [t 0] 0) (gI [t 3] 0) (gL [t 10] 0) (gI [t 11] 0) (gI [t 12] 0) (gB (bxC (m.s 0)) 0) (gI (bxC (m.s 0)) 1) (gI (bxC (m.s 0)) 2) (gI (bxC (m.s 0)) 3) (gI (bxC (m.s 0)) 4) (gS (bxC (m.s 0)) 5) (gS (bxC (m.s 0)) 6) (gI (bxC (m.s 0)) 7) K)
theorem q9k : qdb Try.prog (TIof Try.prog) 43 0 (kret [.t 2] (decI .i64)) (scOf qnd) (qyf) :=
  qis tabOk follows (q8l) (qy (by kernel_rfl)) fun t m K => q9j _ _ _ _ _ _ _ _ _ _ _ _ _ K
def ql7  (K : Ex → Env → Mem → Option Int) := (fun (_ : Unit) => K (.exit 0) (qk []) (qi []))
def q6l : Shp := ⟨[(0, .one (.l (.sl 8))), (10, .one (.l (.sl 8))), (11, .one (.l (.i .i64))), (12, .one (.l (.i .i64)))], []⟩
def qqb (v0 v10 : List AV) (v11 v12 : Int) : Env := qk [(0, (.sl 8 v0)), (10, (.sl 8 v10)), (11, (.int .i64 v11)), (12, (.int .i64 v12))]
def qqc (v0 v10 : List AV) (v11 v12 : Int) : Mem := qi []
def qhg  (v0 v10 : List AV) (v11 v12 : Int) (next : Int → Option Int) (kx0 : Unit → Option Int) : Option Int :=
  (bif (decide (v12 < v11)) then (oB (ixB v10 v12) fun y1 => (bif fitC qa y1.cells then (oB (qmp (gB y1.cells 0) (gI y1.cells 1) (gI y1.cells 2) (gI y1.cells 3) (gI y1.cells 4) (gS y1.cells 5) (gS y1.cells 6) (gI y1.cells 7)) fun r2 => (bif (r2 != (0 : Int)) then (some r2) else (qoy v0 v12 v10 v11 v12 (gB y1.cells 0) (gI y1.cells 1) (gI y1.cells 2) (gI y1.cells 3) (gI y1.cells 4) (gS y1.cells 5) (gS y1.cells 6) (gI y1.cells 7) (fun (_ : Unit) => (oB (cutI v0 none (some v12)) fun s3 => (oB (qg8 s3 (gB y1.cells 0) (gI y1.cells 1) (gI y1.cells 2) (gI y1.cells 3) (gI y1.cells 4) (gS y1.cells 5) (gS y1.cells 6) (gI y1.cells 7)) fun r4 => (bif r4 then (some (24 : Int)) else (next (IntKind.i64.wrap (v12 + (1 : Int))))))))))) else none)) else (kx0 ()))
def qne  (v0 v10 : List AV) (v11 : Int) (kx0 : Unit → Option Int) : Nat → Int → Option Int
  | 0 => (fun _ => none)
  | n + 1 => (fun v12 => qhg v0 v10 v11 v12 (qne v0 v10 v11 kx0 n) kx0)
def qoz := hull (qne)
theorem qwm : qoz = qne := ql _
def qhh : AC Int :=
  .seq (.reg [ao 13 (.bin .lss 12 11)]) (.seq (.cond 13 (.skip) (.seq (.view [.sel [] []]) (.exit 0))) (.seq (.block 1 (.seq (.reg [ao 14 (.mv 12),
 ao 15 (.ia 8 10 12),
 .st (.etac 15 qa),
 ao 16 (.load true 8 15),
 ao 4 (.alloc [(.bool false), (.int .u64 0), (.int .u64 0), (.int .i64 0), (.int .i64 0), (.str []), (.str []), (.int .i64 0)]),
 ao 3 (.mv 14),
 an (.store 8 4 16)]) (.seq (.seq (.reg [ao 17 (.load true 8 4),
 .call (po 18 (.call 43 [17])) 43 qts,
 ao 5 (.mv 18)]) (.seq (.reg [ao 19 (.mv 5),
 ao 20 (.bin .neq 19 (.c (.int .i64 0)))]) (.cond 20 (.seq (.reg [ao 21 (.mv 5),
 ao 2 (.mv 21)]) (.ret)) (.skip)))) (.seq (.seq (.view [.sel [0, 3, 4, 10, 11, 12] [0]]) (.sub (scOf qnd) qyf)) (.seq (.draw [] [ao 37 (.mv 0),
 ao 38 (.mv 3),
 ao 39 (.slc 8 37 none (some 38)),
 ao 40 (.load true 8 4)] [.call (po 41 (.call 44 [39, 40])) 44 qox]) (.cond 41 (.seq (.reg [ao 2 (.mv (.c (.int .i64 24)))]) (.ret)) (.skip))))))) (.seq (.reg [ao 42 (.bin .add 12 (.c (.int .i64 1))),
 ao 12 (.mv 42)]) (.view [.sel [0, 10, 11, 12] []]))))
theorem q8m : AC.ok Try.prog (TIof Try.prog) 43 0 (kret [.t 2] (decI .i64)) qhh := qp (zA (qd.ok q4x) (zA q9k (zA (qd.ok qye) (zA rfl trivial))))
theorem q6m (v0 v10 : List AV) (v11 v12 : Int) (K : Ex → Env → Mem → Option Int) : den 0 (kret [.t 2] (decI .i64)) qhh (qqb v0 v10 v11 v12) (qqc v0 v10 v11 v12) K = qhg v0 v10 v11 v12 (fun z_v12 => K .norm (qqb v0 v10 v11 z_v12) (qqc v0 v10 v11 z_v12)) (ql7 K) := by kernel_rfl
theorem q9l (v0 v10 : List AV) (v11 : Int) (K : Ex → Env → Mem → Option Int) : ∀ (n : Nat) (v12 : Int), qgc (den 0 (kret [.t 2] (decI .i64)) qhh) n (qqb v0 v10 v11 v12) (qqc v0 v10 v11 v12) K = qoz v0 v10 v11 (ql7 K) n v12 := by
  rw [qwm]
  intro n
  induction n with
  | zero => intros; rfl
  | succ n ih =>
 intro v12
 exact (q6m v0 v10 v11 v12 (itK (den 0 (kret [.t 2] (decI .i64)) qhh) n K)).trans (congrArg (fun q => qhg v0 v10 v11 v12 q (ql7 K)) (funext fun v12 => ih v12))
def qyg := subE (R := Int) q6l fun t m K => qoz (gL [t 0] 0) (gL [t 10] 0) (gI [t 11] 0) (ql7 K) FU (gI [t 12] 0)
theorem q9m : qdb Try.prog (TIof Try.prog) 43 0 (kret [.t 2] (decI .i64)) (.loop (scOf qhh)) (qyg) :=
  qgd tabOk follows (q8m) (qy (by kernel_rfl)) fun t m K => q9l _ _ _ K FU _
def qben : Shp := ⟨[(0, .one (.l (.sl 8)))], []⟩
def qw7 (v0 : List AV) : Option Int :=
  (bif (decide ((v0.length : Int) > (512 : Int))) then (some (9 : Int)) else (qoz v0 v0 (v0.length : Int) (fun (_ : Unit) => (some (0 : Int))) FU (0 : Int)))
def qmq := hull qw7
theorem q3s : qmq = qw7 := ql _
def qw8 : AC Int :=
  .seq (.reg [ao 2 (.mv (.c (.int .i64 0)))]) (.seq (.seq (.reg [ao 7 (.mv 0),
 ao 8 (.len false 7),
 ao 9 (.bin .gtr 8 (.c (.int .i64 512)))]) (.cond 9 (.seq (.reg [ao 2 (.mv (.c (.int .i64 9)))]) (.ret)) (.skip))) (.seq (.seq (.reg [ao 10 (.mv 0),
 ao 11 (.len false 10),
 ao 12 (.mv (.c (.int .i64 0)))]) (.block 0 (.seq (.view [.sel [0, 10, 11, 12] []]) (.sub (.loop (scOf qhh)) qyg)))) (.seq (.reg [ao 2 (.mv (.c (.int .i64 0)))]) (.ret))))
theorem qbgj : AC.ok Try.prog (TIof Try.prog) 43 0 (kret [.t 2] (decI .i64)) qw8 := qp (zA q9m trivial)
theorem qbji (v0 : List AV) : den 0 (kret [.t 2] (decI .i64)) qw8 (qk [(0, (.sl 8 v0))]) (qi []) (kend (kret [.t 2] (decI .i64))) = qmq v0 := by
  rw [q3s]; kernel_rfl
theorem qbjj : cFn (TIof Try.prog) Try.f11 = some ⟨43, [.t 2], scOf qw8⟩ := by kernel_rfl
def qbjk (xs : List AV) : Option Int := qmq (gL [(qm xs) 0] 0)
def qtw {R : Type} : List AV → (AV → Option R) → Option R := entF qben qbjk (AV.int .i64)
theorem q42 {R : Type} : qd Try.prog 11 (qtw (R := R)) :=
  qce tabOk follows Try.func11 (by kernel_rfl) qbjj hdeI qbgj (qy (by kernel_rfl)) fun xs => qbji _
def qbgk : Shp := ⟨[(0, .one (.l (.i .u64))), (1, .one (.l (.i .i64)))], []⟩
def q74 (v0 v1 : Int) : Option AV :=
  (some (.agg [(.bool false), (.int .u64 (0 : Int)), (.int .u64 v0), (.int .i64 v1)]))
def qnr := hull q74
theorem q43 : qnr = q74 := ql _
def qzn : AC AV :=
  .seq (.reg [ao 4 (.alloc [(.bool false), (.int .u64 0), (.int .u64 0), (.int .i64 0)])]) (.seq (.reg [ao 5 (.mv 0),
 ao 6 (.build [(.bool false), (.int .u64 0), (.int .u64 0)] [(2, (1, 5))]),
 ao 7 (.mv 1),
 ao 8 (.build [(.bool false), (.int .u64 0), (.int .u64 0), (.int .i64 0)] [(0, (3, 6)), (3, (1, 7))]),
 an (.store 4 4 8)]) (.ret))
theorem qbjl : AC.ok Try.prog (TIof Try.prog) 9 0 (kret [(.cell 4 true 4)] (decT [.b, (.i .u64), (.i .u64), (.i .i64)])) qzn := qp trivial
theorem qbl2 (v0 v1 : Int) : den 0 (kret [(.cell 4 true 4)] (decT [.b, (.i .u64), (.i .u64), (.i .i64)])) qzn (qk [(0, (.int .u64 v0)), (1, (.int .i64 v1))]) (qi []) (kend (kret [(.cell 4 true 4)] (decT [.b, (.i .u64), (.i .u64), (.i .i64)]))) = qnr v0 v1 := by
  rw [q43]; kernel_rfl
theorem qbl3 : cFn (TIof Try.prog) Try.f87 = some ⟨9, [(.cell 4 true 4)], scOf qzn⟩ := by kernel_rfl
def qbl4 (xs : List AV) : Option AV := qnr (gI [(qm xs) 0] 0) (gI [(qm xs) 1] 0)
def qql {R : Type} : List AV → (AV → Option R) → Option R := entF qbgk qbl4 (qoa (.st [.b, (.i .u64), (.i .u64), (.i .i64)]))
theorem qzo {R : Type} : qd Try.prog 87 (qql (R := R)) :=
  qce tabOk follows Try.func87 (by kernel_rfl) qbl3 hdeT qbjl (qy (by kernel_rfl)) fun xs => qbl2 _ _
def q6n : Shp := ⟨[], []⟩
def qrl : Option (List AV) :=
  (oB (qnr (167772160 : Int) (8 : Int)) fun r1 => (oB (qnr (167772160 : Int) (24 : Int)) fun r2 => (oB (qnr (167772165 : Int) (32 : Int)) fun r3 => (bif hd ([(.agg [(.bool (gB r1.cells 0)), (.int .u64 (gI r1.cells 1)), (.int .u64 (gI r1.cells 2)), (.int .i64 (gI r1.cells 3)), (.int .i64 (1 : Int)), (.str ([97, 108, 108] : List UInt8)), (.str ([] : List UInt8)), (.int .i64 (0 : Int))]), (.agg [(.bool (gB r2.cells 0)), (.int .u64 (gI r2.cells 1)), (.int .u64 (gI r2.cells 2)), (.int .i64 (gI r2.cells 3)), (.int .i64 (2 : Int)), (.str ([110, 101, 116] : List UInt8)), (.str ([] : List UInt8)), (.int .i64 (0 : Int))]), (.agg [(.bool (gB r3.cells 0)), (.int .u64 (gI r3.cells 1)), (.int .u64 (gI r3.cells 2)), (.int .i64 (gI r3.cells 3)), (.int .i64 (3 : Int)), (.str ([104, 111, 115, 116] : List UInt8)), (.str ([] : List UInt8)), (.int .i64 (0 : Int))])] : List AV) (([(.agg [(.bool (gB r1.cells 0)), (.int .u64 (gI r1.cells 1)), (.int .u64 (gI r1.cells 2)), (.int .i64 (gI r1.cells 3)), (.int .i64 (1 : Int)), (.str ([97, 108, 108] : List UInt8)), (.str ([] : List UInt8)), (.int .i64 (0 : Int))]), (.agg [(.bool (gB r2.cells 0)), (.int .u64 (gI r2.cells 1)), (.int .u64 (gI r2.cells 2)), (.int .i64 (gI r2.cells 3)), (.int .i64 (2 : Int)), (.str ([110, 101, 116] : List UInt8)), (.str ([] : List UInt8)), (.int .i64 (0 : Int))]), (.agg [(.bool (gB r3.cells 0)), (.int .u64 (gI r3.cells 1)), (.int .u64 (gI r3.cells 2)), (.int .i64 (gI r3.cells 3)), (.int .i64 (3 : Int)), (.str ([104, 111, 115, 116] : List UInt8)), (.str ([] : List UInt8)), (.int .i64 (0 : Int))])] : List AV).length) then (some ([(.agg [(.bool (gB r1.cells 0)), (.int .u64 (gI r1.cells 1)), (.int .u64 (gI r1.cells 2)), (.int .i64 (gI r1.cells 3)), (.int .i64 (1 : Int)), (.str ([97, 108, 108] : List UInt8)), (.str ([] : List UInt8)), (.int .i64 (0 : Int))]), (.agg [(.bool (gB r2.cells 0)), (.int .u64 (gI r2.cells 1)), (.int .u64 (gI r2.cells 2)), (.int .i64 (gI r2.cells 3)), (.int .i64 (2 : Int)), (.str ([110, 101, 116] : List UInt8)), (.str ([] : List UInt8)), (.int .i64 (0 : Int))]), (.agg [(.bool (gB r3.cells 0)), (.int .u64 (gI r3.cells 1)), (.int .u64 (gI r3.cells 2)), (.int .i64 (gI r3.cells 3)), (.int .i64 (3 : Int)), (.str ([104, 111, 115, 116] : List UInt8)), (.str ([] : List UInt8)), (.int .i64 (0 : Int))])] : List AV)) else none))))
def qmr := hull qrl
theorem qwn : qmr = qrl := ql _
def qrm : AC (List AV) :=
  .seq (.reg [ao 0 (.mv (.c .nils))]) (.seq (.reg [.call (po 1 (.call 87 [(.c (.int .u64 167772160)), (.c (.int .i64 8))])) 87 qql,
 ao 2 (.build [(.bool false), (.int .u64 0), (.int .u64 0), (.int .i64 0), (.int .i64 0), (.str []), (.str []), (.int .i64 0)] [(0, (4, 1)), (4, (1, (.c (.int .i64 1)))), (5, (1, (.c (.str [97, 108, 108]))))]),
 .call (po 3 (.call 87 [(.c (.int .u64 167772160)), (.c (.int .i64 24))])) 87 qql,
 ao 4 (.build [(.bool false), (.int .u64 0), (.int .u64 0), (.int .i64 0), (.int .i64 0), (.str []), (.str []), (.int .i64 0)] [(0, (4, 3)), (4, (1, (.c (.int .i64 2)))), (5, (1, (.c (.str [110, 101, 116]))))]),
 .call (po 5 (.call 87 [(.c (.int .u64 167772165)), (.c (.int .i64 32))])) 87 qql,
 ao 6 (.build [(.bool false), (.int .u64 0), (.int .u64 0), (.int .i64 0), (.int .i64 0), (.str []), (.str []), (.int .i64 0)] [(0, (4, 5)), (4, (1, (.c (.int .i64 3)))), (5, (1, (.c (.str [104, 111, 115, 116]))))]),
 ao 7 (.bsl 8 [2, 4, 6]),
 ao 0 (.mv 7)]) (.ret))
theorem q8n : AC.ok Try.prog (TIof Try.prog) 8 0 (kret [.t 0] (decF true 8)) qrm := qp (zA (qd.ok qzo) (zA (qd.ok qzo) (zA (qd.ok qzo) trivial)))
theorem q9n : den 0 (kret [.t 0] (decF true 8)) qrm (qk []) (qi []) (kend (kret [.t 0] (decF true 8))) = qmr := by
  rw [qwn]; kernel_rfl
theorem q9o : cFn (TIof Try.prog) Try.f49 = some ⟨8, [.t 0], scOf qrm⟩ := by kernel_rfl
def q9p (xs : List AV) : Option (List AV) := qmr
def qu9 {R : Type} : List AV → (AV → Option R) → Option R := entF q6n q9p (AV.fr true 8)
theorem q9q {R : Type} : qd Try.prog 49 (qu9 (R := R)) :=
  qce tabOk follows Try.func49 (by kernel_rfl) q9o hdeF q8n (qy (by kernel_rfl)) fun xs => q9n
def q9r : Shp := ⟨[(0, .st (lk qa)), (1, .one (.ptr 0 0))], [.box true (lk qe)]⟩
def q0h {R : Type} (KK : AV → Mem → Option R) := (fun v3 Ai Aj Ak Al => KK (.bool v3) (qi [(some (.box true [(.bool Ai), (.int .u64 Aj), (.int .u64 Ak), (.int .i64 Al)]))]))
def qtx {R : Type}  (Aa : Bool) (Ab Ac Ad Ae : Int) (Af Ag : List UInt8) (Ah : Int) (Ai : Bool) (Aj Ak Al : Int) (kr : Bool → Bool → Int → Int → Int → Option R) : Option R :=
  (kr ((Aa == Ai) && ((Ab == Aj) && ((Ac == Ak) && ((Ad == Al) && true)))) Ai Aj Ak Al)
def qr1 {R : Type} := hull (qtx (R := R))
theorem q0i {R : Type} : qr1 (R := R) = qtx := ql _
def qkb {R : Type} (KK : AV → Mem → Option R) : AC R :=
  .seq (.reg [ao 2 (.box 0),
 ao 3 (.mv (.c (.bool false)))]) (.seq (.reg [ao 4 (.fa 0 2),
 ao 5 (.load true 4 4),
 ao 6 (.load true 4 1),
 ao 7 (.eq false true [.b, (.i .u64), (.i .u64), (.i .i64)] 5 6),
 ao 3 (.mv 7)]) (.seq (.view [.sel [3] [0]]) (.ret)))
theorem qbcc {R : Type} (KK : AV → Mem → Option R) : AC.ok Try.prog (TIof Try.prog) 8 1 (qn [.t 3] KK) (qkb KK) := qp trivial
theorem qbeo {R : Type} (KK : AV → Mem → Option R) (Aa : Bool) (Ab Ac Ad Ae : Int) (Af Ag : List UInt8) (Ah : Int) (Ai : Bool) (Aj Ak Al : Int) : den 1 (qn [.t 3] KK) (qkb KK) (qk [(0, .agg (qb Aa Ab Ac Ad Ae Af Ag Ah)), (1, (.ptr 0 0))]) (qi [(some (.box true (qc Ai Aj Ak Al)))]) (kend (qn [.t 3] KK)) = qr1 Aa Ab Ac Ad Ae Af Ag Ah Ai Aj Ak Al (q0h KK) := by
  rw [q0i]; kernel_rfl
theorem qbep : cFn (TIof Try.prog) Try.f89 = some ⟨8, [.t 3], scOf (qkb (R := Unit) (fun _ _ => none))⟩ := by kernel_rfl
theorem qbeq {R : Type} (KK : AV → Mem → Option R) : (qkb KK).er = some (scOf (qkb (R := Unit) (fun _ _ => none))) := by kernel_rfl
def q19 {R : Type} : List AV → Mem → (AV → Mem → Option R) → Option R := refE q9r fun xs m KK => qh (bxC (m.s 0)) (qf ((qm xs) 0).cells (qr1)) (q0h KK)
theorem qber {R : Type} : qfp Try.prog 89 (q19 (R := R)) :=
  qld (ac := fun KK => qkb KK) tabOk follows Try.func89 (by kernel_rfl) qbep (fun KK => qbcc KK) (fun KK => qbeq KK) rfl fun xs m KK => qbeo KK _ _ _ _ _ _ _ _ _ _ _ _
def qb7 {R : Type}  (K : Ex → Env → Mem → Option R) := (fun z_b0_0 z_b0_1 z_b0_2 z_b0_3 => K (.exit 0) (qk []) (qi [(some (.box true (qc z_b0_0 z_b0_1 z_b0_2 z_b0_3)))]))
def qb9 {R : Type} (KK : AV → Mem → Option R) := (fun v4 Ai Aj Ak Al => KK (.int .i64 v4) (qi [(some (.box true [(.bool Ai), (.int .u64 Aj), (.int .u64 Ak), (.int .i64 Al)]))]))
def qi7 : Shp := ⟨[(0, .one (.l (.sl 8))), (1, .one (.fn 89 [(0, 0)])), (7, .one (.l (.i .i64))), (8, .one (.l (.i .i64)))], [.box true (lk qe)]⟩
def qc5 (v0 : List AV) (v7 v8 : Int) (Ai : Bool) (Aj Ak Al : Int) : Env := qk [(0, (.sl 8 v0)), (1, (.func 89 [(.ptr 0 0)])), (7, (.int .i64 v7)), (8, (.int .i64 v8))]
def qc6 (v0 : List AV) (v7 v8 : Int) (Ai : Bool) (Aj Ak Al : Int) : Mem := qi [(some (.box true (qc Ai Aj Ak Al)))]
def qbf {R : Type}  (v0 : List AV) (v7 v8 : Int) (Ai : Bool) (Aj Ak Al : Int) (next : Int → Bool → Int → Int → Int → Option R) (kx0 : Bool → Int → Int → Int → Option R) (kr : Int → Bool → Int → Int → Int → Option R) : Option R :=
  (bif (decide (v8 < v7)) then (oB (ixB v0 v8) fun y1 => (bif fitC qa y1.cells then (qr1 (gB y1.cells 0) (gI y1.cells 1) (gI y1.cells 2) (gI y1.cells 3) (gI y1.cells 4) (gS y1.cells 5) (gS y1.cells 6) (gI y1.cells 7) Ai Aj Ak Al fun v3q2 b0_0q3 b0_1q4 b0_2q5 b0_3q6 => (bif v3q2 then (kr v8 b0_0q3 b0_1q4 b0_2q5 b0_3q6) else (next (IntKind.i64.wrap (v8 + (1 : Int))) b0_0q3 b0_1q4 b0_2q5 b0_3q6))) else none)) else (kx0 Ai Aj Ak Al))
def qcd {R : Type}  (v0 : List AV) (v7 : Int) (kx0 : Bool → Int → Int → Int → Option R) (kr : Int → Bool → Int → Int → Int → Option R) : Nat → Int → Bool → Int → Int → Int → Option R
  | 0 => (fun _ _ _ _ _ => none)
  | n + 1 => (fun v8 Ai Aj Ak Al => qbf v0 v7 v8 Ai Aj Ak Al (qcd v0 v7 kx0 kr n) kx0 kr)
def qch {R : Type} := hull (qcd (R := R))
theorem qex {R : Type} : qch (R := R) = qcd := ql _
def qbg {R : Type} (KK : AV → Mem → Option R) : AC R :=
  .seq (.reg [ao 9 (.bin .lss 8 7)]) (.seq (.cond 9 (.skip) (.seq (.view [.sel [] [0]]) (.exit 0))) (.seq (.block 1 (.seq (.reg [ao 10 (.mv 8),
 ao 5 (.mv 10)]) (.seq (.reg [ao 11 (.mv 1),
 ao 12 (.mv 0),
 ao 13 (.mv 5),
 ao 14 (.ia 8 12 13),
 .st (.etac 14 qa),
 ao 15 (.load true 8 14),
 .st (.sel [0, 1, 5, 7, 8, 11, 15] [0]),
 .callr (po 16 (.callv 11 [15])) 89 q19]) (.cond 16 (.seq (.reg [ao 17 (.mv 5),
 ao 4 (.mv 17)]) (.seq (.view [.sel [4] [0]]) (.ret))) (.skip))))) (.seq (.reg [ao 18 (.bin .add 8 (.c (.int .i64 1))),
 ao 8 (.mv 18)]) (.view [.sel [0, 1, 7, 8] [0]]))))
theorem qjm {R : Type} (KK : AV → Mem → Option R) : AC.ok Try.prog (TIof Try.prog) 19 1 (qn [.t 4] KK) (qbg KK) := qp (zA qber trivial)
theorem qi8 {R : Type} (KK : AV → Mem → Option R) (v0 : List AV) (v7 v8 : Int) (Ai : Bool) (Aj Ak Al : Int) (K : Ex → Env → Mem → Option R) : den 1 (qn [.t 4] KK) (qbg KK) (qc5 v0 v7 v8 Ai Aj Ak Al) (qc6 v0 v7 v8 Ai Aj Ak Al) K = qbf v0 v7 v8 Ai Aj Ak Al (fun z_v8 z_b0_0 z_b0_1 z_b0_2 z_b0_3 => K .norm (qc5 v0 v7 z_v8 z_b0_0 z_b0_1 z_b0_2 z_b0_3) (qc6 v0 v7 z_v8 z_b0_0 z_b0_1 z_b0_2 z_b0_3)) (qb7 K) (qb9 KK) := by kernel_rfl
theorem qjt {R : Type} (KK : AV → Mem → Option R) (v0 : List AV) (v7 : Int) (K : Ex → Env → Mem → Option R) : ∀ (n : Nat) (v8 : Int) (Ai : Bool) (Aj Ak Al : Int), qgc (den 1 (qn [.t 4] KK) (qbg KK)) n (qc5 v0 v7 v8 Ai Aj Ak Al) (qc6 v0 v7 v8 Ai Aj Ak Al) K = qch v0 v7 (qb7 K) (qb9 KK) n v8 Ai Aj Ak Al := by
  rw [qex]
  intro n
  induction n with
  | zero => intros; rfl
  | succ n ih =>
 intro v8 Ai Aj Ak Al
 exact (qi8 KK v0 v7 v8 Ai Aj Ak Al (itK (den 1 (qn [.t 4] KK) (qbg KK)) n K)).trans (congrArg (fun q => qbf v0 v7 v8 Ai Aj Ak Al q (qb7 K) (qb9 KK)) (funext fun v8 => funext fun Ai => funext fun Aj => funext fun Ak => funext fun Al => ih v8 Ai Aj Ak Al))
def qe1 {R : Type} (KK : AV → Mem → Option R) := subE (R := R) qi7 fun t m K => qh (bxC (m.s 0)) (qch (gL [t 0] 0) (gI [t 7] 0) (qb7 K) (qb9 KK) FU (gI [t 8] 0))
theorem qju {R : Type} (KK : AV → Mem → Option R) : qdb Try.prog (TIof Try.prog) 19 1 (qn [.t 4] KK) (.loop (scOf (qbg KK))) (qe1 KK) :=
  qgd tabOk follows (qjm KK) (qy (by kernel_rfl)) fun t m K => qjt KK _ _ K FU _ _ _ _ _
def qkc : Shp := ⟨[(0, .one (.l (.sl 8))), (1, .one (.fn 89 [(0, 0)]))], [.box true (lk qe)]⟩
def qe9 {R : Type} (KK : AV → Mem → Option R) := (fun v4 Ai Aj Ak Al => KK (.int .i64 v4) (qi [(some (.box true [(.bool Ai), (.int .u64 Aj), (.int .u64 Ak), (.int .i64 Al)]))]))
def qdg {R : Type}  (v0 : List AV) (Ai : Bool) (Aj Ak Al : Int) (kr : Int → Bool → Int → Int → Int → Option R) : Option R :=
  (qch v0 (v0.length : Int) (fun b0_0q1 b0_1q2 b0_2q3 b0_3q4 => (kr (-1 : Int) b0_0q1 b0_1q2 b0_2q3 b0_3q4)) kr FU (0 : Int) Ai Aj Ak Al)
def qck {R : Type} := hull (qdg (R := R))
theorem qfa {R : Type} : qck (R := R) = qdg := ql _
def qbk {R : Type} (KK : AV → Mem → Option R) : AC R :=
  .seq (.reg [ao 4 (.mv (.c (.int .i64 0)))]) (.seq (.seq (.reg [ao 6 (.mv 0),
 ao 7 (.len false 6),
 ao 8 (.mv (.c (.int .i64 0)))]) (.block 0 (.seq (.view [.sel [0, 1, 7, 8] [0]]) (.sub (.loop (scOf (qbg KK))) (qe1 KK))))) (.seq (.reg [ao 4 (.mv (.c (.int .i64 (-1))))]) (.seq (.view [.sel [4] [0]]) (.ret))))
theorem qkq {R : Type} (KK : AV → Mem → Option R) : AC.ok Try.prog (TIof Try.prog) 19 1 (qn [.t 4] KK) (qbk KK) := qp (zA (qju KK) trivial)
theorem qk1 {R : Type} (KK : AV → Mem → Option R) (v0 : List AV) (Ai : Bool) (Aj Ak Al : Int) : den 1 (qn [.t 4] KK) (qbk KK) (qk [(0, (.sl 8 v0)), (1, (.func 89 [(.ptr 0 0)]))]) (qi [(some (.box true (qc Ai Aj Ak Al)))]) (kend (qn [.t 4] KK)) = qck v0 Ai Aj Ak Al (qe9 KK) := by
  rw [qfa]; kernel_rfl
theorem qk2 : cFn (TIof Try.prog) Try.f88 = some ⟨19, [.t 4], scOf (qbk (R := Unit) (fun _ _ => none))⟩ := by kernel_rfl
theorem qk3 {R : Type} (KK : AV → Mem → Option R) : (qbk KK).er = some (scOf (qbk (R := Unit) (fun _ _ => none))) := by kernel_rfl
def qfd {R : Type} : List AV → Mem → (AV → Mem → Option R) → Option R := refE qkc fun xs m KK => qh (bxC (m.s 0)) (qck (gL [(qm xs) 0] 0)) (qe9 KK)
theorem qk4 {R : Type} : qfp Try.prog 88 (qfd (R := R)) :=
  qld (ac := fun KK => qbk KK) tabOk follows Try.func88 (by kernel_rfl) qk2 (fun KK => qkq KK) (fun KK => qk3 KK) rfl fun xs m KK => qk1 KK _ _ _ _ _
def qbes : Shp := ⟨[(0, .one (.l (.sl 8))), (1, .st (lk qe))], []⟩
def qw9 (v0 : List AV) (Aq : Bool) (Ar As At : Int) : Option Int :=
  (qck v0 Aq Ar As At fun v4q1 b0_0q2 b0_1q3 b0_2q4 b0_3q5 => (some v4q1))
def qfw := hull qw9
theorem q3t : qfw = qw9 := ql _
def qxa : AC Int :=
  .seq (.reg [ao 3 (.box 1),
 ao 4 (.mv (.c (.int .i64 0)))]) (.seq (.reg [ao 5 (.mv 0),
 ao 6 (.mkf 89 [3]),
 .st (.sel [5, 6] [0]),
 .callr (po 7 (.call 88 [5, 6])) 88 qfd,
 ao 4 (.mv 7)]) (.ret))
theorem qbgl : AC.ok Try.prog (TIof Try.prog) 8 0 (kret [.t 4] (decI .i64)) qxa := qp (zA qk4 trivial)
theorem qbjm (v0 : List AV) (Aq : Bool) (Ar As At : Int) : den 0 (kret [.t 4] (decI .i64)) qxa (qk [(0, (.sl 8 v0)), (1, .agg (qc Aq Ar As At))]) (qi []) (kend (kret [.t 4] (decI .i64))) = qfw v0 Aq Ar As At := by
  rw [q3t]; kernel_rfl
theorem qbjn : cFn (TIof Try.prog) Try.f51 = some ⟨8, [.t 4], scOf qxa⟩ := by kernel_rfl
def qbjo (xs : List AV) : Option Int := qh ((qm xs) 1).cells (qfw (gL [(qm xs) 0] 0))
def qfx {R : Type} : List AV → (AV → Option R) → Option R := entF qbes qbjo (AV.int .i64)
theorem qkd {R : Type} : qd Try.prog 51 (qfx (R := R)) :=
  qce tabOk follows Try.func51 (by kernel_rfl) qbjn hdeI qbgl (qy (by kernel_rfl)) fun xs => qbjm _ _ _ _ _
def q44 : Shp := ⟨[(0, .st (lk qa)), (1, .one (.ptr 0 0))], [.box true (lk qe)]⟩
def qva {R : Type} (KK : AV → Mem → Option R) := (fun v3 Ai Aj Ak Al => KK (.bool v3) (qi [(some (.box true [(.bool Ai), (.int .u64 Aj), (.int .u64 Ak), (.int .i64 Al)]))]))
def qqd {R : Type}  (Aa : Bool) (Ab Ac Ad Ae : Int) (Af Ag : List UInt8) (Ah : Int) (Ai : Bool) (Aj Ak Al : Int) (kr : Bool → Bool → Int → Int → Int → Option R) : Option R :=
  (oB (qgy Aa Ab Ac Ad Ai Aj Ak Al) fun r1 => (kr r1 Ai Aj Ak Al))
def qly {R : Type} := hull (qqd (R := R))
theorem qvb {R : Type} : qly (R := R) = qqd := ql _
def qgu {R : Type} (KK : AV → Mem → Option R) : AC R :=
  .seq (.reg [ao 2 (.box 0),
 ao 3 (.mv (.c (.bool false)))]) (.seq (.reg [ao 4 (.fa 0 2),
 ao 5 (.load true 4 4),
 ao 6 (.load true 4 1),
 .call (po 7 (.call 64 [5, 6])) 64 qgn,
 ao 3 (.mv 7)]) (.seq (.view [.sel [3] [0]]) (.ret)))
theorem q6o {R : Type} (KK : AV → Mem → Option R) : AC.ok Try.prog (TIof Try.prog) 8 1 (qn [.t 3] KK) (qgu KK) := qp (zA (qd.ok qll) trivial)
theorem q8o {R : Type} (KK : AV → Mem → Option R) (Aa : Bool) (Ab Ac Ad Ae : Int) (Af Ag : List UInt8) (Ah : Int) (Ai : Bool) (Aj Ak Al : Int) : den 1 (qn [.t 3] KK) (qgu KK) (qk [(0, .agg (qb Aa Ab Ac Ad Ae Af Ag Ah)), (1, (.ptr 0 0))]) (qi [(some (.box true (qc Ai Aj Ak Al)))]) (kend (qn [.t 3] KK)) = qly Aa Ab Ac Ad Ae Af Ag Ah Ai Aj Ak Al (qva KK) := by
  rw [qvb]; kernel_rfl
theorem q8p : cFn (TIof Try.prog) Try.f90 = some ⟨8, [.t 3], scOf (qgu (R := Unit) (fun _ _ => none))⟩ := by kernel_rfl
theorem q8q {R : Type} (KK : AV → Mem → Option R) : (qgu KK).er = some (scOf (qgu (R := Unit) (fun _ _ => none))) := by kernel_rfl
def qwo {R : Type} : List AV → Mem → (AV → Mem → Option R) → Option R := refE q44 fun xs m KK => qh (bxC (m.s 0)) (qf ((qm xs) 0).cells (qly)) (qva KK)
theorem q8r {R : Type} : qfp Try.prog 90 (qwo (R := R)) :=
  qld (ac := fun KK => qgu KK) tabOk follows Try.func90 (by kernel_rfl) q8p (fun KK => q6o KK) (fun KK => q8q KK) rfl fun xs m KK => q8o KK _ _ _ _ _ _ _ _ _ _ _ _
def qbu {R : Type}  (K : Ex → Env → Mem → Option R) := (fun z_b0_0 z_b0_1 z_b0_2 z_b0_3 => K (.exit 0) (qk []) (qi [(some (.box true (qc z_b0_0 z_b0_1 z_b0_2 z_b0_3)))]))
def qby {R : Type} (KK : AV → Mem → Option R) := (fun v4 Ai Aj Ak Al => KK (.int .i64 v4) (qi [(some (.box true [(.bool Ai), (.int .u64 Aj), (.int .u64 Ak), (.int .i64 Al)]))]))
def qhx : Shp := ⟨[(0, .one (.l (.sl 8))), (1, .one (.fn 90 [(0, 0)])), (7, .one (.l (.i .i64))), (8, .one (.l (.i .i64)))], [.box true (lk qe)]⟩
def qcw (v0 : List AV) (v7 v8 : Int) (Ai : Bool) (Aj Ak Al : Int) : Env := qk [(0, (.sl 8 v0)), (1, (.func 90 [(.ptr 0 0)])), (7, (.int .i64 v7)), (8, (.int .i64 v8))]
def qcx (v0 : List AV) (v7 v8 : Int) (Ai : Bool) (Aj Ak Al : Int) : Mem := qi [(some (.box true (qc Ai Aj Ak Al)))]
def qz {R : Type}  (v0 : List AV) (v7 v8 : Int) (Ai : Bool) (Aj Ak Al : Int) (next : Int → Bool → Int → Int → Int → Option R) (kx0 : Bool → Int → Int → Int → Option R) (kr : Int → Bool → Int → Int → Int → Option R) : Option R :=
  (bif (decide (v8 < v7)) then (oB (ixB v0 v8) fun y1 => (bif fitC qa y1.cells then (qly (gB y1.cells 0) (gI y1.cells 1) (gI y1.cells 2) (gI y1.cells 3) (gI y1.cells 4) (gS y1.cells 5) (gS y1.cells 6) (gI y1.cells 7) Ai Aj Ak Al fun v3q2 b0_0q3 b0_1q4 b0_2q5 b0_3q6 => (bif v3q2 then (kr v8 b0_0q3 b0_1q4 b0_2q5 b0_3q6) else (next (IntKind.i64.wrap (v8 + (1 : Int))) b0_0q3 b0_1q4 b0_2q5 b0_3q6))) else none)) else (kx0 Ai Aj Ak Al))
def qb0 {R : Type}  (v0 : List AV) (v7 : Int) (kx0 : Bool → Int → Int → Int → Option R) (kr : Int → Bool → Int → Int → Int → Option R) : Nat → Int → Bool → Int → Int → Int → Option R
  | 0 => (fun _ _ _ _ _ => none)
  | n + 1 => (fun v8 Ai Aj Ak Al => qz v0 v7 v8 Ai Aj Ak Al (qb0 v0 v7 kx0 kr n) kx0 kr)
def qca {R : Type} := hull (qb0 (R := R))
theorem qd2 {R : Type} : qca (R := R) = qb0 := ql _
def q8 {R : Type} (KK : AV → Mem → Option R) : AC R :=
  .seq (.reg [ao 9 (.bin .lss 8 7)]) (.seq (.cond 9 (.skip) (.seq (.view [.sel [] [0]]) (.exit 0))) (.seq (.block 1 (.seq (.reg [ao 10 (.mv 8),
 ao 5 (.mv 10)]) (.seq (.reg [ao 11 (.mv 1),
 ao 12 (.mv 0),
 ao 13 (.mv 5),
 ao 14 (.ia 8 12 13),
 .st (.etac 14 qa),
 ao 15 (.load true 8 14),
 .st (.sel [0, 1, 5, 7, 8, 11, 15] [0]),
 .callr (po 16 (.callv 11 [15])) 90 qwo]) (.cond 16 (.seq (.reg [ao 17 (.mv 5),
 ao 4 (.mv 17)]) (.seq (.view [.sel [4] [0]]) (.ret))) (.skip))))) (.seq (.reg [ao 18 (.bin .add 8 (.c (.int .i64 1))),
 ao 8 (.mv 18)]) (.view [.sel [0, 1, 7, 8] [0]]))))
theorem qic {R : Type} (KK : AV → Mem → Option R) : AC.ok Try.prog (TIof Try.prog) 19 1 (qn [.t 4] KK) (q8 KK) := qp (zA q8r trivial)
theorem qhy {R : Type} (KK : AV → Mem → Option R) (v0 : List AV) (v7 v8 : Int) (Ai : Bool) (Aj Ak Al : Int) (K : Ex → Env → Mem → Option R) : den 1 (qn [.t 4] KK) (q8 KK) (qcw v0 v7 v8 Ai Aj Ak Al) (qcx v0 v7 v8 Ai Aj Ak Al) K = qz v0 v7 v8 Ai Aj Ak Al (fun z_v8 z_b0_0 z_b0_1 z_b0_2 z_b0_3 => K .norm (qcw v0 v7 z_v8 z_b0_0 z_b0_1 z_b0_2 z_b0_3) (qcx v0 v7 z_v8 z_b0_0 z_b0_1 z_b0_2 z_b0_3)) (qbu K) (qby KK) := by kernel_rfl
theorem qig {R : Type} (KK : AV → Mem → Option R) (v0 : List AV) (v7 : Int) (K : Ex → Env → Mem → Option R) : ∀ (n : Nat) (v8 : Int) (Ai : Bool) (Aj Ak Al : Int), qgc (den 1 (qn [.t 4] KK) (q8 KK)) n (qcw v0 v7 v8 Ai Aj Ak Al) (qcx v0 v7 v8 Ai Aj Ak Al) K = qca v0 v7 (qbu K) (qby KK) n v8 Ai Aj Ak Al := by
  rw [qd2]
  intro n
  induction n with
  | zero => intros; rfl
  | succ n ih =>
 intro v8 Ai Aj Ak Al
 exact (qhy KK v0 v7 v8 Ai Aj Ak Al (itK (den 1 (qn [.t 4] KK) (q8 KK)) n K)).trans (congrArg (fun q => qz v0 v7 v8 Ai Aj Ak Al q (qbu K) (qby KK)) (funext fun v8 => funext fun Ai => funext fun Aj => funext fun Ak => funext fun Al => ih v8 Ai Aj Ak Al))
def qea {R : Type} (KK : AV → Mem → Option R) := subE (R := R) qhx fun t m K => qh (bxC (m.s 0)) (qca (gL [t 0] 0) (gI [t 7] 0) (qbu K) (qby KK) FU (gI [t 8] 0))
theorem qih {R : Type} (KK : AV → Mem → Option R) : qdb Try.prog (TIof Try.prog) 19 1 (qn [.t 4] KK) (.loop (scOf (q8 KK))) (qea KK) :=
  qgd tabOk follows (qic KK) (qy (by kernel_rfl)) fun t m K => qig KK _ _ K FU _ _ _ _ _
def qi9 : Shp := ⟨[(0, .one (.l (.sl 8))), (1, .one (.fn 90 [(0, 0)]))], [.box true (lk qe)]⟩
def qey {R : Type} (KK : AV → Mem → Option R) := (fun v4 Ai Aj Ak Al => KK (.int .i64 v4) (qi [(some (.box true [(.bool Ai), (.int .u64 Aj), (.int .u64 Ak), (.int .i64 Al)]))]))
def qda {R : Type}  (v0 : List AV) (Ai : Bool) (Aj Ak Al : Int) (kr : Int → Bool → Int → Int → Int → Option R) : Option R :=
  (qca v0 (v0.length : Int) (fun b0_0q1 b0_1q2 b0_2q3 b0_3q4 => (kr (-1 : Int) b0_0q1 b0_1q2 b0_2q3 b0_3q4)) kr FU (0 : Int) Ai Aj Ak Al)
def qbo {R : Type} := hull (qda (R := R))
theorem qez {R : Type} : qbo (R := R) = qda := ql _
def qbh {R : Type} (KK : AV → Mem → Option R) : AC R :=
  .seq (.reg [ao 4 (.mv (.c (.int .i64 0)))]) (.seq (.seq (.reg [ao 6 (.mv 0),
 ao 7 (.len false 6),
 ao 8 (.mv (.c (.int .i64 0)))]) (.block 0 (.seq (.view [.sel [0, 1, 7, 8] [0]]) (.sub (.loop (scOf (q8 KK))) (qea KK))))) (.seq (.reg [ao 4 (.mv (.c (.int .i64 (-1))))]) (.seq (.view [.sel [4] [0]]) (.ret))))
theorem qjn {R : Type} (KK : AV → Mem → Option R) : AC.ok Try.prog (TIof Try.prog) 19 1 (qn [.t 4] KK) (qbh KK) := qp (zA (qih KK) trivial)
theorem qjv {R : Type} (KK : AV → Mem → Option R) (v0 : List AV) (Ai : Bool) (Aj Ak Al : Int) : den 1 (qn [.t 4] KK) (qbh KK) (qk [(0, (.sl 8 v0)), (1, (.func 90 [(.ptr 0 0)]))]) (qi [(some (.box true (qc Ai Aj Ak Al)))]) (kend (qn [.t 4] KK)) = qbo v0 Ai Aj Ak Al (qey KK) := by
  rw [qez]; kernel_rfl
theorem qjw : cFn (TIof Try.prog) Try.f88 = some ⟨19, [.t 4], scOf (qbh (R := Unit) (fun _ _ => none))⟩ := by kernel_rfl
theorem qjx {R : Type} (KK : AV → Mem → Option R) : (qbh KK).er = some (scOf (qbh (R := Unit) (fun _ _ => none))) := by kernel_rfl
def qe2 {R : Type} : List AV → Mem → (AV → Mem → Option R) → Option R := refE qi9 fun xs m KK => qh (bxC (m.s 0)) (qbo (gL [(qm xs) 0] 0)) (qey KK)
theorem qjy {R : Type} : qfp Try.prog 88 (qe2 (R := R)) :=
  qld (ac := fun KK => qbh KK) tabOk follows Try.func88 (by kernel_rfl) qjw (fun KK => qjn KK) (fun KK => qjx KK) rfl fun xs m KK => qjv KK _ _ _ _ _
def qhz : Shp := ⟨[(0, .one (.l (.sl 8))), (1, .one (.fn 90 [(0, 0)]))], [.box true (lk qe)]⟩
def qd3 {R : Type} (KK : AV → Mem → Option R) := (fun v4 Ai Aj Ak Al => KK (.bool v4) (qi [(some (.box true [(.bool Ai), (.int .u64 Aj), (.int .u64 Ak), (.int .i64 Al)]))]))
def qcy {R : Type}  (v0 : List AV) (Ai : Bool) (Aj Ak Al : Int) (kr : Bool → Bool → Int → Int → Int → Option R) : Option R :=
  (qbo v0 Ai Aj Ak Al fun v4q1 b0_0q2 b0_1q3 b0_2q4 b0_3q5 => (kr (decide (v4q1 ≥ (0 : Int))) b0_0q2 b0_1q3 b0_2q4 b0_3q5))
def qcb {R : Type} := hull (qcy (R := R))
theorem qd4 {R : Type} : qcb (R := R) = qcy := ql _
def q9 {R : Type} (KK : AV → Mem → Option R) : AC R :=
  .seq (.reg [ao 4 (.mv (.c (.bool false)))]) (.seq (.reg [ao 5 (.mv 0),
 ao 6 (.mv 1),
 .st (.sel [5, 6] [0]),
 .callr (po 7 (.call 88 [5, 6])) 88 qe2,
 ao 8 (.bin .geq 7 (.c (.int .i64 0))),
 ao 4 (.mv 8)]) (.seq (.view [.sel [4] [0]]) (.ret)))
theorem qid {R : Type} (KK : AV → Mem → Option R) : AC.ok Try.prog (TIof Try.prog) 9 1 (qn [.t 4] KK) (q9 KK) := qp (zA qjy trivial)
theorem qii {R : Type} (KK : AV → Mem → Option R) (v0 : List AV) (Ai : Bool) (Aj Ak Al : Int) : den 1 (qn [.t 4] KK) (q9 KK) (qk [(0, (.sl 8 v0)), (1, (.func 90 [(.ptr 0 0)]))]) (qi [(some (.box true (qc Ai Aj Ak Al)))]) (kend (qn [.t 4] KK)) = qcb v0 Ai Aj Ak Al (qd3 KK) := by
  rw [qd4]; kernel_rfl
theorem qij : cFn (TIof Try.prog) Try.f68 = some ⟨9, [.t 4], scOf (q9 (R := Unit) (fun _ _ => none))⟩ := by kernel_rfl
theorem qik {R : Type} (KK : AV → Mem → Option R) : (q9 KK).er = some (scOf (q9 (R := Unit) (fun _ _ => none))) := by kernel_rfl
def qeb {R : Type} : List AV → Mem → (AV → Mem → Option R) → Option R := refE qhz fun xs m KK => qh (bxC (m.s 0)) (qcb (gL [(qm xs) 0] 0)) (qd3 KK)
theorem qil {R : Type} : qfp Try.prog 68 (qeb (R := R)) :=
  qld (ac := fun KK => q9 KK) tabOk follows Try.func68 (by kernel_rfl) qij (fun KK => qid KK) (fun KK => qik KK) rfl fun xs m KK => qii KK _ _ _ _ _
def q8s : Shp := ⟨[(0, .one (.l (.sl 8))), (1, .st (lk qe))], []⟩
def qsf (v0 : List AV) (Aq : Bool) (Ar As At : Int) : Option Bool :=
  (qcb v0 Aq Ar As At fun v4q1 b0_0q2 b0_1q3 b0_2q4 b0_3q5 => (some v4q1))
def qim := hull qsf
theorem qyh : qim = qsf := ql _
def qsg : AC Bool :=
  .seq (.reg [ao 3 (.box 1),
 ao 4 (.mv (.c (.bool false)))]) (.seq (.reg [ao 5 (.mv 0),
 ao 6 (.mkf 90 [3]),
 .st (.sel [5, 6] [0]),
 .callr (po 7 (.call 68 [5, 6])) 68 qeb,
 ao 4 (.mv 7)]) (.ret))
theorem q9s : AC.ok Try.prog (TIof Try.prog) 8 0 (kret [.t 4] decB) qsg := qp (zA qil trivial)
theorem qbcd (v0 : List AV) (Aq : Bool) (Ar As At : Int) : den 0 (kret [.t 4] decB) qsg (qk [(0, (.sl 8 v0)), (1, .agg (qc Aq Ar As At))]) (qi []) (kend (kret [.t 4] decB)) = qim v0 Aq Ar As At := by
  rw [qyh]; kernel_rfl
theorem qbce : cFn (TIof Try.prog) Try.f52 = some ⟨8, [.t 4], scOf qsg⟩ := by kernel_rfl
def qbcf (xs : List AV) : Option Bool := qh ((qm xs) 1).cells (qim (gL [(qm xs) 0] 0))
def qmx {R : Type} : List AV → (AV → Option R) → Option R := entF q8s qbcf AV.bool
theorem qsh {R : Type} : qd Try.prog 52 (qmx (R := R)) :=
  qce tabOk follows Try.func52 (by kernel_rfl) qbce hdeB q9s (qy (by kernel_rfl)) fun xs => qbcd _ _ _ _ _
def qbw (l : List AV) : Option (List AV) := qbbb 80 l
def qfj {R : Type} (xs : List AV) (K : AV → Option R) : Option R := q7r 8 80 xs K
theorem qk5 {R : Type} : qd Try.prog 93 (qfj (R := R)) := qbu4 (ρ := qbfn 93 4 22 34) tabOk (qbr9 follows "slices.Clone[[]ddi/api.Block,ddi/api.Block]" (by kernel_rfl) (by kernel_rfl) (by kernel_rfl) (by kernel_rfl) (by kernel_rfl) (by kernel_rfl) (by kernel_rfl) (by kernel_rfl)) (by kernel_rfl) (by decide) (by decide)
def q9t {R : Type} (vs : List AV) (m : Mem) (K : AV → Mem → Option R) : Option R := q38 8 vs m K
theorem qbna {R : Type} : qfp Try.prog 95 (q9t (R := R)) := qbsa (ρ := qbbc 95 0 3 4 22 34) tabOk (qbq5 follows "slices.Delete[[]ddi/api.Block,ddi/api.Block]" (by kernel_rfl) (by kernel_rfl) (by kernel_rfl) (by kernel_rfl) (by kernel_rfl) (by kernel_rfl) (by kernel_rfl) (by kernel_rfl) (by kernel_rfl) (by kernel_rfl) (by kernel_rfl) (by kernel_rfl) (by kernel_rfl) (by kernel_rfl)) (by kernel_rfl) (by decide)
def q9u : Shp := ⟨[(0, .one (.l (.sl 8))), (1, .one (.l (.i .i64)))], []⟩
def qty (v0 : List AV) (v1 : Int) : Option (List AV) :=
  (oB (qbw v0) fun r1 => (bif hd r1 r1.length then (oB (q58 r1 v1 (IntKind.i64.wrap (v1 + (1 : Int)))) fun r2 => (bif hd r2 r2.length then (some r2) else none)) else none))
def qf7 := hull qty
theorem q0j : qf7 = qty := ql _
def qtz : AC (List AV) :=
  .seq (.reg [ao 4 (.mv (.c .nils))]) (.seq (.reg [ao 5 (.mv 0),
 .call (po 6 (.call 93 [5])) 93 qfj,
 ao 7 (.mv 1),
 ao 8 (.mv 1),
 ao 9 (.bin .add 8 (.c (.int .i64 1))),
 .callr (po 10 (.call 95 [6, 7, 9])) 95 q9t,
 ao 4 (.mv 10)]) (.ret))
theorem qbcg : AC.ok Try.prog (TIof Try.prog) 11 0 (kret [.t 4] (decF true 8)) qtz := qp (zA (qd.ok qk5) (zA qbna trivial))
theorem qbet (v0 : List AV) (v1 : Int) : den 0 (kret [.t 4] (decF true 8)) qtz (qk [(0, (.sl 8 v0)), (1, (.int .i64 v1))]) (qi []) (kend (kret [.t 4] (decF true 8))) = qf7 v0 v1 := by
  rw [q0j]; kernel_rfl
theorem qbeu : cFn (TIof Try.prog) Try.f56 = some ⟨11, [.t 4], scOf qtz⟩ := by kernel_rfl
def qbev (xs : List AV) : Option (List AV) := qf7 (gL [(qm xs) 0] 0) (gI [(qm xs) 1] 0)
def qk6 {R : Type} : List AV → (AV → Option R) → Option R := entF q9u qbev (AV.fr true 8)
theorem qo0 {R : Type} : qd Try.prog 56 (qk6 (R := R)) :=
  qce tabOk follows Try.func56 (by kernel_rfl) qbeu hdeF qbcg (qy (by kernel_rfl)) fun xs => qbet _ _
def qsi (z : AV) : Option ((List AV) × Int) := cond (qmv [(.one (.sl 8)), (.one (.i .i64))] z) (some (aL (gC (tpL z) 0), aI (gC (tpL z) 1))) none
def qbch (r : (List AV) × Int) : AV := .tup [.sl 8 r.1, .int .i64 r.2]
def qbci : Shp := ⟨[(0, .one (.l (.sl 8))), (1, .st (lk qe))], []⟩
def qvc (v0 : List AV) (Aq : Bool) (Ar As At : Int) : Option ((List AV) × Int) :=
  (oB (qfw v0 Aq Ar As At) fun r1 => (bif (decide (r1 < (0 : Int))) then (some (([] : List AV), (11 : Int))) else (oB (qim v0 Aq Ar As At) fun r2 => (bif r2 then (some (([] : List AV), (25 : Int))) else (oB (qf7 v0 r1) fun r3 => (some (r3, (0 : Int))))))))
def qm5 := hull qvc
theorem q2a : qm5 = qvc := ql _
def qvd : AC ((List AV) × Int) :=
  .seq (.reg [ao 3 (.box 1),
 ao 4 (.mv (.c .nils)),
 ao 5 (.mv (.c (.int .i64 0)))]) (.seq (.reg [ao 7 (.mv 0),
 ao 8 (.load true 4 3),
 .call (po 9 (.call 51 [7, 8])) 51 qfx,
 ao 6 (.mv 9)]) (.seq (.seq (.reg [ao 10 (.mv 6),
 ao 11 (.bin .lss 10 (.c (.int .i64 0)))]) (.cond 11 (.seq (.reg [ao 4 (.mv (.c .nils)),
 ao 5 (.mv (.c (.int .i64 11)))]) (.seq (.view [.eta 4 (.one (.sl 8))]) (.ret))) (.skip))) (.seq (.seq (.reg [ao 12 (.mv 0),
 ao 13 (.load true 4 3),
 .call (po 14 (.call 52 [12, 13])) 52 qmx]) (.cond 14 (.seq (.reg [ao 4 (.mv (.c .nils)),
 ao 5 (.mv (.c (.int .i64 25)))]) (.seq (.view [.eta 4 (.one (.sl 8))]) (.ret))) (.skip))) (.seq (.reg [ao 15 (.mv 0),
 ao 16 (.mv 6),
 .callc (po 17 (.call 56 [15, 16])) 56 qk6,
 ao 4 (.mv 17),
 ao 5 (.mv (.c (.int .i64 0)))]) (.ret)))))
theorem qbew : AC.ok Try.prog (TIof Try.prog) 18 0 (kret [.t 4, .t 5] qsi) qvd := qp (zA (qd.ok qkd) (zA (qd.ok qsh) (zA (qd.ok qo0) trivial)))
theorem qbgm (v0 : List AV) (Aq : Bool) (Ar As At : Int) : den 0 (kret [.t 4, .t 5] qsi) qvd (qk [(0, (.sl 8 v0)), (1, .agg (qc Aq Ar As At))]) (qi []) (kend (kret [.t 4, .t 5] qsi)) = qm5 v0 Aq Ar As At := by
  rw [q2a]; kernel_rfl
theorem qbgn : cFn (TIof Try.prog) Try.f17 = some ⟨18, [.t 4, .t 5], scOf qvd⟩ := by kernel_rfl
def qbgo (xs : List AV) : Option ((List AV) × Int) := qh ((qm xs) 1).cells (qm5 (gL [(qm xs) 0] 0))
def q0k {R : Type} : List AV → (AV → Option R) → Option R := entF qbci qbgo qbch
theorem qbgp {R : Type} : qd Try.prog 17 (q0k (R := R)) :=
  qce tabOk follows Try.func17 (by kernel_rfl) qbgn (fun z r h => by
 obtain ⟨h1, h2⟩ := qo h
 cases h2
 exact (qhm h1).symm) qbew (qy (by kernel_rfl)) fun xs => qbgm _ _ _ _ _
def qbgq : Shp := ⟨[(0, .one (.l (.i .u64))), (1, .one (.l (.i .i64)))], []⟩
def q75 (v0 v1 : Int) : Option AV :=
  (some (.agg [(.bool false), (.int .u64 (0 : Int)), (.int .u64 v0), (.int .i64 v1)]))
def qgz := hull q75
theorem q45 : qgz = q75 := ql _
def qzp : AC AV :=
  .seq (.reg [ao 4 (.alloc [(.bool false), (.int .u64 0), (.int .u64 0), (.int .i64 0)])]) (.seq (.reg [ao 5 (.mv 0),
 ao 6 (.build [(.bool false), (.int .u64 0), (.int .u64 0)] [(2, (1, 5))]),
 ao 7 (.mv 1),
 ao 8 (.build [(.bool false), (.int .u64 0), (.int .u64 0), (.int .i64 0)] [(0, (3, 6)), (3, (1, 7))]),
 an (.store 4 4 8)]) (.ret))
theorem qbjp : AC.ok Try.prog (TIof Try.prog) 9 0 (kret [(.cell 4 true 4)] (decT [.b, (.i .u64), (.i .u64), (.i .i64)])) qzp := qp trivial
theorem qbl5 (v0 v1 : Int) : den 0 (kret [(.cell 4 true 4)] (decT [.b, (.i .u64), (.i .u64), (.i .i64)])) qzp (qk [(0, (.int .u64 v0)), (1, (.int .i64 v1))]) (qi []) (kend (kret [(.cell 4 true 4)] (decT [.b, (.i .u64), (.i .u64), (.i .i64)]))) = qgz v0 v1 := by
  rw [q45]; kernel_rfl
theorem qbl6 : cFn (TIof Try.prog) Try.f50 = some ⟨9, [(.cell 4 true 4)], scOf qzp⟩ := by kernel_rfl
def qbl7 (xs : List AV) : Option AV := qgz (gI [(qm xs) 0] 0) (gI [(qm xs) 1] 0)
def qgo {R : Type} : List AV → (AV → Option R) → Option R := entF qbgq qbl7 (qoa (.st [.b, (.i .u64), (.i .u64), (.i .i64)]))
theorem qlm {R : Type} : qd Try.prog 50 (qgo (R := R)) :=
  qce tabOk follows Try.func50 (by kernel_rfl) qbl6 hdeT qbjp (qy (by kernel_rfl)) fun xs => qbl5 _ _
def q8t : Shp := ⟨[(0, .st (lk qa)), (1, .one (.ptr 0 0))], [.box true (lk qa)]⟩
def qyi {R : Type} (KK : AV → Mem → Option R) := (fun v3 Ai Aj Ak Al Am An Ao Ap => KK (.bool v3) (qi [(some (.box true [(.bool Ai), (.int .u64 Aj), (.int .u64 Ak), (.int .i64 Al), (.int .i64 Am), (.str An), (.str Ao), (.int .i64 Ap)]))]))
def qsj {R : Type}  (Aa : Bool) (Ab Ac Ad Ae : Int) (Af Ag : List UInt8) (Ah : Int) (Ai : Bool) (Aj Ak Al Am : Int) (An Ao : List UInt8) (Ap : Int) (kr : Bool → Bool → Int → Int → Int → Int → (List UInt8) → (List UInt8) → Int → Option R) : Option R :=
  (oB (qka Aa Ab Ac Ad Ai Aj Ak Al) fun r1 => (kr (decide (r1 > (0 : Int))) Ai Aj Ak Al Am An Ao Ap))
def qnf {R : Type} := hull (qsj (R := R))
theorem qyj {R : Type} : qnf (R := R) = qsj := ql _
def qiy {R : Type} (KK : AV → Mem → Option R) : AC R :=
  .seq (.reg [ao 2 (.box 0),
 ao 3 (.mv (.c (.bool false)))]) (.seq (.reg [ao 4 (.fa 0 2),
 ao 5 (.load true 4 4),
 ao 6 (.fa 0 1),
 ao 7 (.load true 4 6),
 .call (po 8 (.call 40 [5, 7])) 40 qnb,
 ao 9 (.bin .gtr 8 (.c (.int .i64 0))),
 ao 3 (.mv 9)]) (.seq (.view [.sel [3] [0]]) (.ret)))
theorem q9v {R : Type} (KK : AV → Mem → Option R) : AC.ok Try.prog (TIof Try.prog) 10 1 (qn [.t 3] KK) (qiy KK) := qp (zA (qd.ok qtv) trivial)
theorem qbcj {R : Type} (KK : AV → Mem → Option R) (Aa : Bool) (Ab Ac Ad Ae : Int) (Af Ag : List UInt8) (Ah : Int) (Ai : Bool) (Aj Ak Al Am : Int) (An Ao : List UInt8) (Ap : Int) : den 1 (qn [.t 3] KK) (qiy KK) (qk [(0, .agg (qb Aa Ab Ac Ad Ae Af Ag Ah)), (1, (.ptr 0 0))]) (qi [(some (.box true (qb Ai Aj Ak Al Am An Ao Ap)))]) (kend (qn [.t 3] KK)) = qnf Aa Ab Ac Ad Ae Af Ag Ah Ai Aj Ak Al Am An Ao Ap (qyi KK) := by
  rw [qyj]; kernel_rfl
theorem qbck : cFn (TIof Try.prog) Try.f91 = some ⟨10, [.t 3], scOf (qiy (R := Unit) (fun _ _ => none))⟩ := by kernel_rfl
theorem qbcl {R : Type} (KK : AV → Mem → Option R) : (qiy KK).er = some (scOf (qiy (R := Unit) (fun _ _ => none))) := by kernel_rfl
def q0l {R : Type} : List AV → Mem → (AV → Mem → Option R) → Option R := refE q8t fun xs m KK => qf (bxC (m.s 0)) (qf ((qm xs) 0).cells (qnf)) (qyi KK)
theorem qbcm {R : Type} : qfp Try.prog 91 (q0l (R := R)) :=
  qld (ac := fun KK => qiy KK) tabOk follows Try.func91 (by kernel_rfl) qbck (fun KK => q9v KK) (fun KK => qbcl KK) rfl fun xs m KK => qbcj KK _ _ _ _ _ _ _ _ _ _ _ _ _ _ _ _
def qb1 {R : Type}  (K : Ex → Env → Mem → Option R) := (fun z_b0_0 z_b0_1 z_b0_2 z_b0_3 z_b0_4 z_b0_5 z_b0_6 z_b0_7 => K (.exit 0) (qk []) (qi [(some (.box true (qb z_b0_0 z_b0_1 z_b0_2 z_b0_3 z_b0_4 z_b0_5 z_b0_6 z_b0_7)))]))
def qb8 {R : Type} (KK : AV → Mem → Option R) := (fun v4 Ai Aj Ak Al Am An Ao Ap => KK (.int .i64 v4) (qi [(some (.box true [(.bool Ai), (.int .u64 Aj), (.int .u64 Ak), (.int .i64 Al), (.int .i64 Am), (.str An), (.str Ao), (.int .i64 Ap)]))]))
def qin : Shp := ⟨[(0, .one (.l (.sl 8))), (1, .one (.fn 91 [(0, 0)])), (7, .one (.l (.i .i64))), (8, .one (.l (.i .i64)))], [.box true (lk qa)]⟩
def qc1 (v0 : List AV) (v7 v8 : Int) (Ai : Bool) (Aj Ak Al Am : Int) (An Ao : List UInt8) (Ap : Int) : Env := qk [(0, (.sl 8 v0)), (1, (.func 91 [(.ptr 0 0)])), (7, (.int .i64 v7)), (8, (.int .i64 v8))]
def qc2 (v0 : List AV) (v7 v8 : Int) (Ai : Bool) (Aj Ak Al Am : Int) (An Ao : List UInt8) (Ap : Int) : Mem := qi [(some (.box true (qb Ai Aj Ak Al Am An Ao Ap)))]
def qbd {R : Type}  (v0 : List AV) (v7 v8 : Int) (Ai : Bool) (Aj Ak Al Am : Int) (An Ao : List UInt8) (Ap : Int) (next : Int → Bool → Int → Int → Int → Int → (List UInt8) → (List UInt8) → Int → Option R) (kx0 : Bool → Int → Int → Int → Int → (List UInt8) → (List UInt8) → Int → Option R) (kr : Int → Bool → Int → Int → Int → Int → (List UInt8) → (List UInt8) → Int → Option R) : Option R :=
  (bif (decide (v8 < v7)) then (oB (ixB v0 v8) fun y1 => (bif fitC qa y1.cells then (qnf (gB y1.cells 0) (gI y1.cells 1) (gI y1.cells 2) (gI y1.cells 3) (gI y1.cells 4) (gS y1.cells 5) (gS y1.cells 6) (gI y1.cells 7) Ai Aj Ak Al Am An Ao Ap fun v3q2 b0_0q3 b0_1q4 b0_2q5 b0_3q6 b0_4q7 b0_5q8 b0_6q9 b0_7q10 => (bif v3q2 then (kr v8 b0_0q3 b0_1q4 b0_2q5 b0_3q6 b0_4q7 b0_5q8 b0_6q9 b0_7q10) else (next (IntKind.i64.wrap (v8 + (1 : Int))) b0_0q3 b0_1q4 b0_2q5 b0_3q6 b0_4q7 b0_5q8 b0_6q9 b0_7q10))) else none)) else (kx0 Ai Aj Ak Al Am An Ao Ap))
def qcc {R : Type}  (v0 : List AV) (v7 : Int) (kx0 : Bool → Int → Int → Int → Int → (List UInt8) → (List UInt8) → Int → Option R) (kr : Int → Bool → Int → Int → Int → Int → (List UInt8) → (List UInt8) → Int → Option R) : Nat → Int → Bool → Int → Int → Int → Int → (List UInt8) → (List UInt8) → Int → Option R
  | 0 => (fun _ _ _ _ _ _ _ _ _ => none)
  | n + 1 => (fun v8 Ai Aj Ak Al Am An Ao Ap => qbd v0 v7 v8 Ai Aj Ak Al Am An Ao Ap (qcc v0 v7 kx0 kr n) kx0 kr)
def qcf {R : Type} := hull (qcc (R := R))
theorem qei {R : Type} : qcf (R := R) = qcc := ql _
def qbe {R : Type} (KK : AV → Mem → Option R) : AC R :=
  .seq (.reg [ao 9 (.bin .lss 8 7)]) (.seq (.cond 9 (.skip) (.seq (.view [.sel [] [0]]) (.exit 0))) (.seq (.block 1 (.seq (.reg [ao 10 (.mv 8),
 ao 5 (.mv 10)]) (.seq (.reg [ao 11 (.mv 1),
 ao 12 (.mv 0),
 ao 13 (.mv 5),
 ao 14 (.ia 8 12 13),
 .st (.etac 14 qa),
 ao 15 (.load true 8 14),
 .st (.sel [0, 1, 5, 7, 8, 11, 15] [0]),
 .callr (po 16 (.callv 11 [15])) 91 q0l]) (.cond 16 (.seq (.reg [ao 17 (.mv 5),
 ao 4 (.mv 17)]) (.seq (.view [.sel [4] [0]]) (.ret))) (.skip))))) (.seq (.reg [ao 18 (.bin .add 8 (.c (.int .i64 1))),
 ao 8 (.mv 18)]) (.view [.sel [0, 1, 7, 8] [0]]))))
theorem qja {R : Type} (KK : AV → Mem → Option R) : AC.ok Try.prog (TIof Try.prog) 19 1 (qn [.t 4] KK) (qbe KK) := qp (zA qbcm trivial)
theorem qio {R : Type} (KK : AV → Mem → Option R) (v0 : List AV) (v7 v8 : Int) (Ai : Bool) (Aj Ak Al Am : Int) (An Ao : List UInt8) (Ap : Int) (K : Ex → Env → Mem → Option R) : den 1 (qn [.t 4] KK) (qbe KK) (qc1 v0 v7 v8 Ai Aj Ak Al Am An Ao Ap) (qc2 v0 v7 v8 Ai Aj Ak Al Am An Ao Ap) K = qbd v0 v7 v8 Ai Aj Ak Al Am An Ao Ap (fun z_v8 z_b0_0 z_b0_1 z_b0_2 z_b0_3 z_b0_4 z_b0_5 z_b0_6 z_b0_7 => K .norm (qc1 v0 v7 z_v8 z_b0_0 z_b0_1 z_b0_2 z_b0_3 z_b0_4 z_b0_5 z_b0_6 z_b0_7) (qc2 v0 v7 z_v8 z_b0_0 z_b0_1 z_b0_2 z_b0_3 z_b0_4 z_b0_5 z_b0_6 z_b0_7)) (qb1 K) (qb8 KK) := by kernel_rfl
theorem qjo {R : Type} (KK : AV → Mem → Option R) (v0 : List AV) (v7 : Int) (K : Ex → Env → Mem → Option R) : ∀ (n : Nat) (v8 : Int) (Ai : Bool) (Aj Ak Al Am : Int) (An Ao : List UInt8) (Ap : Int), qgc (den 1 (qn [.t 4] KK) (qbe KK)) n (qc1 v0 v7 v8 Ai Aj Ak Al Am An Ao Ap) (qc2 v0 v7 v8 Ai Aj Ak Al Am An Ao Ap) K = qcf v0 v7 (qb1 K) (qb8 KK) n v8 Ai Aj Ak Al Am An Ao Ap := by
  rw [qei]
  intro n
  induction n with
  | zero => intros; rfl
  | succ n ih =>
 intro v8 Ai Aj Ak Al Am An Ao Ap
 exact (qio KK v0 v7 v8 Ai Aj Ak Al Am An Ao Ap (itK (den 1 (qn [.t 4] KK) (qbe KK)) n K)).trans (congrArg (fun q => qbd v0 v7 v8 Ai Aj Ak Al Am An Ao Ap q (qb1 K) (qb8 KK)) (funext fun v8 => funext fun Ai => funext fun Aj => funext fun Ak => funext fun Al => funext fun Am => funext fun An => funext fun Ao => funext fun Ap => ih v8 Ai Aj Ak Al Am An Ao Ap))
def qe0 {R : Type} (KK : AV → Mem → Option R) := subE (R := R) qin fun t m K => qf (bxC (m.s 0)) (qcf (gL [t 0] 0) (gI [t 7] 0) (qb1 K) (qb8 KK) FU (gI [t 8] 0))
theorem qjp {R : Type} (KK : AV → Mem → Option R) : qdb Try.prog (TIof Try.prog) 19 1 (qn [.t 4] KK) (.loop (scOf (qbe KK))) (qe0 KK) :=
  qgd tabOk follows (qja KK) (qy (by kernel_rfl)) fun t m K => qjo KK _ _ K FU _ _ _ _ _ _ _ _ _
def qjz : Shp := ⟨[(0, .one (.l (.sl 8))), (1, .one (.fn 91 [(0, 0)]))], [.box true (lk qa)]⟩
def qe4 {R : Type} (KK : AV → Mem → Option R) := (fun v4 Ai Aj Ak Al Am An Ao Ap => KK (.int .i64 v4) (qi [(some (.box true [(.bool Ai), (.int .u64 Aj), (.int .u64 Ak), (.int .i64 Al), (.int .i64 Am), (.str An), (.str Ao), (.int .i64 Ap)]))]))
def qdf {R : Type}  (v0 : List AV) (Ai : Bool) (Aj Ak Al Am : Int) (An Ao : List UInt8) (Ap : Int) (kr : Int → Bool → Int → Int → Int → Int → (List UInt8) → (List UInt8) → Int → Option R) : Option R :=
  (qcf v0 (v0.length : Int) (fun b0_0q1 b0_1q2 b0_2q3 b0_3q4 b0_4q5 b0_5q6 b0_6q7 b0_7q8 => (kr (-1 : Int) b0_0q1 b0_1q2 b0_2q3 b0_3q4 b0_4q5 b0_5q6 b0_6q7 b0_7q8)) kr FU (0 : Int) Ai Aj Ak Al Am An Ao Ap)
def qbq {R : Type} := hull (qdf (R := R))
theorem qe5 {R : Type} : qbq (R := R) = qdf := ql _
def qbj {R : Type} (KK : AV → Mem → Option R) : AC R :=
  .seq (.reg [ao 4 (.mv (.c (.int .i64 0)))]) (.seq (.seq (.reg [ao 6 (.mv 0),
 ao 7 (.len false 6),
 ao 8 (.mv (.c (.int .i64 0)))]) (.block 0 (.seq (.view [.sel [0, 1, 7, 8] [0]]) (.sub (.loop (scOf (qbe KK))) (qe0 KK))))) (.seq (.reg [ao 4 (.mv (.c (.int .i64 (-1))))]) (.seq (.view [.sel [4] [0]]) (.ret))))
theorem qke {R : Type} (KK : AV → Mem → Option R) : AC.ok Try.prog (TIof Try.prog) 19 1 (qn [.t 4] KK) (qbj KK) := qp (zA (qjp KK) trivial)
theorem qkr {R : Type} (KK : AV → Mem → Option R) (v0 : List AV) (Ai : Bool) (Aj Ak Al Am : Int) (An Ao : List UInt8) (Ap : Int) : den 1 (qn [.t 4] KK) (qbj KK) (qk [(0, (.sl 8 v0)), (1, (.func 91 [(.ptr 0 0)]))]) (qi [(some (.box true (qb Ai Aj Ak Al Am An Ao Ap)))]) (kend (qn [.t 4] KK)) = qbq v0 Ai Aj Ak Al Am An Ao Ap (qe4 KK) := by
  rw [qe5]; kernel_rfl
theorem qks : cFn (TIof Try.prog) Try.f88 = some ⟨19, [.t 4], scOf (qbj (R := Unit) (fun _ _ => none))⟩ := by kernel_rfl
theorem qkt {R : Type} (KK : AV → Mem → Option R) : (qbj KK).er = some (scOf (qbj (R := Unit) (fun _ _ => none))) := by kernel_rfl
def qfb {R : Type} : List AV → Mem → (AV → Mem → Option R) → Option R := refE qjz fun xs m KK => qf (bxC (m.s 0)) (qbq (gL [(qm xs) 0] 0)) (qe4 KK)
theorem qku {R : Type} : qfp Try.prog 88 (qfb (R := R)) :=
  qld (ac := fun KK => qbj KK) tabOk follows Try.func88 (by kernel_rfl) qks (fun KK => qke KK) (fun KK => qkt KK) rfl fun xs m KK => qkr KK _ _ _ _ _ _ _ _ _
def q9w {R : Type} (vs : List AV) (m : Mem) (K : AV → Mem → Option R) : Option R := q39 8 80 vs m K
theorem qbnb {R : Type} : qfp Try.prog 92 (q9w (R := R)) := qbsb (ρ := qbbd 92 102 103 0 3 4 22 34) tabOk (qbq6 follows "slices.Insert[[]ddi/api.Block,ddi/api.Block]" (by kernel_rfl) (by kernel_rfl) Try.func102 (by kernel_rfl) (by kernel_rfl) (by kernel_rfl) (by kernel_rfl) (by kernel_rfl) (by kernel_rfl) (by kernel_rfl) (by kernel_rfl) (by kernel_rfl) (by kernel_rfl) (by kernel_rfl) (by kernel_rfl) (by kernel_rfl) (by kernel_rfl) (by kernel_rfl) (by kernel_rfl) (by kernel_rfl)) (by kernel_rfl) (by kernel_rfl) (by decide) (by decide)
def qwp  (v0 : List AV) (Ai : Bool) (Aj Ak Al Am : Int) (An Ao : List UInt8) (Ap : Int) (K : Ex → Env → Mem → Option (List AV)) := (fun z_v5 => K .norm (qk [(0, (.sl 8 v0)), (3, (.ptr 0 0)), (5, (.int .i64 z_v5))]) (qi [(some (.box true (qb Ai Aj Ak Al Am An Ao Ap)))]))
def q6p : Shp := ⟨[(0, .one (.l (.sl 8))), (3, .one (.ptr 0 0)), (5, .one (.l (.i .i64)))], [.box true (lk qa)]⟩
def qrn  (v0 : List AV) (v5 : Int) (Ai : Bool) (Aj Ak Al Am : Int) (An Ao : List UInt8) (Ap : Int) (kn : Int → Option (List AV)) : Option (List AV) :=
  (bif (decide (v5 < (0 : Int))) then (kn (v0.length : Int)) else (kn v5))
def qo1 := hull (qrn)
theorem qwq : qo1 = qrn := ql _
def qng : AC (List AV) :=
  .seq (.reg [ao 9 (.mv 5),
 ao 10 (.bin .lss 9 (.c (.int .i64 0)))]) (.cond 10 (.seq (.reg [ao 11 (.mv 0),
 ao 12 (.len false 11),
 ao 5 (.mv 12)]) (.view [.sel [0, 3, 5] [0]])) (.seq (.skip) (.view [.sel [0, 3, 5] [0]])))
theorem q8u : AC.ok Try.prog (TIof Try.prog) 19 0 (kret [.t 4] (decF true 8)) qng := qp trivial
theorem q9x (v0 : List AV) (v5 : Int) (Ai : Bool) (Aj Ak Al Am : Int) (An Ao : List UInt8) (Ap : Int) (K : Ex → Env → Mem → Option (List AV)) : den 0 (kret [.t 4] (decF true 8)) qng (qk [(0, (.sl 8 v0)), (3, (.ptr 0 0)), (5, (.int .i64 v5))]) (qi [(some (.box true (qb Ai Aj Ak Al Am An Ao Ap)))]) K = qo1 v0 v5 Ai Aj Ak Al Am An Ao Ap (qwp v0 Ai Aj Ak Al Am An Ao Ap K) := by
  rw [qwq]; kernel_rfl
def qyk := subE (R := (List AV)) q6p fun t m K => qf (bxC (m.s 0)) (qo1 (gL [t 0] 0) (gI [t 5] 0)) (qwp (gL [t 0] 0) (gB (bxC (m.s 0)) 0) (gI (bxC (m.s 0)) 1) (gI (bxC (m.s 0)) 2) (gI (bxC (m.s 0)) 3) (gI (bxC (m.s 0)) 4) (gS (bxC (m.s 0)) 5) (gS (bxC (m.s 0)) 6) (gI (bxC (m.s 0)) 7) K)
theorem q9y : qdb Try.prog (TIof Try.prog) 19 0 (kret [.t 4] (decF true 8)) (scOf qng) (qyk) :=
  qis tabOk follows (q8u) (qy (by kernel_rfl)) fun t m K => q9x _ _ _ _ _ _ _ _ _ _ K
def qbcn : Shp := ⟨[(0, .one (.l (.sl 8))), (1, .st (lk qa))], []⟩
def qve (v0 : List AV) (Aq : Bool) (Ar As At Ay : Int) (Az A0 : List UInt8) (A1 : Int) : Option (List AV) :=
  (qbq v0 Aq Ar As At Ay Az A0 A1 fun v4q1 b0_0q2 b0_1q3 b0_2q4 b0_3q5 b0_4q6 b0_5q7 b0_6q8 b0_7q9 => (qo1 v0 v4q1 b0_0q2 b0_1q3 b0_2q4 b0_3q5 b0_4q6 b0_5q7 b0_6q8 b0_7q9 (fun v5q10 => (oB (qbw v0) fun r11 => (bif hd r11 r11.length then (bif hd ([(.agg [(.bool b0_0q2), (.int .u64 b0_1q3), (.int .u64 b0_2q4), (.int .i64 b0_3q5), (.int .i64 b0_4q6), (.str b0_5q7), (.str b0_6q8), (.int .i64 b0_7q9)])] : List AV) (([(.agg [(.bool b0_0q2), (.int .u64 b0_1q3), (.int .u64 b0_2q4), (.int .i64 b0_3q5), (.int .i64 b0_4q6), (.str b0_5q7), (.str b0_6q8), (.int .i64 b0_7q9)])] : List AV).length) then (oB (qxr 80 r11 v5q10 ([(.agg [(.bool b0_0q2), (.int .u64 b0_1q3), (.int .u64 b0_2q4), (.int .i64 b0_3q5), (.int .i64 b0_4q6), (.str b0_5q7), (.str b0_6q8), (.int .i64 b0_7q9)])] : List AV)) fun r12 => (bif hd r12 r12.length then (some r12) else none)) else none) else none)))))
def qg4 := hull qve
theorem q2b : qg4 = qve := ql _
def qvf : AC (List AV) :=
  .seq (.reg [ao 3 (.box 1),
 ao 4 (.mv (.c .nils))]) (.seq (.reg [ao 6 (.mv 0),
 ao 7 (.mkf 91 [3]),
 .st (.sel [0, 3, 6, 7] [0]),
 .callr (po 8 (.call 88 [6, 7])) 88 qfb,
 ao 5 (.mv 8)]) (.seq (.seq (.view [.sel [0, 3, 5] [0]]) (.sub (scOf qng) qyk)) (.seq (.draw3 [] [14, 17] [ao 13 (.mv 0),
 .call (po 14 (.call 93 [13])) 93 qfj,
 ao 15 (.mv 5),
 ao 16 (.load true 8 3),
 ao 17 (.bsl 8 [16])] [.callr (po 18 (.call 92 [14, 15, 17])) 92 q9w,
 ao 4 (.mv 18)]) (.ret))))
theorem qbex : AC.ok Try.prog (TIof Try.prog) 19 0 (kret [.t 4] (decF true 8)) qvf := qp (zA qku (zA q9y (zA (qd.ok qk5) (zA qbnb (zA rfl trivial)))))
theorem qbgr (v0 : List AV) (Aq : Bool) (Ar As At Ay : Int) (Az A0 : List UInt8) (A1 : Int) : den 0 (kret [.t 4] (decF true 8)) qvf (qk [(0, (.sl 8 v0)), (1, .agg (qb Aq Ar As At Ay Az A0 A1))]) (qi []) (kend (kret [.t 4] (decF true 8))) = qg4 v0 Aq Ar As At Ay Az A0 A1 := by
  rw [q2b]; kernel_rfl
theorem qbgs : cFn (TIof Try.prog) Try.f53 = some ⟨19, [.t 4], scOf qvf⟩ := by kernel_rfl
def qbgt (xs : List AV) : Option (List AV) := qf ((qm xs) 1).cells (qg4 (gL [(qm xs) 0] 0))
def qlz {R : Type} : List AV → (AV → Option R) → Option R := entF qbcn qbgt (AV.fr true 8)
theorem qqm {R : Type} : qd Try.prog 53 (qlz (R := R)) :=
  qce tabOk follows Try.func53 (by kernel_rfl) qbgs hdeF qbex (qy (by kernel_rfl)) fun xs => qbgr _ _ _ _ _ _ _ _ _
def qml (z : AV) : Option ((List AV) × Int) := cond (qmv [(.one (.sl 8)), (.one (.i .i64))] z) (some (aL (gC (tpL z) 0), aI (gC (tpL z) 1))) none
def qbjq (r : (List AV) × Int) : AV := .tup [.sl 8 r.1, .int .i64 r.2]
def q0m  (v0 : List AV) (Ai : Bool) (Aj Ak Al Am : Int) (An Ao : List UInt8) (Ap : Int) (K : Ex → Env → Mem → Option ((List AV) × Int)) := (fun z_v25 => K .norm (qk [(0, (.sl 8 v0)), (3, (.ptr 0 0)), (25, (.bool z_v25))]) (qi [(some (.box true (qb Ai Aj Ak Al Am An Ao Ap)))]))
def q9z : Shp := ⟨[(0, .one (.l (.sl 8))), (3, .one (.ptr 0 0))], [.box true (lk qa)]⟩
def qt0  (v0 : List AV) (Ai : Bool) (Aj Ak Al Am : Int) (An Ao : List UInt8) (Ap : Int) (kn : Bool → Option ((List AV) × Int)) : Option ((List AV) × Int) :=
  (oB (qg8 v0 Ai Aj Ak Al Am An Ao Ap) fun r1 => (bif r1 then (kn true) else (oB (qim v0 Ai Aj Ak Al) fun r2 => (kn r2))))
def qr2 := hull (qt0)
theorem q0n : qr2 = qt0 := ql _
def qo2 : AC ((List AV) × Int) :=
  .seq (.reg [ao 17 (.mv 0),
 ao 18 (.load true 8 3),
 .call (po 19 (.call 44 [17, 18])) 44 qox,
 ao 20 (.mv 19),
 ag 21 20 false (.mv 0),
 ag 22 20 false (.fa 0 3),
 ag 23 20 false (.load true 4 22),
 .call (pg 24 20 false (.call 52 [21, 23])) 52 qmx,
 ao 25 (.pick 20 (.c (.bool true)) 24)]) (.view [.sel [0, 3, 25] [0]])
theorem qbco : AC.ok Try.prog (TIof Try.prog) 32 0 (kret [.t 4, .t 5] qml) qo2 := qp (zA (qd.ok qye) (zA (qd.ok qsh) trivial))
theorem qbey (v0 : List AV) (Ai : Bool) (Aj Ak Al Am : Int) (An Ao : List UInt8) (Ap : Int) (K : Ex → Env → Mem → Option ((List AV) × Int)) : den 0 (kret [.t 4, .t 5] qml) qo2 (qk [(0, (.sl 8 v0)), (3, (.ptr 0 0))]) (qi [(some (.box true (qb Ai Aj Ak Al Am An Ao Ap)))]) K = qr2 v0 Ai Aj Ak Al Am An Ao Ap (q0m v0 Ai Aj Ak Al Am An Ao Ap K) := by
  rw [q0n]; kernel_rfl
def q2c := subE (R := (List AV) × Int) q9z fun t m K => qf (bxC (m.s 0)) (qr2 (gL [t 0] 0)) (q0m (gL [t 0] 0) (gB (bxC (m.s 0)) 0) (gI (bxC (m.s 0)) 1) (gI (bxC (m.s 0)) 2) (gI (bxC (m.s 0)) 3) (gI (bxC (m.s 0)) 4) (gS (bxC (m.s 0)) 5) (gS (bxC (m.s 0)) 6) (gI (bxC (m.s 0)) 7) K)
theorem qbez : qdb Try.prog (TIof Try.prog) 32 0 (kret [.t 4, .t 5] qml) (scOf qo2) (q2c) :=
  qis tabOk follows (qbco) (qy (by kernel_rfl)) fun t m K => qbey _ _ _ _ _ _ _ _ _ K
def qbjr : Shp := ⟨[(0, .one (.l (.sl 8))), (1, .st (lk qa))], []⟩
def q2d (v0 : List AV) (Aq : Bool) (Ar As At Ay : Int) (Az A0 : List UInt8) (A1 : Int) : Option ((List AV) × Int) :=
  (oB (qmp Aq Ar As At Ay Az A0 A1) fun r1 => (bif (r1 != (0 : Int)) then (some (([] : List AV), r1)) else (oB (qfw v0 Aq Ar As At) fun r2 => (bif (decide (r2 ≥ (0 : Int))) then (some (([] : List AV), (12 : Int))) else (qr2 v0 Aq Ar As At Ay Az A0 A1 (fun v25q3 => (bif v25q3 then (some (([] : List AV), (24 : Int))) else (bif (decide ((v0.length : Int) ≥ (512 : Int))) then (some (([] : List AV), (9 : Int))) else (oB (qg4 v0 Aq Ar As At Ay Az A0 A1) fun r4 => (some (r4, (0 : Int))))))))))))
def qr3 := hull q2d
theorem q76 : qr3 = q2d := ql _
def q2e : AC ((List AV) × Int) :=
  .seq (.reg [ao 3 (.box 1),
 ao 4 (.mv (.c .nils)),
 ao 5 (.mv (.c (.int .i64 0)))]) (.seq (.seq (.reg [ao 7 (.load true 8 3),
 .call (po 8 (.call 43 [7])) 43 qts,
 ao 6 (.mv 8)]) (.seq (.reg [ao 9 (.mv 6),
 ao 10 (.bin .neq 9 (.c (.int .i64 0)))]) (.cond 10 (.seq (.reg [ao 11 (.mv 6),
 ao 4 (.mv (.c .nils)),
 ao 5 (.mv 11)]) (.seq (.view [.eta 4 (.one (.sl 8))]) (.ret))) (.skip)))) (.seq (.seq (.reg [ao 12 (.mv 0),
 ao 13 (.fa 0 3),
 ao 14 (.load true 4 13),
 .call (po 15 (.call 51 [12, 14])) 51 qfx,
 ao 16 (.bin .geq 15 (.c (.int .i64 0)))]) (.cond 16 (.seq (.reg [ao 4 (.mv (.c .nils)),
 ao 5 (.mv (.c (.int .i64 12)))]) (.seq (.view [.eta 4 (.one (.sl 8))]) (.ret))) (.skip))) (.seq (.seq (.seq (.view [.sel [0, 3] [0]]) (.sub (scOf qo2) q2c)) (.cond 25 (.seq (.reg [ao 4 (.mv (.c .nils)),
 ao 5 (.mv (.c (.int .i64 24)))]) (.seq (.view [.eta 4 (.one (.sl 8))]) (.ret))) (.skip))) (.seq (.seq (.reg [ao 26 (.mv 0),
 ao 27 (.len false 26),
 ao 28 (.bin .geq 27 (.c (.int .i64 512)))]) (.cond 28 (.seq (.reg [ao 4 (.mv (.c .nils)),
 ao 5 (.mv (.c (.int .i64 9)))]) (.seq (.view [.eta 4 (.one (.sl 8))]) (.ret))) (.skip))) (.seq (.reg [ao 29 (.mv 0),
 ao 30 (.load true 8 3),
 .callc (po 31 (.call 53 [29, 30])) 53 qlz,
 ao 4 (.mv 31),
 ao 5 (.mv (.c (.int .i64 0)))]) (.ret))))))
theorem qbl8 : AC.ok Try.prog (TIof Try.prog) 32 0 (kret [.t 4, .t 5] qml) q2e := qp (zA (qd.ok q4x) (zA (qd.ok qkd) (zA qbez (zA (qd.ok qqm) trivial))))
theorem qbnc (v0 : List AV) (Aq : Bool) (Ar As At Ay : Int) (Az A0 : List UInt8) (A1 : Int) : den 0 (kret [.t 4, .t 5] qml) q2e (qk [(0, (.sl 8 v0)), (1, .agg (qb Aq Ar As At Ay Az A0 A1))]) (qi []) (kend (kret [.t 4, .t 5] qml)) = qr3 v0 Aq Ar As At Ay Az A0 A1 := by
  rw [q76]; kernel_rfl
theorem qbnd : cFn (TIof Try.prog) Try.f15 = some ⟨32, [.t 4, .t 5], scOf q2e⟩ := by kernel_rfl
def qbne (xs : List AV) : Option ((List AV) × Int) := qf ((qm xs) 1).cells (qr3 (gL [(qm xs) 0] 0))
def q46 {R : Type} : List AV → (AV → Option R) → Option R := entF qbjr qbne qbjq
theorem qbnf {R : Type} : qd Try.prog 15 (q46 (R := R)) :=
  qce tabOk follows Try.func15 (by kernel_rfl) qbnd (fun z r h => by
 obtain ⟨h1, h2⟩ := qo h
 cases h2
 exact (qhm h1).symm) qbl8 (qy (by kernel_rfl)) fun xs => qbnc _ _ _ _ _ _ _ _ _
end
end Go.Proofs.Ytmjdngnagiloeaa.Dn
