import Derived.Test.YtmjdngnagiloeaaProg
import Derived.Test.YtmjdngnagiloeaaBfLibD
set_option linter.all false
namespace Go.Proofs.Ytmjdngnagiloeaa.Dn
open Go Go.Pev
set_option linter.unusedVariables false
set_option linter.unusedSimpArgs false
set_option maxRecDepth 100000
set_option maxHeartbeats 4000000
theorem zT : True := True.intro
theorem zA {a b : Prop} (x : a) (y : b) : a ∧ b := ⟨x, y⟩
theorem tabOk : Tab.ok (TIof Try.prog) Try.prog := fun _ _ h => h
theorem follows : Try.prog.follows .mixedOrders = true := by kernel_rfl
def qa : List LT := [.b, (.i .u64), (.i .u64), (.i .i64), (.i .i64), .s, .s, (.i .i64)]
def qd (x0 : Bool) (x1 x2 x3 x4 : Int) (x5 x6 : List UInt8) (x7 : Int) : List AV := [.bool x0, .int .u64 x1, .int .u64 x2, .int .i64 x3, .int .i64 x4, .str x5, .str x6, .int .i64 x7]
def qj {β : Type} (cs : List AV) (f : Bool → Int → Int → Int → Int → List UInt8 → List UInt8 → Int → β) : β := f (gB cs 0) (gI cs 1) (gI cs 2) (gI cs 3) (gI cs 4) (gS cs 5) (gS cs 6) (gI cs 7)
def qbh2 : Shp := ⟨[(0, .st (lk qa))], []⟩
noncomputable section
def qxm (Aa : Bool) (Ab Ac Ad Ae : Int) (Af Ag : List UInt8) (Ah : Int) : Option AV :=
  (oB (cutI Af none (some (if (100 : Int) < (Af.length : Int) then (100 : Int) else (Af.length : Int)))) fun s1 => (oB (cutI Ag none (some (if (100 : Int) < (Ag.length : Int) then (100 : Int) else (Ag.length : Int)))) fun s2 => (some (.agg [(.bool Aa), (.int .u64 Ab), (.int .u64 Ac), (.int .i64 Ad), (.int .i64 Ae), (.str s1), (.str s2), (.int .i64 Ah)]))))
def qqe := hull qxm
theorem q5n : qqe = qxm := qi _
def qxn : AC AV :=
  .seq (.reg [ao 1 (.box 0),
 ao 2 (.alloc [(.bool false), (.int .u64 0), (.int .u64 0), (.int .i64 0), (.int .i64 0), (.str []), (.str []), (.int .i64 0)])]) (.seq (.reg [ao 3 (.fa 5 1),
 ao 4 (.load false 1 3),
 ao 5 (.fa 5 1),
 ao 6 (.load false 1 5),
 ao 7 (.len true 6),
 ao 8 (.mm false 7 [(.c (.int .i64 100))]),
 ao 9 (.slcs 4 none (some 8)),
 ao 10 (.fa 5 1),
 an (.store 1 10 9)]) (.seq (.reg [ao 11 (.fa 6 1),
 ao 12 (.load false 1 11),
 ao 13 (.fa 6 1),
 ao 14 (.load false 1 13),
 ao 15 (.len true 14),
 ao 16 (.mm false 15 [(.c (.int .i64 100))]),
 ao 17 (.slcs 12 none (some 16)),
 ao 18 (.fa 6 1),
 an (.store 1 18 17)]) (.seq (.reg [ao 19 (.load true 8 1),
 an (.store 8 2 19)]) (.ret))))
theorem qbly : AC.ok Try.prog (TIof Try.prog) 20 0 (kret [(.cell 2 true 8)] (decT [.b, (.i .u64), (.i .u64), (.i .i64), (.i .i64), .s, .s, (.i .i64)])) qxn := qm trivial
theorem qbo0 (Aa : Bool) (Ab Ac Ad Ae : Int) (Af Ag : List UInt8) (Ah : Int) : den 0 (kret [(.cell 2 true 8)] (decT [.b, (.i .u64), (.i .u64), (.i .i64), (.i .i64), .s, .s, (.i .i64)])) qxn (qh [(0, .agg (qd Aa Ab Ac Ad Ae Af Ag Ah))]) (qg []) (kend (kret [(.cell 2 true 8)] (decT [.b, (.i .u64), (.i .u64), (.i .i64), (.i .i64), .s, .s, (.i .i64)]))) = qqe Aa Ab Ac Ad Ae Af Ag Ah := by
  rw [q5n]; kernel_rfl
theorem qbo1 : cFn (TIof Try.prog) Try.f42 = some ⟨20, [(.cell 2 true 8)], scOf qxn⟩ := by kernel_rfl
def qbo2 (xs : List AV) : Option AV := qj ((qk xs) 0).cells (qqe)
def q3o {R : Type} : List AV → (AV → Option R) → Option R := entF qbh2 qbo2 (qll (.st [.b, (.i .u64), (.i .u64), (.i .i64), (.i .i64), .s, .s, (.i .i64)]))
theorem qbo3 {R : Type} : qc Try.prog 42 (q3o (R := R)) :=
  qba tabOk follows Try.func42 (by kernel_rfl) qbo1 hdeT qbly (qn (by kernel_rfl)) fun xs => qbo0 _ _ _ _ _ _ _ _
def qn9  (K : Ex → Env → Mem → Option (List AV)) := (fun z_a0 => K (.exit 0) (qh [(3, (.own 0 z_a0.length))]) (qg [(some (.arr true 8 z_a0))]))
def qbgf : Shp := ⟨[(0, .one (.l (.sl 8))), (3, .one (.own 0)), (4, .one (.l (.i .i64)))], [.arr true 8]⟩
def qt2 (v0 : List AV) (v4 : Int) (a0 : List AV) : Env := qh [(0, (.sl 8 v0)), (3, (.own 0 a0.length)), (4, (.int .i64 v4))]
def qt3 (v0 : List AV) (v4 : Int) (a0 : List AV) : Mem := qg [(some (.arr true 8 a0))]
def qi7  (v0 : List AV) (v4 : Int) (a0 : List AV) (next : Int → (List AV) → Option (List AV)) (kx0 : (List AV) → Option (List AV)) : Option (List AV) :=
  (bif ((decide (v4 < (v0.length : Int))) && (decide (v4 < (30 : Int)))) then (oB (ixB v0 v4) fun y1 => (bif fitC qa y1.cells then (oB (qqe (gB y1.cells 0) (gI y1.cells 1) (gI y1.cells 2) (gI y1.cells 3) (gI y1.cells 4) (gS y1.cells 5) (gS y1.cells 6) (gI y1.cells 7)) fun r2 => (bif hd a0 a0.length then (bif hd ([(.agg [(.bool (gB r2.cells 0)), (.int .u64 (gI r2.cells 1)), (.int .u64 (gI r2.cells 2)), (.int .i64 (gI r2.cells 3)), (.int .i64 (gI r2.cells 4)), (.str (gS r2.cells 5)), (.str (gS r2.cells 6)), (.int .i64 (gI r2.cells 7))])] : List AV) (([(.agg [(.bool (gB r2.cells 0)), (.int .u64 (gI r2.cells 1)), (.int .u64 (gI r2.cells 2)), (.int .i64 (gI r2.cells 3)), (.int .i64 (gI r2.cells 4)), (.str (gS r2.cells 5)), (.str (gS r2.cells 6)), (.int .i64 (gI r2.cells 7))])] : List AV).length) then (bif decide ((a0.length + ([(.agg [(.bool (gB r2.cells 0)), (.int .u64 (gI r2.cells 1)), (.int .u64 (gI r2.cells 2)), (.int .i64 (gI r2.cells 3)), (.int .i64 (gI r2.cells 4)), (.str (gS r2.cells 5)), (.str (gS r2.cells 6)), (.int .i64 (gI r2.cells 7))])] : List AV).length) * 80 ≤ 140737488355328) then (next (IntKind.i64.wrap (v4 + (1 : Int))) (a0 ++ ([(.agg [(.bool (gB r2.cells 0)), (.int .u64 (gI r2.cells 1)), (.int .u64 (gI r2.cells 2)), (.int .i64 (gI r2.cells 3)), (.int .i64 (gI r2.cells 4)), (.str (gS r2.cells 5)), (.str (gS r2.cells 6)), (.int .i64 (gI r2.cells 7))])] : List AV))) else none) else none) else none)) else none)) else (kx0 a0))
def qpy  (v0 : List AV) (kx0 : (List AV) → Option (List AV)) : Nat → Int → (List AV) → Option (List AV)
  | 0 => (fun _ _ => none)
  | n + 1 => (fun v4 a0 => qi7 v0 v4 a0 (qpy v0 kx0 n) kx0)
def qtf := hull (qpy)
theorem q3p : qtf = qpy := qi _
def qi8 : AC (List AV) :=
  .seq (.seq (.reg [ao 5 (.mv 4),
 ao 6 (.mv 0),
 ao 7 (.len false 6),
 ao 8 (.bin .lss 5 7),
 ao 9 (.mv 8),
 .grp 9 true [(pg 10 9 true (.mv 4)), (pg 11 9 true (.bin .lss 10 (.c (.int .i64 30))))] 12 11]) (.cond 12 (.skip) (.seq (.view [.sel [3] [0]]) (.exit 0)))) (.seq (.block 1 (.reg [ao 15 (.mv 3),
 ao 16 (.mv 0),
 ao 17 (.mv 4),
 ao 18 (.ia 8 16 17),
 .st (.etac 18 qa),
 ao 19 (.load true 8 18),
 .call (po 20 (.call 42 [19])) 42 q3o,
 ao 21 (.bsl 8 [20]),
 ao 22 (.app 8 80 15 21),
 ao 3 (.mv 22)])) (.seq (.reg [ao 13 (.mv 4),
 ao 14 (.bin .add 13 (.c (.int .i64 1))),
 ao 4 (.mv 14)]) (.view [.sel [0, 3, 4] [0]])))
theorem qbh3 : AC.ok Try.prog (TIof Try.prog) 24 0 (kret [.t 2] (decF true 8)) qi8 := qm (zA (qc.ok qbo3) trivial)
theorem qbgg (v0 : List AV) (v4 : Int) (a0 : List AV) (K : Ex → Env → Mem → Option (List AV)) : den 0 (kret [.t 2] (decF true 8)) qi8 (qt2 v0 v4 a0) (qt3 v0 v4 a0) K = qi7 v0 v4 a0 (fun z_v4 z_a0 => K .norm (qt2 v0 z_v4 z_a0) (qt3 v0 z_v4 z_a0)) (qn9 K) := by kernel_rfl
theorem qblz (v0 : List AV) (K : Ex → Env → Mem → Option (List AV)) : ∀ (n : Nat) (v4 : Int) (a0 : List AV), qep (den 0 (kret [.t 2] (decF true 8)) qi8) n (qt2 v0 v4 a0) (qt3 v0 v4 a0) K = qtf v0 (qn9 K) n v4 a0 := by
  rw [q3p]
  intro n
  induction n with
  | zero => intros; rfl
  | succ n ih =>
 intro v4 a0
 exact (qbgg v0 v4 a0 (itK (den 0 (kret [.t 2] (decF true 8)) qi8) n K)).trans (congrArg (fun q => qi7 v0 v4 a0 q (qn9 K)) (funext fun v4 => funext fun a0 => ih v4 a0))
def q5o := subE (R := (List AV)) qbgf fun t m K => qtf (gL [t 0] 0) (qn9 K) FU (gI [t 4] 0) (arL (m.s 0))
theorem qbl0 : qcb Try.prog (TIof Try.prog) 24 0 (kret [.t 2] (decF true 8)) (.loop (scOf qi8)) (q5o) :=
  qdt tabOk follows (qbh3) (qn (by kernel_rfl)) fun t m K => qblz _ K FU _ _
def qbo4 : Shp := ⟨[(0, .one (.l (.sl 8)))], []⟩
def q2e (v0 : List AV) : Option (List AV) :=
  (bif (hd ([] : List AV) (([] : List AV).length) && true) then (qtf v0 (fun a0q1 => (bif hd a0q1 a0q1.length then (some a0q1) else none)) FU (0 : Int) ([] : List AV)) else none)
def qt4 := hull q2e
theorem q9p : qt4 = q2e := qi _
def q2f : AC (List AV) :=
  .seq (.reg [ao 2 (.mv (.c .nils))]) (.seq (.reg [ao 3 (.mv (.c .nils))]) (.seq (.seq (.reg [ao 4 (.mv (.c (.int .i64 0)))]) (.block 0 (.seq (.view [.own 3 8, .sel [0, 3, 4] [0]]) (.sub (.loop (scOf qi8)) q5o)))) (.seq (.reg [ao 23 (.mv 3),
 ao 2 (.mv 23)]) (.ret))))
theorem qbri : AC.ok Try.prog (TIof Try.prog) 24 0 (kret [.t 2] (decF true 8)) q2f := qm (zA qbl0 trivial)
theorem qbun (v0 : List AV) : den 0 (kret [.t 2] (decF true 8)) q2f (qh [(0, (.sl 8 v0))]) (qg []) (kend (kret [.t 2] (decF true 8))) = qt4 v0 := by
  rw [q9p]; kernel_rfl
theorem qbuo : cFn (TIof Try.prog) Try.f10 = some ⟨24, [.t 2], scOf q2f⟩ := by kernel_rfl
def qbup (xs : List AV) : Option (List AV) := qt4 (gL [(qk xs) 0] 0)
def q7f {R : Type} : List AV → (AV → Option R) → Option R := entF qbo4 qbup (AV.fr true 8)
theorem qbuq {R : Type} : qc Try.prog 10 (q7f (R := R)) :=
  qba tabOk follows Try.func10 (by kernel_rfl) qbuo hdeF qbri (qn (by kernel_rfl)) fun xs => qbun _
def qcy : List LT := [.b, (.i .u64), (.i .u64)]
def qbj (x0 : Bool) (x1 x2 : Int) : List AV := [.bool x0, .int .u64 x1, .int .u64 x2]
def qbu {β : Type} (cs : List AV) (f : Bool → Int → Int → β) : β := f (gB cs 0) (gI cs 1) (gI cs 2)
def qbur : Shp := ⟨[(0, .st (lk qcy))], []⟩
def q7g (Aa : Bool) (Ab Ac : Int) : Option Bool :=
  (bif Aa then (some true) else (bif (Ab == (0 : Int)) then (some (decide (Ac ≤ (4294967295 : Int)))) else (some false)))
def qu4 := hull q7g
theorem qbf1 : qu4 = q7g := qi _
def q7h : AC Bool :=
  .seq (.reg [ao 1 (.box 0),
 ao 2 (.mv (.c (.bool false)))]) (.seq (.reg [ao 3 (.fa 0 1),
 ao 4 (.load false 1 3),
 ao 5 (.mv 4),
 ag 6 5 false (.fa 1 1),
 ag 7 5 false (.load false 1 6),
 ag 8 5 false (.bin .eql 7 (.c (.int .u64 0))),
 ag 9 5 false (.mv 8),
 ag 10 9 true (.fa 2 1),
 ag 11 9 true (.load false 1 10),
 ag 12 9 true (.bin .leq 11 (.c (.int .u64 4294967295))),
 ag 13 5 false (.pick 9 12 (.c (.bool false))),
 ao 14 (.pick 5 (.c (.bool true)) 13),
 ao 2 (.mv 14)]) (.ret))
theorem qbxr : AC.ok Try.prog (TIof Try.prog) 15 0 (kret [.t 2] decB) q7h := qm trivial
theorem qbzc (Aa : Bool) (Ab Ac : Int) : den 0 (kret [.t 2] decB) q7h (qh [(0, .agg (qbj Aa Ab Ac))]) (qg []) (kend (kret [.t 2] decB)) = qu4 Aa Ab Ac := by
  rw [qbf1]; kernel_rfl
theorem qbzd : cFn (TIof Try.prog) Try.f73 = some ⟨15, [.t 2], scOf q7h⟩ := by kernel_rfl
def qbze (xs : List AV) : Option Bool := qbu ((qk xs) 0).cells (qu4)
def q2g {R : Type} : List AV → (AV → Option R) → Option R := entF qbur qbze AV.bool
theorem qbh4 {R : Type} : qc Try.prog 73 (q2g (R := R)) :=
  qba tabOk follows Try.func73 (by kernel_rfl) qbzd hdeB qbxr (qn (by kernel_rfl)) fun xs => qbzc _ _ _
def qbl1 : Shp := ⟨[(0, .st (lk qcy))], []⟩
def qzg (Aa : Bool) (Ab Ac : Int) : Option Int :=
  (bif Aa then (some (128 : Int)) else (some (32 : Int)))
def qjv := hull qzg
theorem q7i : qjv = qzg := qi _
def qzh : AC Int :=
  .seq (.reg [ao 1 (.box 0),
 ao 2 (.mv (.c (.int .i64 0)))]) (.seq (.seq (.reg [ao 3 (.fa 0 1),
 ao 4 (.load false 1 3)]) (.cond 4 (.seq (.reg [ao 2 (.mv (.c (.int .i64 128)))]) (.ret)) (.skip))) (.seq (.reg [ao 2 (.mv (.c (.int .i64 32)))]) (.ret)))
theorem qbo5 : AC.ok Try.prog (TIof Try.prog) 5 0 (kret [.t 2] (decI .i64)) qzh := qm trivial
theorem qbrj (Aa : Bool) (Ab Ac : Int) : den 0 (kret [.t 2] (decI .i64)) qzh (qh [(0, .agg (qbj Aa Ab Ac))]) (qg []) (kend (kret [.t 2] (decI .i64))) = qjv Aa Ab Ac := by
  rw [q7i]; kernel_rfl
theorem qbrk : cFn (TIof Try.prog) Try.f76 = some ⟨5, [.t 2], scOf qzh⟩ := by kernel_rfl
def qbrl (xs : List AV) : Option Int := qbu ((qk xs) 0).cells (qjv)
def qml {R : Type} : List AV → (AV → Option R) → Option R := entF qbl1 qbrl (AV.int .i64)
theorem qtg {R : Type} : qc Try.prog 76 (qml (R := R)) :=
  qba tabOk follows Try.func76 (by kernel_rfl) qbrk hdeI qbo5 (qn (by kernel_rfl)) fun xs => qbrj _ _ _
def qxo (z : AV) : Option (Int × Int) := cond (qhy [(.one (.i .u64)), (.one (.i .u64))] z) (some (aI (gC (tpL z) 0), aI (gC (tpL z) 1))) none
def qbo6 (r : Int × Int) : AV := .tup [.int .u64 r.1, .int .u64 r.2]
def qbo7 : Shp := ⟨[(0, .one (.l .b)), (1, .one (.l (.i .i64)))], []⟩
def qu5 (v0 : Bool) (v1 : Int) : Option (Int × Int) :=
  (bif (!v0) then (bif decide ((IntKind.u64.wrap (IntKind.i64.wrap ((32 : Int) - v1))) < 0) then none else (some ((0 : Int), (IntKind.u64.wrap ((IntKind.u64.wrap ((1 : Int) * 2 ^ min (IntKind.u64.wrap (IntKind.i64.wrap ((32 : Int) - v1))).toNat IntKind.u64.bits)) - (1 : Int)))))) else (bif (decide (v1 ≥ (64 : Int))) then (bif decide ((IntKind.u64.wrap (IntKind.i64.wrap ((128 : Int) - v1))) < 0) then none else (some ((0 : Int), (IntKind.u64.wrap ((IntKind.u64.wrap ((1 : Int) * 2 ^ min (IntKind.u64.wrap (IntKind.i64.wrap ((128 : Int) - v1))).toNat IntKind.u64.bits)) - (1 : Int)))))) else (bif decide ((IntKind.u64.wrap (IntKind.i64.wrap ((64 : Int) - v1))) < 0) then none else (some ((IntKind.u64.wrap ((IntKind.u64.wrap ((1 : Int) * 2 ^ min (IntKind.u64.wrap (IntKind.i64.wrap ((64 : Int) - v1))).toNat IntKind.u64.bits)) - (1 : Int))), (18446744073709551615 : Int))))))
def qqf := hull qu5
theorem q9q : qqf = qu5 := qi _
def q2h : AC (Int × Int) :=
  .seq (.reg [ao 4 (.mv (.c (.int .u64 0))),
 ao 5 (.mv (.c (.int .u64 0)))]) (.seq (.seq (.reg [ao 6 (.mv 0),
 ao 7 (.un .not 6)]) (.cond 7 (.seq (.reg [ao 8 (.mv 1),
 ao 9 (.bin .sub (.c (.int .i64 32)) 8),
 ao 10 (.conv (.int .u64) 9),
 ao 11 (.bin .shl (.c (.int .u64 1)) 10),
 ao 12 (.bin .sub 11 (.c (.int .u64 1))),
 ao 4 (.mv (.c (.int .u64 0))),
 ao 5 (.mv 12)]) (.ret)) (.skip))) (.seq (.seq (.reg [ao 13 (.mv 1),
 ao 14 (.bin .geq 13 (.c (.int .i64 64)))]) (.cond 14 (.seq (.reg [ao 15 (.mv 1),
 ao 16 (.bin .sub (.c (.int .i64 128)) 15),
 ao 17 (.conv (.int .u64) 16),
 ao 18 (.bin .shl (.c (.int .u64 1)) 17),
 ao 19 (.bin .sub 18 (.c (.int .u64 1))),
 ao 4 (.mv (.c (.int .u64 0))),
 ao 5 (.mv 19)]) (.ret)) (.skip))) (.seq (.reg [ao 20 (.mv 1),
 ao 21 (.bin .sub (.c (.int .i64 64)) 20),
 ao 22 (.conv (.int .u64) 21),
 ao 23 (.bin .shl (.c (.int .u64 1)) 22),
 ao 24 (.bin .sub 23 (.c (.int .u64 1))),
 ao 4 (.mv 24),
 ao 5 (.mv (.c (.int .u64 18446744073709551615)))]) (.ret))))
theorem qbrm : AC.ok Try.prog (TIof Try.prog) 25 0 (kret [.t 4, .t 5] qxo) q2h := qm trivial
theorem qbus (v0 : Bool) (v1 : Int) : den 0 (kret [.t 4, .t 5] qxo) q2h (qh [(0, (.bool v0)), (1, (.int .i64 v1))]) (qg []) (kend (kret [.t 4, .t 5] qxo)) = qqf v0 v1 := by
  rw [q9q]; kernel_rfl
theorem qbut : cFn (TIof Try.prog) Try.f72 = some ⟨25, [.t 4, .t 5], scOf q2h⟩ := by kernel_rfl
def qbuu (xs : List AV) : Option (Int × Int) := qqf (gB [(qk xs) 0] 0) (gI [(qk xs) 1] 0)
def qxp {R : Type} : List AV → (AV → Option R) → Option R := entF qbo7 qbuu qbo6
theorem qbbp {R : Type} : qc Try.prog 72 (qxp (R := R)) :=
  qba tabOk follows Try.func72 (by kernel_rfl) qbut (fun z r h => by
 obtain ⟨h1, h2⟩ := qo h
 cases h2
 exact (qez h1).symm) qbrm (qn (by kernel_rfl)) fun xs => qbus _ _
def qf : List LT := [.b, (.i .u64), (.i .u64), (.i .i64)]
def qb (x0 : Bool) (x1 x2 x3 : Int) : List AV := [.bool x0, .int .u64 x1, .int .u64 x2, .int .i64 x3]
def qe {β : Type} (cs : List AV) (f : Bool → Int → Int → Int → β) : β := f (gB cs 0) (gI cs 1) (gI cs 2) (gI cs 3)
def q3q  (Ai : Bool) (Aj Ak Al : Int) (K : Ex → Env → Mem → Option Bool) := (fun z_v21 => K .norm (qh [(1, (.ptr 0 0)), (21, (.bool z_v21))]) (qg [(some (.box true (qb Ai Aj Ak Al)))]))
def qbgh : Shp := ⟨[(1, .one (.ptr 0 0))], [.box true (lk qf)]⟩
def qvp  (Ai : Bool) (Aj Ak Al : Int) (kn : Bool → Option Bool) : Option Bool :=
  (oB (qu4 Ai Aj Ak) fun r1 => (bif (!r1) then (kn true) else (bif (decide (Al < (0 : Int))) then (kn true) else (oB (qjv Ai Aj Ak) fun r2 => (kn (decide (Al > r2)))))))
def qth := hull (qvp)
theorem q3r : qth = qvp := qi _
def qpz : AC Bool :=
  .seq (.draw [] [ao 5 (.fa 0 1),
 ao 6 (.load true 3 5),
 .call (po 7 (.call 73 [6])) 73 q2g,
 ao 8 (.un .not 7),
 ao 9 (.mv 8),
 ag 10 9 false (.fa 3 1),
 ag 11 9 false (.load false 1 10),
 ag 12 9 false (.bin .lss 11 (.c (.int .i64 0))),
 ao 13 (.pick 9 (.c (.bool true)) 12),
 ao 14 (.mv 13),
 ag 15 14 false (.fa 3 1),
 ag 16 14 false (.load false 1 15),
 ag 17 14 false (.fa 0 1),
 ag 18 14 false (.load true 3 17),
 .call (pg 19 14 false (.call 76 [18])) 76 qml] [ag 20 14 false (.bin .gtr 16 19),
 ao 21 (.pick 14 (.c (.bool true)) 20)]) (.view [.sel [1, 21] [0]])
theorem qbh5 : AC.ok Try.prog (TIof Try.prog) 45 0 (kret [.t 2] decB) qpz := qm (zA (qc.ok qbh4) (zA (qc.ok qtg) (zA rfl trivial)))
theorem qbl2 (Ai : Bool) (Aj Ak Al : Int) (K : Ex → Env → Mem → Option Bool) : den 0 (kret [.t 2] decB) qpz (qh [(1, (.ptr 0 0))]) (qg [(some (.box true (qb Ai Aj Ak Al)))]) K = qth Ai Aj Ak Al (q3q Ai Aj Ak Al K) := by
  rw [q3r]; kernel_rfl
def q5p := subE (R := Bool) qbgh fun t m K => qe (bxC (m.s 0)) (qth) (q3q (gB (bxC (m.s 0)) 0) (gI (bxC (m.s 0)) 1) (gI (bxC (m.s 0)) 2) (gI (bxC (m.s 0)) 3) K)
theorem qbl3 : qcb Try.prog (TIof Try.prog) 45 0 (kret [.t 2] decB) (scOf qpz) (q5p) :=
  qfa tabOk follows (qbh5) (qn (by kernel_rfl)) fun t m K => qbl2 _ _ _ _ K
def qbo8 : Shp := ⟨[(0, .st (lk qf))], []⟩
def q2i (Aa : Bool) (Ab Ac Ad : Int) : Option Bool :=
  (qth Aa Ab Ac Ad (fun v21q1 => (bif v21q1 then (some false) else (oB (qqf Aa Ad) fun r2 => (some (((qb5 .and .u64 Ab r2.1) == (0 : Int)) && ((qb5 .and .u64 Ac r2.2) == (0 : Int))))))))
def qg3 := hull q2i
theorem q9r : qg3 = q2i := qi _
def q2j : AC Bool :=
  .seq (.reg [ao 1 (.box 0),
 ao 2 (.mv (.c (.bool false)))]) (.seq (.seq (.seq (.view [.sel [1] [0]]) (.sub (scOf qpz) q5p)) (.cond 21 (.seq (.reg [ao 2 (.mv (.c (.bool false)))]) (.ret)) (.skip))) (.seq (.reg [ao 23 (.fa 0 1),
 ao 24 (.fa 0 23),
 ao 25 (.load false 1 24),
 ao 26 (.fa 3 1),
 ao 27 (.load false 1 26),
 .call (po 28 (.call 72 [25, 27])) 72 qxp,
 ao 22 (.mv 28),
 ao 29 (.ext 22 0),
 ao 30 (.ext 22 1),
 ao 3 (.mv 29),
 ao 4 (.mv 30)]) (.seq (.reg [ao 31 (.fa 0 1),
 ao 32 (.fa 1 31),
 ao 33 (.load false 1 32),
 ao 34 (.mv 3),
 ao 35 (.bin .and 33 34),
 ao 36 (.bin .eql 35 (.c (.int .u64 0))),
 ao 37 (.mv 36),
 .grp 37 true [(pg 38 37 true (.fa 0 1)), (pg 39 37 true (.fa 2 38)), (pg 40 37 true (.load false 1 39)), (pg 41 37 true (.mv 4)), (pg 42 37 true (.bin .and 40 41)), (pg 43 37 true (.bin .eql 42 (.c (.int .u64 0))))] 44 43,
 ao 2 (.mv 44)]) (.ret))))
theorem qbrn : AC.ok Try.prog (TIof Try.prog) 45 0 (kret [.t 2] decB) q2j := qm (zA qbl3 (zA (qc.ok qbbp) trivial))
theorem qbuv (Aa : Bool) (Ab Ac Ad : Int) : den 0 (kret [.t 2] decB) q2j (qh [(0, .agg (qb Aa Ab Ac Ad))]) (qg []) (kend (kret [.t 2] decB)) = qg3 Aa Ab Ac Ad := by
  rw [q9r]; kernel_rfl
theorem qbuw : cFn (TIof Try.prog) Try.f71 = some ⟨45, [.t 2], scOf q2j⟩ := by kernel_rfl
def qbux (xs : List AV) : Option Bool := qe ((qk xs) 0).cells (qg3)
def qhb {R : Type} : List AV → (AV → Option R) → Option R := entF qbo8 qbux AV.bool
theorem qni {R : Type} : qc Try.prog 71 (qhb (R := R)) :=
  qba tabOk follows Try.func71 (by kernel_rfl) qbuw hdeB qbrn (qn (by kernel_rfl)) fun xs => qbuv _ _ _ _
def qbo9 : Shp := ⟨[(0, .st (lk qf))], []⟩
def q2k (Aa : Bool) (Ab Ac Ad : Int) : Option Int :=
  (bif Aa then (some (128 : Int)) else (some (32 : Int)))
def qt5 := hull q2k
theorem q9s : qt5 = q2k := qi _
def q2l : AC Int :=
  .seq (.reg [ao 1 (.box 0),
 ao 2 (.mv (.c (.int .i64 0)))]) (.seq (.seq (.reg [ao 3 (.fa 0 1),
 ao 4 (.fa 0 3),
 ao 5 (.load false 1 4)]) (.cond 5 (.seq (.reg [ao 2 (.mv (.c (.int .i64 128)))]) (.ret)) (.skip))) (.seq (.reg [ao 2 (.mv (.c (.int .i64 32)))]) (.ret)))
theorem qbro : AC.ok Try.prog (TIof Try.prog) 6 0 (kret [.t 2] (decI .i64)) q2l := qm trivial
theorem qbuy (Aa : Bool) (Ab Ac Ad : Int) : den 0 (kret [.t 2] (decI .i64)) q2l (qh [(0, .agg (qb Aa Ab Ac Ad))]) (qg []) (kend (kret [.t 2] (decI .i64))) = qt5 Aa Ab Ac Ad := by
  rw [q9s]; kernel_rfl
theorem qbuz : cFn (TIof Try.prog) Try.f77 = some ⟨6, [.t 2], scOf q2l⟩ := by kernel_rfl
def qbu0 (xs : List AV) : Option Int := qe ((qk xs) 0).cells (qt5)
def q7j {R : Type} : List AV → (AV → Option R) → Option R := entF qbo9 qbu0 (AV.int .i64)
theorem qbu1 {R : Type} : qc Try.prog 77 (q7j (R := R)) :=
  qba tabOk follows Try.func77 (by kernel_rfl) qbuz hdeI qbro (qn (by kernel_rfl)) fun xs => qbuy _ _ _ _
def qk6  (K : Ex → Env → Mem → Option Bool) := (fun (_ : Unit) => K (.exit 0) (qh []) (qg []))
def qbao : Shp := ⟨[(0, .one (.l .s)), (19, .one (.l (.i .i64))), (20, .one (.l (.i .i64)))], []⟩
def qqg (v0 : List UInt8) (v19 v20 : Int) : Env := qh [(0, (.str v0)), (19, (.int .i64 v19)), (20, (.int .i64 v20))]
def qqh (v0 : List UInt8) (v19 v20 : Int) : Mem := qg []
def qgb  (v0 : List UInt8) (v19 v20 : Int) (next : Int → Option Bool) (kx0 : Unit → Option Bool) : Option Bool :=
  (bif (decide (v20 < v19)) then (oB (ixB v0 v20) fun c1 => (bif (decide ((c1.toNat : Int) < (33 : Int))) then (some false) else (oB (ixB v0 v20) fun c2 => (bif (decide ((c2.toNat : Int) > (126 : Int))) then (some false) else (next (IntKind.i64.wrap (v20 + (1 : Int)))))))) else (kx0 ()))
def qmv  (v0 : List UInt8) (v19 : Int) (kx0 : Unit → Option Bool) : Nat → Int → Option Bool
  | 0 => (fun _ => none)
  | n + 1 => (fun v20 => qgb v0 v19 v20 (qmv v0 v19 kx0 n) kx0)
def qlm := hull (qmv)
theorem qyk : qlm = qmv := qi _
def qgc : AC Bool :=
  .seq (.reg [ao 21 (.bin .lss 20 19)]) (.seq (.cond 21 (.skip) (.seq (.view [.sel [] []]) (.exit 0))) (.seq (.block 1 (.seq (.reg [ao 22 (.mv 20),
 ao 7 (.mv 22)]) (.seq (.reg [ao 23 (.mv 0),
 ao 24 (.mv 7),
 ao 25 (.ixs 23 24),
 ao 26 (.bin .lss 25 (.c (.int .u8 33))),
 ao 27 (.mv 26),
 ag 28 27 false (.mv 0),
 ag 29 27 false (.mv 7),
 ag 30 27 false (.ixs 28 29),
 ag 31 27 false (.bin .gtr 30 (.c (.int .u8 126))),
 ao 32 (.pick 27 (.c (.bool true)) 31)]) (.cond 32 (.seq (.reg [ao 6 (.mv (.c (.bool false)))]) (.ret)) (.skip))))) (.seq (.reg [ao 33 (.bin .add 20 (.c (.int .i64 1))),
 ao 20 (.mv 33)]) (.view [.sel [0, 19, 20] []]))))
theorem qbbq : AC.ok Try.prog (TIof Try.prog) 34 0 (kret [.t 6] decB) qgc := qm trivial
theorem qbap (v0 : List UInt8) (v19 v20 : Int) (K : Ex → Env → Mem → Option Bool) : den 0 (kret [.t 6] decB) qgc (qqg v0 v19 v20) (qqh v0 v19 v20) K = qgb v0 v19 v20 (fun z_v20 => K .norm (qqg v0 v19 z_v20) (qqh v0 v19 z_v20)) (qk6 K) := by kernel_rfl
theorem qbdl (v0 : List UInt8) (v19 : Int) (K : Ex → Env → Mem → Option Bool) : ∀ (n : Nat) (v20 : Int), qep (den 0 (kret [.t 6] decB) qgc) n (qqg v0 v19 v20) (qqh v0 v19 v20) K = qlm v0 v19 (qk6 K) n v20 := by
  rw [qyk]
  intro n
  induction n with
  | zero => intros; rfl
  | succ n ih =>
 intro v20
 exact (qbap v0 v19 v20 (itK (den 0 (kret [.t 6] decB) qgc) n K)).trans (congrArg (fun q => qgb v0 v19 v20 q (qk6 K)) (funext fun v20 => ih v20))
def qzi := subE (R := Bool) qbao fun t m K => qlm (gS [t 0] 0) (gI [t 19] 0) (qk6 K) FU (gI [t 20] 0)
theorem qbdm : qcb Try.prog (TIof Try.prog) 34 0 (kret [.t 6] decB) (.loop (scOf qgc)) (qzi) :=
  qdt tabOk follows (qbbq) (qn (by kernel_rfl)) fun t m K => qbdl _ _ K FU _
def qbh6 : Shp := ⟨[(0, .one (.l .s)), (1, .one (.l (.i .i64))), (2, .one (.l (.i .i64)))], []⟩
def qxq (v0 : List UInt8) (v1 v2 : Int) : Option Bool :=
  (bif ((decide ((v0.length : Int) < v1)) || (decide ((v0.length : Int) > v2))) then (some false) else (qlm v0 (v0.length : Int) (fun (_ : Unit) => (some true)) FU (0 : Int)))
def qnj := hull qxq
theorem q5q : qnj = qxq := qi _
def qxr : AC Bool :=
  .seq (.reg [ao 6 (.mv (.c (.bool false)))]) (.seq (.seq (.reg [ao 8 (.mv 0),
 ao 9 (.len true 8),
 ao 10 (.mv 1),
 ao 11 (.bin .lss 9 10),
 ao 12 (.mv 11),
 .grp 12 false [(pg 13 12 false (.mv 0)), (pg 14 12 false (.len true 13)), (pg 15 12 false (.mv 2)), (pg 16 12 false (.bin .gtr 14 15))] 17 16]) (.cond 17 (.seq (.reg [ao 6 (.mv (.c (.bool false)))]) (.ret)) (.skip))) (.seq (.seq (.reg [ao 18 (.mv 0),
 ao 19 (.len true 18),
 ao 20 (.mv (.c (.int .i64 0)))]) (.block 0 (.seq (.view [.sel [0, 19, 20] []]) (.sub (.loop (scOf qgc)) qzi)))) (.seq (.reg [ao 6 (.mv (.c (.bool true)))]) (.ret))))
theorem qbl4 : AC.ok Try.prog (TIof Try.prog) 34 0 (kret [.t 6] decB) qxr := qm (zA qbdm trivial)
theorem qbpa (v0 : List UInt8) (v1 v2 : Int) : den 0 (kret [.t 6] decB) qxr (qh [(0, (.str v0)), (1, (.int .i64 v1)), (2, (.int .i64 v2))]) (qg []) (kend (kret [.t 6] decB)) = qnj v0 v1 v2 := by
  rw [q5q]; kernel_rfl
theorem qbpb : cFn (TIof Try.prog) Try.f78 = some ⟨34, [.t 6], scOf qxr⟩ := by kernel_rfl
def qbpc (xs : List AV) : Option Bool := qnj (gS [(qk xs) 0] 0) (gI [(qk xs) 1] 0) (gI [(qk xs) 2] 0)
def qt6 {R : Type} : List AV → (AV → Option R) → Option R := entF qbh6 qbpc AV.bool
theorem q7k {R : Type} : qc Try.prog 78 (qt6 (R := R)) :=
  qba tabOk follows Try.func78 (by kernel_rfl) qbpb hdeB qbl4 (qn (by kernel_rfl)) fun xs => qbpa _ _ _
def q1k  (Ai : Bool) (Aj Ak Al Am : Int) (An Ao : List UInt8) (Ap : Int) (K : Ex → Env → Mem → Option Int) := (fun z_v28 => K .norm (qh [(1, (.ptr 0 0)), (28, (.bool z_v28))]) (qg [(some (.box true (qd Ai Aj Ak Al Am An Ao Ap)))]))
def qbdn : Shp := ⟨[(1, .one (.ptr 0 0))], [.box true (lk qa)]⟩
def qt7  (Ai : Bool) (Aj Ak Al Am : Int) (An Ao : List UInt8) (Ap : Int) (kn : Bool → Option Int) : Option Int :=
  (bif (decide (Am < (1 : Int))) then (kn true) else (bif (decide (Am > (3 : Int))) then (kn true) else (bif (Am == (3 : Int)) then (oB (qt5 Ai Aj Ak Al) fun r1 => (kn (Al != r1))) else (kn false))))
def qq9 := hull (qt7)
theorem q1l : qq9 = qt7 := qi _
def qoq : AC Int :=
  .seq (.draw [] [ao 7 (.fa 4 1),
 ao 8 (.load false 1 7),
 ao 9 (.bin .lss 8 (.c (.int .i64 1))),
 ao 10 (.mv 9),
 ag 11 10 false (.fa 4 1),
 ag 12 10 false (.load false 1 11),
 ag 13 10 false (.bin .gtr 12 (.c (.int .i64 3))),
 ao 14 (.pick 10 (.c (.bool true)) 13),
 ao 15 (.mv 14),
 ag 16 15 false (.fa 4 1),
 ag 17 15 false (.load false 1 16),
 ag 18 15 false (.bin .eql 17 (.c (.int .i64 3))),
 ag 19 15 false (.mv 18),
 ag 20 19 true (.fa 0 1),
 ag 21 19 true (.fa 3 20),
 ag 22 19 true (.load false 1 21),
 ag 23 19 true (.fa 0 1),
 ag 24 19 true (.load true 4 23),
 .call (pg 25 19 true (.call 77 [24])) 77 q7j] [ag 26 19 true (.bin .neq 22 25),
 ag 27 15 false (.pick 19 26 (.c (.bool false))),
 ao 28 (.pick 15 (.c (.bool true)) 27)]) (.view [.sel [1, 28] [0]])
theorem qbgi : AC.ok Try.prog (TIof Try.prog) 49 0 (kret [.t 2] (decI .i64)) qoq := qm (zA (qc.ok qbu1) (zA rfl trivial))
theorem qbh7 (Ai : Bool) (Aj Ak Al Am : Int) (An Ao : List UInt8) (Ap : Int) (K : Ex → Env → Mem → Option Int) : den 0 (kret [.t 2] (decI .i64)) qoq (qh [(1, (.ptr 0 0))]) (qg [(some (.box true (qd Ai Aj Ak Al Am An Ao Ap)))]) K = qq9 Ai Aj Ak Al Am An Ao Ap (q1k Ai Aj Ak Al Am An Ao Ap K) := by
  rw [q1l]; kernel_rfl
def q3s := subE (R := Int) qbdn fun t m K => qj (bxC (m.s 0)) (qq9) (q1k (gB (bxC (m.s 0)) 0) (gI (bxC (m.s 0)) 1) (gI (bxC (m.s 0)) 2) (gI (bxC (m.s 0)) 3) (gI (bxC (m.s 0)) 4) (gS (bxC (m.s 0)) 5) (gS (bxC (m.s 0)) 6) (gI (bxC (m.s 0)) 7) K)
theorem qbh8 : qcb Try.prog (TIof Try.prog) 49 0 (kret [.t 2] (decI .i64)) (scOf qoq) (q3s) :=
  qfa tabOk follows (qbgi) (qn (by kernel_rfl)) fun t m K => qbh7 _ _ _ _ _ _ _ _ K
def qbpd : Shp := ⟨[(0, .st (lk qa))], []⟩
def q2m (Aa : Bool) (Ab Ac Ad Ae : Int) (Af Ag : List UInt8) (Ah : Int) : Option Int :=
  (oB (qg3 Aa Ab Ac Ad) fun r1 => (bif (!r1) then (some (3 : Int)) else (qq9 Aa Ab Ac Ad Ae Af Ag Ah (fun v28q2 => (bif v28q2 then (some (1 : Int)) else (oB (qnj Af (1 : Int) (63 : Int)) fun r3 => (bif (!r3) then (some (1 : Int)) else (oB (qnj Ag (0 : Int) (32 : Int)) fun r4 => (bif (((!r4) || (decide (Ah < (0 : Int)))) || (decide (Ah > (4294967295 : Int)))) then (some (1 : Int)) else (some (0 : Int)))))))))))
def qnq := hull q2m
theorem q9t : qnq = q2m := qi _
def q2n : AC Int :=
  .seq (.reg [ao 1 (.box 0),
 ao 2 (.mv (.c (.int .i64 0)))]) (.seq (.seq (.reg [ao 3 (.fa 0 1),
 ao 4 (.load true 4 3),
 .call (po 5 (.call 71 [4])) 71 qhb,
 ao 6 (.un .not 5)]) (.cond 6 (.seq (.reg [ao 2 (.mv (.c (.int .i64 3)))]) (.ret)) (.skip))) (.seq (.seq (.seq (.view [.sel [1] [0]]) (.sub (scOf qoq) q3s)) (.cond 28 (.seq (.reg [ao 2 (.mv (.c (.int .i64 1)))]) (.ret)) (.skip))) (.seq (.seq (.reg [ao 29 (.fa 5 1),
 ao 30 (.load false 1 29),
 .call (po 31 (.call 78 [30, (.c (.int .i64 1)), (.c (.int .i64 63))])) 78 qt6,
 ao 32 (.un .not 31),
 ao 33 (.mv 32),
 ag 34 33 false (.fa 6 1),
 ag 35 33 false (.load false 1 34),
 .call (pg 36 33 false (.call 78 [35, (.c (.int .i64 0)), (.c (.int .i64 32))])) 78 qt6,
 ag 37 33 false (.un .not 36),
 ao 38 (.pick 33 (.c (.bool true)) 37),
 ao 39 (.mv 38),
 .grp 39 false [(pg 40 39 false (.fa 7 1)), (pg 41 39 false (.load false 1 40)), (pg 42 39 false (.bin .lss 41 (.c (.int .i64 0))))] 43 42,
 ao 44 (.mv 43),
 .grp 44 false [(pg 45 44 false (.fa 7 1)), (pg 46 44 false (.load false 1 45)), (pg 47 44 false (.bin .gtr 46 (.c (.int .i64 4294967295))))] 48 47]) (.cond 48 (.seq (.reg [ao 2 (.mv (.c (.int .i64 1)))]) (.ret)) (.skip))) (.seq (.reg [ao 2 (.mv (.c (.int .i64 0)))]) (.ret)))))
theorem qbrp : AC.ok Try.prog (TIof Try.prog) 49 0 (kret [.t 2] (decI .i64)) q2n := qm (zA (qc.ok qni) (zA qbh8 (zA (qc.ok q7k) (zA (qc.ok q7k) trivial))))
theorem qbu2 (Aa : Bool) (Ab Ac Ad Ae : Int) (Af Ag : List UInt8) (Ah : Int) : den 0 (kret [.t 2] (decI .i64)) q2n (qh [(0, .agg (qd Aa Ab Ac Ad Ae Af Ag Ah))]) (qg []) (kend (kret [.t 2] (decI .i64))) = qnq Aa Ab Ac Ad Ae Af Ag Ah := by
  rw [q9t]; kernel_rfl
theorem qbu3 : cFn (TIof Try.prog) Try.f43 = some ⟨49, [.t 2], scOf q2n⟩ := by kernel_rfl
def qbu4 (xs : List AV) : Option Int := qj ((qk xs) 0).cells (qnq)
def qxs {R : Type} : List AV → (AV → Option R) → Option R := entF qbpd qbu4 (AV.int .i64)
theorem qbbr {R : Type} : qc Try.prog 43 (qxs (R := R)) :=
  qba tabOk follows Try.func43 (by kernel_rfl) qbu3 hdeI qbrp (qn (by kernel_rfl)) fun xs => qbu2 _ _ _ _ _ _ _ _
def qbrq : Shp := ⟨[(0, .one (.l (.i .u64))), (1, .one (.l (.i .u64)))], []⟩
def q42 (v0 v1 : Int) : Option Int :=
  (bif (decide (v0 < v1)) then (some (-1 : Int)) else (bif (decide (v0 > v1)) then (some (1 : Int)) else (some (0 : Int))))
def qwo := hull q42
theorem qbbs : qwo = q42 := qi _
def q43 : AC Int :=
  .seq (.reg [ao 4 (.mv (.c (.int .i64 0)))]) (.seq (.block 0 (.seq (.reg [ao 6 (.mv 0),
 ao 7 (.mv 1),
 ao 8 (.bin .lss 6 7),
 ao 5 (.mv 8)]) (.cond 5 (.seq (.reg [ao 4 (.mv (.c (.int .i64 (-1))))]) (.ret)) (.seq (.reg [ao 10 (.mv 0),
 ao 11 (.mv 1),
 ao 12 (.bin .gtr 10 11),
 ao 9 (.mv 12)]) (.cond 9 (.seq (.reg [ao 4 (.mv (.c (.int .i64 1)))]) (.ret)) (.skip)))))) (.seq (.reg [ao 4 (.mv (.c (.int .i64 0)))]) (.ret)))
theorem qbu5 : AC.ok Try.prog (TIof Try.prog) 13 0 (kret [.t 4] (decI .i64)) q43 := qm trivial
theorem qbxs (v0 v1 : Int) : den 0 (kret [.t 4] (decI .i64)) q43 (qh [(0, (.int .u64 v0)), (1, (.int .u64 v1))]) (qg []) (kend (kret [.t 4] (decI .i64))) = qwo v0 v1 := by
  rw [qbbs]; kernel_rfl
theorem qbxt : cFn (TIof Try.prog) Try.f101 = some ⟨13, [.t 4], scOf q43⟩ := by kernel_rfl
def qbxu (xs : List AV) : Option Int := qwo (gI [(qk xs) 0] 0) (gI [(qk xs) 1] 0)
def qzj {R : Type} : List AV → (AV → Option R) → Option R := entF qbrq qbxu (AV.int .i64)
theorem qbf2 {R : Type} : qc Try.prog 101 (qzj (R := R)) :=
  qba tabOk follows Try.func101 (by kernel_rfl) qbxt hdeI qbu5 (qn (by kernel_rfl)) fun xs => qbxs _ _
def qbpe : Shp := ⟨[(0, .st (lk qcy)), (1, .st (lk qcy))], []⟩
def q2o (Aa : Bool) (Ab Ac : Int) (Aq : Bool) (Ar As : Int) : Option Int :=
  (bif ((!((Aa == Aq) && true)) && Aq) then (some (-1 : Int)) else (bif (!((Aa == Aq) && true)) then (some (1 : Int)) else (bif (Ab != Ar) then (oB (qwo Ab Ar) fun r1 => (some r1)) else (oB (qwo Ac As) fun r2 => (some r2)))))
def qt8 := hull q2o
theorem q9u : qt8 = q2o := qi _
def q2p : AC Int :=
  .seq (.reg [ao 2 (.box 0),
 ao 3 (.box 1),
 ao 4 (.mv (.c (.int .i64 0)))]) (.seq (.block 0 (.seq (.reg [ao 6 (.fa 0 2),
 ao 7 (.load false 1 6),
 ao 8 (.fa 0 3),
 ao 9 (.load false 1 8),
 ao 10 (.eq true false [.b] 7 9),
 ao 11 (.mv 10),
 .grp 11 true [(pg 12 11 true (.fa 0 3)), (pg 13 11 true (.load false 1 12))] 14 13,
 ao 5 (.mv 14)]) (.cond 5 (.seq (.reg [ao 4 (.mv (.c (.int .i64 (-1))))]) (.ret)) (.seq (.reg [ao 16 (.fa 0 2),
 ao 17 (.load false 1 16),
 ao 18 (.fa 0 3),
 ao 19 (.load false 1 18),
 ao 20 (.eq true false [.b] 17 19),
 ao 15 (.mv 20)]) (.cond 15 (.seq (.reg [ao 4 (.mv (.c (.int .i64 1)))]) (.ret)) (.seq (.reg [ao 22 (.fa 1 2),
 ao 23 (.load false 1 22),
 ao 24 (.fa 1 3),
 ao 25 (.load false 1 24),
 ao 26 (.bin .neq 23 25),
 ao 21 (.mv 26)]) (.cond 21 (.seq (.reg [ao 27 (.fa 1 2),
 ao 28 (.load false 1 27),
 ao 29 (.fa 1 3),
 ao 30 (.load false 1 29),
 .call (po 31 (.call 101 [28, 30])) 101 qzj,
 ao 4 (.mv 31)]) (.ret)) (.skip)))))))) (.seq (.reg [ao 32 (.fa 2 2),
 ao 33 (.load false 1 32),
 ao 34 (.fa 2 3),
 ao 35 (.load false 1 34),
 .call (po 36 (.call 101 [33, 35])) 101 qzj,
 ao 4 (.mv 36)]) (.ret)))
theorem qbrr : AC.ok Try.prog (TIof Try.prog) 37 0 (kret [.t 4] (decI .i64)) q2p := qm (zA (qc.ok qbf2) (zA (qc.ok qbf2) trivial))
theorem qbu6 (Aa : Bool) (Ab Ac : Int) (Aq : Bool) (Ar As : Int) : den 0 (kret [.t 4] (decI .i64)) q2p (qh [(0, .agg (qbj Aa Ab Ac)), (1, .agg (qbj Aq Ar As))]) (qg []) (kend (kret [.t 4] (decI .i64))) = qt8 Aa Ab Ac Aq Ar As := by
  rw [q9u]; kernel_rfl
theorem qbu7 : cFn (TIof Try.prog) Try.f75 = some ⟨37, [.t 4], scOf q2p⟩ := by kernel_rfl
def qbu8 (xs : List AV) : Option Int := qbu ((qk xs) 1).cells (qbu ((qk xs) 0).cells (qt8))
def q7l {R : Type} : List AV → (AV → Option R) → Option R := entF qbpe qbu8 (AV.int .i64)
theorem qbu9 {R : Type} : qc Try.prog 75 (q7l (R := R)) :=
  qba tabOk follows Try.func75 (by kernel_rfl) qbu7 hdeI qbrr (qn (by kernel_rfl)) fun xs => qbu6 _ _ _ _ _ _
def qbh9 : Shp := ⟨[(0, .st (lk qf)), (1, .st (lk qf))], []⟩
def qxt (Aa : Bool) (Ab Ac Ad : Int) (Aq : Bool) (Ar As At : Int) : Option Int :=
  (oB (qt8 Aa Ab Ac Aq Ar As) fun r1 => (bif (r1 != (0 : Int)) then (some r1) else (bif (decide (Ad < At)) then (some (-1 : Int)) else (bif (decide (Ad > At)) then (some (1 : Int)) else (some (0 : Int))))))
def qnk := hull qxt
theorem q5r : qnk = qxt := qi _
def qxu : AC Int :=
  .seq (.reg [ao 2 (.box 0),
 ao 3 (.box 1),
 ao 4 (.mv (.c (.int .i64 0)))]) (.seq (.seq (.reg [ao 6 (.fa 0 2),
 ao 7 (.load true 3 6),
 ao 8 (.fa 0 3),
 ao 9 (.load true 3 8),
 .call (po 10 (.call 75 [7, 9])) 75 q7l,
 ao 5 (.mv 10)]) (.seq (.reg [ao 11 (.mv 5),
 ao 12 (.bin .neq 11 (.c (.int .i64 0)))]) (.cond 12 (.seq (.reg [ao 13 (.mv 5),
 ao 4 (.mv 13)]) (.ret)) (.skip)))) (.seq (.block 0 (.seq (.reg [ao 15 (.fa 3 2),
 ao 16 (.load false 1 15),
 ao 17 (.fa 3 3),
 ao 18 (.load false 1 17),
 ao 19 (.bin .lss 16 18),
 ao 14 (.mv 19)]) (.cond 14 (.seq (.reg [ao 4 (.mv (.c (.int .i64 (-1))))]) (.ret)) (.seq (.reg [ao 21 (.fa 3 2),
 ao 22 (.load false 1 21),
 ao 23 (.fa 3 3),
 ao 24 (.load false 1 23),
 ao 25 (.bin .gtr 22 24),
 ao 20 (.mv 25)]) (.cond 20 (.seq (.reg [ao 4 (.mv (.c (.int .i64 1)))]) (.ret)) (.skip)))))) (.seq (.reg [ao 4 (.mv (.c (.int .i64 0)))]) (.ret))))
theorem qbl5 : AC.ok Try.prog (TIof Try.prog) 26 0 (kret [.t 4] (decI .i64)) qxu := qm (zA (qc.ok qbu9) trivial)
theorem qbpf (Aa : Bool) (Ab Ac Ad : Int) (Aq : Bool) (Ar As At : Int) : den 0 (kret [.t 4] (decI .i64)) qxu (qh [(0, .agg (qb Aa Ab Ac Ad)), (1, .agg (qb Aq Ar As At))]) (qg []) (kend (kret [.t 4] (decI .i64))) = qnk Aa Ab Ac Ad Aq Ar As At := by
  rw [q5r]; kernel_rfl
theorem qbpg : cFn (TIof Try.prog) Try.f40 = some ⟨26, [.t 4], scOf qxu⟩ := by kernel_rfl
def qbph (xs : List AV) : Option Int := qe ((qk xs) 1).cells (qe ((qk xs) 0).cells (qnk))
def qt9 {R : Type} : List AV → (AV → Option R) → Option R := entF qbh9 qbph (AV.int .i64)
theorem q7m {R : Type} : qc Try.prog 40 (qt9 (R := R)) :=
  qba tabOk follows Try.func40 (by kernel_rfl) qbpg hdeI qbl5 (qn (by kernel_rfl)) fun xs => qbpf _ _ _ _ _ _ _ _
def qom (z : AV) : Option (AV × Bool) := cond (qhy [(.st [.b, (.i .u64), (.i .u64), (.i .i64)]), (.one .b)] z) (some ((gC (tpL z) 0), aB (gC (tpL z) 1))) none
def qbxv (r : AV × Bool) : AV := .tup [qll (.st [.b, (.i .u64), (.i .u64), (.i .i64)]) r.1, .bool r.2]
def q9v  (v1 : Int) (Ai : Bool) (Aj Ak : Int) (Au : Bool) (Av Aw Ax : Int) (K : Ex → Env → Mem → Option (AV × Bool)) := (fun z_v20 => K .norm (qh [(1, (.int .i64 v1)), (2, (.ptr 0 0)), (4, (.ptr 1 0)), (20, (.bool z_v20))]) (qg [(some (.box true (qbj Ai Aj Ak))), (some (.box true (qb Au Av Aw Ax)))]))
def qbpi : Shp := ⟨[(1, .one (.l (.i .i64))), (2, .one (.ptr 0 0)), (4, .one (.ptr 1 0))], [.box true (lk qcy), .box true (lk qf)]⟩
def q2q  (v1 : Int) (Ai : Bool) (Aj Ak : Int) (Au : Bool) (Av Aw Ax : Int) (kn : Bool → Option (AV × Bool)) : Option (AV × Bool) :=
  (oB (qu4 Ai Aj Ak) fun r1 => (bif ((!r1) || (decide (v1 < (0 : Int)))) then (kn true) else (oB (qjv Ai Aj Ak) fun r2 => (kn (decide (v1 > r2))))))
def qzk := hull (q2q)
theorem q9w : qzk = q2q := qi _
def qu6 : AC (AV × Bool) :=
  .seq (.reg [ao 8 (.load true 3 2),
 .call (po 9 (.call 73 [8])) 73 q2g,
 ao 10 (.un .not 9),
 ao 11 (.mv 10),
 .grp 11 false [(pg 12 11 false (.mv 1)), (pg 13 11 false (.bin .lss 12 (.c (.int .i64 0))))] 14 13,
 ao 15 (.mv 14),
 ag 16 15 false (.mv 1),
 ag 17 15 false (.load true 3 2),
 .call (pg 18 15 false (.call 76 [17])) 76 qml,
 ag 19 15 false (.bin .gtr 16 18),
 ao 20 (.pick 15 (.c (.bool true)) 19)]) (.view [.sel [1, 2, 4, 20] [0, 1]])
theorem qbrs : AC.ok Try.prog (TIof Try.prog) 42 0 (kret [(.cell 4 true 4), .t 5] qom) qu6 := qm (zA (qc.ok qbh4) (zA (qc.ok qtg) trivial))
theorem qbva (v1 : Int) (Ai : Bool) (Aj Ak : Int) (Au : Bool) (Av Aw Ax : Int) (K : Ex → Env → Mem → Option (AV × Bool)) : den 0 (kret [(.cell 4 true 4), .t 5] qom) qu6 (qh [(1, (.int .i64 v1)), (2, (.ptr 0 0)), (4, (.ptr 1 0))]) (qg [(some (.box true (qbj Ai Aj Ak))), (some (.box true (qb Au Av Aw Ax)))]) K = qzk v1 Ai Aj Ak Au Av Aw Ax (q9v v1 Ai Aj Ak Au Av Aw Ax K) := by
  rw [q9w]; kernel_rfl
def qbbt := subE (R := AV × Bool) qbpi fun t m K => qe (bxC (m.s 1)) (qbu (bxC (m.s 0)) (qzk (gI [t 1] 0))) (q9v (gI [t 1] 0) (gB (bxC (m.s 0)) 0) (gI (bxC (m.s 0)) 1) (gI (bxC (m.s 0)) 2) (gB (bxC (m.s 1)) 0) (gI (bxC (m.s 1)) 1) (gI (bxC (m.s 1)) 2) (gI (bxC (m.s 1)) 3) K)
theorem qbvb : qcb Try.prog (TIof Try.prog) 42 0 (kret [(.cell 4 true 4), .t 5] qom) (scOf qu6) (qbbt) :=
  qfa tabOk follows (qbrs) (qn (by kernel_rfl)) fun t m K => qbva _ _ _ _ _ _ _ _ K
def qbxw : Shp := ⟨[(0, .st (lk qcy)), (1, .one (.l (.i .i64)))], []⟩
def qbaq (Aa : Bool) (Ab Ac v1 : Int) : Option (AV × Bool) :=
  (qzk v1 Aa Ab Ac false (0 : Int) (0 : Int) (0 : Int) (fun v20q1 => (bif v20q1 then (some ((.agg [(.bool false), (.int .u64 (0 : Int)), (.int .u64 (0 : Int)), (.int .i64 (0 : Int))]), false)) else (oB (qqf Aa v1) fun r2 => (some ((.agg [(.bool Aa), (.int .u64 (qb5 .andNot .u64 Ab r2.1)), (.int .u64 (qb5 .andNot .u64 Ac r2.2)), (.int .i64 v1)]), true))))))
def q3t := hull qbaq
theorem qbia : q3t = qbaq := qi _
def qbar : AC (AV × Bool) :=
  .seq (.reg [ao 2 (.box 0),
 ao 4 (.alloc [(.bool false), (.int .u64 0), (.int .u64 0), (.int .i64 0)]),
 ao 5 (.mv (.c (.bool false)))]) (.seq (.seq (.seq (.view [.sel [1, 2, 4] [0, 1]]) (.sub (scOf qu6) qbbt)) (.cond 20 (.seq (.reg [ao 21 (.build [(.bool false), (.int .u64 0), (.int .u64 0), (.int .i64 0)] []),
 an (.store 4 4 21),
 ao 5 (.mv (.c (.bool false)))]) (.ret)) (.skip))) (.seq (.reg [ao 23 (.fa 0 2),
 ao 24 (.load false 1 23),
 ao 25 (.mv 1),
 .call (po 26 (.call 72 [24, 25])) 72 qxp,
 ao 22 (.mv 26),
 ao 27 (.ext 22 0),
 ao 28 (.ext 22 1),
 ao 6 (.mv 27),
 ao 7 (.mv 28)]) (.seq (.reg [ao 29 (.fa 1 2),
 ao 30 (.load false 1 29),
 ao 31 (.mv 6),
 ao 32 (.bin .andNot 30 31),
 ao 33 (.fa 1 2),
 an (.store 1 33 32)]) (.seq (.reg [ao 34 (.fa 2 2),
 ao 35 (.load false 1 34),
 ao 36 (.mv 7),
 ao 37 (.bin .andNot 35 36),
 ao 38 (.fa 2 2),
 an (.store 1 38 37)]) (.seq (.reg [ao 39 (.load true 3 2),
 ao 40 (.mv 1),
 ao 41 (.build [(.bool false), (.int .u64 0), (.int .u64 0), (.int .i64 0)] [(0, (3, 39)), (3, (1, 40))]),
 an (.store 4 4 41),
 ao 5 (.mv (.c (.bool true)))]) (.ret))))))
theorem qbzf : AC.ok Try.prog (TIof Try.prog) 42 0 (kret [(.cell 4 true 4), .t 5] qom) qbar := qm (zA qbvb (zA (qc.ok qbbp) trivial))
theorem qb1b (Aa : Bool) (Ab Ac v1 : Int) : den 0 (kret [(.cell 4 true 4), .t 5] qom) qbar (qh [(0, .agg (qbj Aa Ab Ac)), (1, (.int .i64 v1))]) (qg []) (kend (kret [(.cell 4 true 4), .t 5] qom)) = q3t Aa Ab Ac v1 := by
  rw [qbia]; kernel_rfl
theorem qb1c : cFn (TIof Try.prog) Try.f41 = some ⟨42, [(.cell 4 true 4), .t 5], scOf qbar⟩ := by kernel_rfl
def qb1d (xs : List AV) : Option (AV × Bool) := qbu ((qk xs) 0).cells (q3t) (gI [(qk xs) 1] 0)
def qbf3 {R : Type} : List AV → (AV → Option R) → Option R := entF qbxw qb1d qbxv
theorem qb1e {R : Type} : qc Try.prog 41 (qbf3 (R := R)) :=
  qba tabOk follows Try.func41 (by kernel_rfl) qb1c (fun z r h => by
 obtain ⟨h1, h2⟩ := qo h
 cases h2
 exact (qez h1).symm) qbzf (qn (by kernel_rfl)) fun xs => qb1b _ _ _ _
def qbgj : Shp := ⟨[(0, .st (lk qf)), (1, .st (lk qcy))], []⟩
def qvq (Aa : Bool) (Ab Ac Ad : Int) (Aq : Bool) (Ar As : Int) : Option Bool :=
  (oB (qg3 Aa Ab Ac Ad) fun r1 => (bif ((!r1) || (!((Aa == Aq) && true))) then (some false) else (oB (q3t Aq Ar As Ad) fun r2 => (some (r2.2 && (((gB r2.1.cells 0) == Aa) && (((gI r2.1.cells 1) == Ab) && (((gI r2.1.cells 2) == Ac) && (((gI r2.1.cells 3) == Ad) && true)))))))))
def qlz := hull qvq
theorem q3u : qlz = qvq := qi _
def qvr : AC Bool :=
  .seq (.reg [ao 2 (.box 0),
 ao 3 (.box 1),
 ao 4 (.mv (.c (.bool false)))]) (.seq (.seq (.reg [ao 7 (.load true 4 2),
 .call (po 8 (.call 71 [7])) 71 qhb,
 ao 9 (.un .not 8),
 ao 10 (.mv 9),
 .grp 10 false [(pg 11 10 false (.fa 0 2)), (pg 12 10 false (.fa 0 11)), (pg 13 10 false (.load false 1 12)), (pg 14 10 false (.fa 0 3)), (pg 15 10 false (.load false 1 14)), (pg 16 10 false (.eq true false [.b] 13 15))] 17 16]) (.cond 17 (.seq (.reg [ao 4 (.mv (.c (.bool false)))]) (.ret)) (.skip))) (.seq (.reg [ao 19 (.load true 3 3),
 ao 20 (.fa 3 2),
 ao 21 (.load false 1 20),
 .call (po 22 (.call 41 [19, 21])) 41 qbf3,
 ao 18 (.mv 22),
 ao 23 (.ext 18 0),
 ao 24 (.ext 18 1),
 ao 5 (.alloc [(.bool false), (.int .u64 0), (.int .u64 0), (.int .i64 0)]),
 an (.store 4 5 23),
 ao 6 (.mv 24)]) (.seq (.reg [ao 25 (.mv 6),
 ao 26 (.mv 25),
 .grp 26 true [(pg 27 26 true (.load true 4 5)), (pg 28 26 true (.load true 4 2)), (pg 29 26 true (.eq false true [.b, (.i .u64), (.i .u64), (.i .i64)] 27 28))] 30 29,
 ao 4 (.mv 30)]) (.ret))))
theorem qbib : AC.ok Try.prog (TIof Try.prog) 31 0 (kret [.t 4] decB) qvr := qm (zA (qc.ok qni) (zA (qc.ok qb1e) trivial))
theorem qbl6 (Aa : Bool) (Ab Ac Ad : Int) (Aq : Bool) (Ar As : Int) : den 0 (kret [.t 4] decB) qvr (qh [(0, .agg (qb Aa Ab Ac Ad)), (1, .agg (qbj Aq Ar As))]) (qg []) (kend (kret [.t 4] decB)) = qlz Aa Ab Ac Ad Aq Ar As := by
  rw [q3u]; kernel_rfl
theorem qbl7 : cFn (TIof Try.prog) Try.f35 = some ⟨31, [.t 4], scOf qvr⟩ := by kernel_rfl
def qbl8 (xs : List AV) : Option Bool := qbu ((qk xs) 1).cells (qe ((qk xs) 0).cells (qlz))
def qsr {R : Type} : List AV → (AV → Option R) → Option R := entF qbgj qbl8 AV.bool
theorem q5s {R : Type} : qc Try.prog 35 (qsr (R := R)) :=
  qba tabOk follows Try.func35 (by kernel_rfl) qbl7 hdeB qbib (qn (by kernel_rfl)) fun xs => qbl6 _ _ _ _ _ _ _
def qbl9 : Shp := ⟨[(0, .st (lk qf)), (1, .st (lk qf))], []⟩
def qzl (Aa : Bool) (Ab Ac Ad : Int) (Aq : Bool) (Ar As At : Int) : Option Bool :=
  (oB (qg3 Aa Ab Ac Ad) fun r1 => (bif r1 then (oB (qg3 Aq Ar As At) fun r2 => (bif (r2 && (decide (Ad ≥ At))) then (oB (qlz Aq Ar As At Aa Ab Ac) fun r3 => (some r3)) else (some false))) else (some false)))
def qjw := hull qzl
theorem q7n : qjw = qzl := qi _
def qzm : AC Bool :=
  .seq (.reg [ao 2 (.box 0),
 ao 3 (.box 1),
 ao 4 (.mv (.c (.bool false)))]) (.seq (.reg [ao 5 (.load true 4 2),
 .call (po 6 (.call 71 [5])) 71 qhb,
 ao 7 (.mv 6),
 ag 8 7 true (.load true 4 3),
 .call (pg 9 7 true (.call 71 [8])) 71 qhb,
 ao 10 (.pick 7 9 (.c (.bool false))),
 ao 11 (.mv 10),
 .grp 11 true [(pg 12 11 true (.fa 3 2)), (pg 13 11 true (.load false 1 12)), (pg 14 11 true (.fa 3 3)), (pg 15 11 true (.load false 1 14)), (pg 16 11 true (.bin .geq 13 15))] 17 16,
 ao 18 (.mv 17),
 ag 19 18 true (.load true 4 3),
 ag 20 18 true (.fa 0 2),
 ag 21 18 true (.load true 3 20),
 .call (pg 22 18 true (.call 35 [19, 21])) 35 qsr,
 ao 23 (.pick 18 22 (.c (.bool false))),
 ao 4 (.mv 23)]) (.ret))
theorem qbpj : AC.ok Try.prog (TIof Try.prog) 24 0 (kret [.t 4] decB) qzm := qm (zA (qc.ok qni) (zA (qc.ok qni) (zA (qc.ok q5s) trivial)))
theorem qbrt (Aa : Bool) (Ab Ac Ad : Int) (Aq : Bool) (Ar As At : Int) : den 0 (kret [.t 4] decB) qzm (qh [(0, .agg (qb Aa Ab Ac Ad)), (1, .agg (qb Aq Ar As At))]) (qg []) (kend (kret [.t 4] decB)) = qjw Aa Ab Ac Ad Aq Ar As At := by
  rw [q7n]; kernel_rfl
theorem qbru : cFn (TIof Try.prog) Try.f37 = some ⟨24, [.t 4], scOf qzm⟩ := by kernel_rfl
def qbrv (xs : List AV) : Option Bool := qe ((qk xs) 1).cells (qe ((qk xs) 0).cells (qjw))
def qmm {R : Type} : List AV → (AV → Option R) → Option R := entF qbl9 qbrv AV.bool
theorem qti {R : Type} : qc Try.prog 37 (qmm (R := R)) :=
  qba tabOk follows Try.func37 (by kernel_rfl) qbru hdeB qbpj (qn (by kernel_rfl)) fun xs => qbrt _ _ _ _ _ _ _ _
def qbrw : Shp := ⟨[(0, .st (lk qf)), (1, .st (lk qf))], []⟩
def q44 (Aa : Bool) (Ab Ac Ad : Int) (Aq : Bool) (Ar As At : Int) : Option Bool :=
  (bif (decide (Ad > At)) then (oB (qjw Aa Ab Ac Ad Aq Ar As At) fun r1 => (some r1)) else (some false))
def qg4 := hull q44
theorem qbbu : qg4 = q44 := qi _
def q45 : AC Bool :=
  .seq (.reg [ao 2 (.box 0),
 ao 3 (.box 1),
 ao 4 (.mv (.c (.bool false)))]) (.seq (.reg [ao 5 (.fa 3 2),
 ao 6 (.load false 1 5),
 ao 7 (.fa 3 3),
 ao 8 (.load false 1 7),
 ao 9 (.bin .gtr 6 8),
 ao 10 (.mv 9),
 ag 11 10 true (.load true 4 2),
 ag 12 10 true (.load true 4 3),
 .call (pg 13 10 true (.call 37 [11, 12])) 37 qmm,
 ao 14 (.pick 10 13 (.c (.bool false))),
 ao 4 (.mv 14)]) (.ret))
theorem qbvc : AC.ok Try.prog (TIof Try.prog) 15 0 (kret [.t 4] decB) q45 := qm (zA (qc.ok qti) trivial)
theorem qbxx (Aa : Bool) (Ab Ac Ad : Int) (Aq : Bool) (Ar As At : Int) : den 0 (kret [.t 4] decB) q45 (qh [(0, .agg (qb Aa Ab Ac Ad)), (1, .agg (qb Aq Ar As At))]) (qg []) (kend (kret [.t 4] decB)) = qg4 Aa Ab Ac Ad Aq Ar As At := by
  rw [qbbu]; kernel_rfl
theorem qbxy : cFn (TIof Try.prog) Try.f64 = some ⟨15, [.t 4], scOf q45⟩ := by kernel_rfl
def qbxz (xs : List AV) : Option Bool := qe ((qk xs) 1).cells (qe ((qk xs) 0).cells (qg4))
def qgt {R : Type} : List AV → (AV → Option R) → Option R := entF qbrw qbxz AV.bool
theorem qme {R : Type} : qc Try.prog 64 (qgt (R := R)) :=
  qba tabOk follows Try.func64 (by kernel_rfl) qbxy hdeB qbvc (qn (by kernel_rfl)) fun xs => qbxx _ _ _ _ _ _ _ _
def qbma : Shp := ⟨[(0, .st (lk qa)), (1, .st (lk qa))], []⟩
def qzn (Aa : Bool) (Ab Ac Ad Ae : Int) (Af Ag : List UInt8) (Ah : Int) (Aq : Bool) (Ar As At Ay : Int) (Az A0 : List UInt8) (A1 : Int) : Option Bool :=
  (bif (Ae == (1 : Int)) then (some true) else (bif (Ae == (2 : Int)) then (some (Ay == (3 : Int))) else (some false)))
def qr9 := hull qzn
theorem q7o : qr9 = qzn := qi _
def qzo : AC Bool :=
  .seq (.reg [ao 2 (.box 0),
 ao 3 (.box 1),
 ao 4 (.mv (.c (.bool false)))]) (.seq (.reg [ao 5 (.fa 4 2),
 ao 6 (.load false 1 5),
 ao 7 (.bin .eql 6 (.c (.int .i64 1))),
 ao 8 (.mv 7),
 ag 9 8 false (.fa 4 2),
 ag 10 8 false (.load false 1 9),
 ag 11 8 false (.bin .eql 10 (.c (.int .i64 2))),
 ag 12 8 false (.mv 11),
 ag 13 12 true (.fa 4 3),
 ag 14 12 true (.load false 1 13),
 ag 15 12 true (.bin .eql 14 (.c (.int .i64 3))),
 ag 16 8 false (.pick 12 15 (.c (.bool false))),
 ao 17 (.pick 8 (.c (.bool true)) 16),
 ao 4 (.mv 17)]) (.ret))
theorem qbpk : AC.ok Try.prog (TIof Try.prog) 18 0 (kret [.t 4] decB) qzo := qm trivial
theorem qbrx (Aa : Bool) (Ab Ac Ad Ae : Int) (Af Ag : List UInt8) (Ah : Int) (Aq : Bool) (Ar As At Ay : Int) (Az A0 : List UInt8) (A1 : Int) : den 0 (kret [.t 4] decB) qzo (qh [(0, .agg (qd Aa Ab Ac Ad Ae Af Ag Ah)), (1, .agg (qd Aq Ar As At Ay Az A0 A1))]) (qg []) (kend (kret [.t 4] decB)) = qr9 Aa Ab Ac Ad Ae Af Ag Ah Aq Ar As At Ay Az A0 A1 := by
  rw [q7o]; kernel_rfl
theorem qbry : cFn (TIof Try.prog) Try.f80 = some ⟨18, [.t 4], scOf qzo⟩ := by kernel_rfl
def qbrz (xs : List AV) : Option Bool := qj ((qk xs) 1).cells (qj ((qk xs) 0).cells (qr9))
def q5t {R : Type} : List AV → (AV → Option R) → Option R := entF qbma qbrz AV.bool
theorem qbr0 {R : Type} : qc Try.prog 80 (q5t (R := R)) :=
  qba tabOk follows Try.func80 (by kernel_rfl) qbry hdeB qbpk (qn (by kernel_rfl)) fun xs => qbrx _ _ _ _ _ _ _ _ _ _ _ _ _ _ _ _
def qbas : Shp := ⟨[(0, .st (lk qa)), (1, .one (.ptr 0 0))], [.box true (lk qa)]⟩
def qyl {R : Type} (KK : AV → Mem → Option R) := (fun v3 Ai Aj Ak Al Am An Ao Ap => KK (.bool v3) (qg [(some (.box true [(.bool Ai), (.int .u64 Aj), (.int .u64 Ak), (.int .i64 Al), (.int .i64 Am), (.str An), (.str Ao), (.int .i64 Ap)]))]))
def qra {R : Type}  (Aa : Bool) (Ab Ac Ad Ae : Int) (Af Ag : List UInt8) (Ah : Int) (Ai : Bool) (Aj Ak Al Am : Int) (An Ao : List UInt8) (Ap : Int) (kr : Bool → Bool → Int → Int → Int → Int → (List UInt8) → (List UInt8) → Int → Option R) : Option R :=
  (oB (qg4 Ai Aj Ak Al Aa Ab Ac Ad) fun r1 => (bif r1 then (oB (qr9 Aa Ab Ac Ad Ae Af Ag Ah Ai Aj Ak Al Am An Ao Ap) fun r2 => (kr (!r2) Ai Aj Ak Al Am An Ao Ap)) else (kr false Ai Aj Ak Al Am An Ao Ap)))
def qln {R : Type} := hull (qra (R := R))
theorem qym {R : Type} : qln (R := R) = qra := qi _
def qgd {R : Type} (KK : AV → Mem → Option R) : AC R :=
  .seq (.reg [ao 2 (.box 0),
 ao 3 (.mv (.c (.bool false)))]) (.seq (.reg [ao 4 (.fa 0 1),
 ao 5 (.load true 4 4),
 ao 6 (.fa 0 2),
 ao 7 (.load true 4 6),
 .call (po 8 (.call 64 [5, 7])) 64 qgt,
 ao 9 (.mv 8),
 ag 10 9 true (.load true 8 2),
 ag 11 9 true (.load true 8 1),
 .call (pg 12 9 true (.call 80 [10, 11])) 80 q5t,
 ag 13 9 true (.un .not 12),
 ao 14 (.pick 9 13 (.c (.bool false))),
 ao 3 (.mv 14)]) (.seq (.view [.sel [3] [0]]) (.ret)))
theorem qbbv {R : Type} (KK : AV → Mem → Option R) : AC.ok Try.prog (TIof Try.prog) 15 1 (qp [.t 3] KK) (qgd KK) := qm (zA (qc.ok qme) (zA (qc.ok qbr0) trivial))
theorem qbdo {R : Type} (KK : AV → Mem → Option R) (Aa : Bool) (Ab Ac Ad Ae : Int) (Af Ag : List UInt8) (Ah : Int) (Ai : Bool) (Aj Ak Al Am : Int) (An Ao : List UInt8) (Ap : Int) : den 1 (qp [.t 3] KK) (qgd KK) (qh [(0, .agg (qd Aa Ab Ac Ad Ae Af Ag Ah)), (1, (.ptr 0 0))]) (qg [(some (.box true (qd Ai Aj Ak Al Am An Ao Ap)))]) (kend (qp [.t 3] KK)) = qln Aa Ab Ac Ad Ae Af Ag Ah Ai Aj Ak Al Am An Ao Ap (qyl KK) := by
  rw [qym]; kernel_rfl
theorem qbdp : cFn (TIof Try.prog) Try.f79 = some ⟨15, [.t 3], scOf (qgd (R := Unit) (fun _ _ => none))⟩ := by kernel_rfl
theorem qbdq {R : Type} (KK : AV → Mem → Option R) : (qgd KK).er = some (scOf (qgd (R := Unit) (fun _ _ => none))) := by kernel_rfl
def qzp {R : Type} : List AV → Mem → (AV → Mem → Option R) → Option R := refE qbas fun xs m KK => qj (bxC (m.s 0)) (qj ((qk xs) 0).cells (qln)) (qyl KK)
theorem qbdr {R : Type} : qfx Try.prog 79 (qzp (R := R)) :=
  qly (ac := fun KK => qgd KK) tabOk follows Try.func79 (by kernel_rfl) qbdp (fun KK => qbbv KK) (fun KK => qbdq KK) rfl fun xs m KK => qbdo KK _ _ _ _ _ _ _ _ _ _ _ _ _ _ _ _
def qbs {R : Type}  (K : Ex → Env → Mem → Option R) := (fun z_b0_0 z_b0_1 z_b0_2 z_b0_3 z_b0_4 z_b0_5 z_b0_6 z_b0_7 => K (.exit 0) (qh []) (qg [(some (.box true (qd z_b0_0 z_b0_1 z_b0_2 z_b0_3 z_b0_4 z_b0_5 z_b0_6 z_b0_7)))]))
def qbv {R : Type} (KK : AV → Mem → Option R) := (fun v4 Ai Aj Ak Al Am An Ao Ap => KK (.int .i64 v4) (qg [(some (.box true [(.bool Ai), (.int .u64 Aj), (.int .u64 Ak), (.int .i64 Al), (.int .i64 Am), (.str An), (.str Ao), (.int .i64 Ap)]))]))
def qhi : Shp := ⟨[(0, .one (.l (.sl 8))), (1, .one (.fn 79 [(0, 0)])), (7, .one (.l (.i .i64))), (8, .one (.l (.i .i64)))], [.box true (lk qa)]⟩
def qcr (v0 : List AV) (v7 v8 : Int) (Ai : Bool) (Aj Ak Al Am : Int) (An Ao : List UInt8) (Ap : Int) : Env := qh [(0, (.sl 8 v0)), (1, (.func 79 [(.ptr 0 0)])), (7, (.int .i64 v7)), (8, (.int .i64 v8))]
def qcs (v0 : List AV) (v7 v8 : Int) (Ai : Bool) (Aj Ak Al Am : Int) (An Ao : List UInt8) (Ap : Int) : Mem := qg [(some (.box true (qd Ai Aj Ak Al Am An Ao Ap)))]
def qw {R : Type}  (v0 : List AV) (v7 v8 : Int) (Ai : Bool) (Aj Ak Al Am : Int) (An Ao : List UInt8) (Ap : Int) (next : Int → Bool → Int → Int → Int → Int → (List UInt8) → (List UInt8) → Int → Option R) (kx0 : Bool → Int → Int → Int → Int → (List UInt8) → (List UInt8) → Int → Option R) (kr : Int → Bool → Int → Int → Int → Int → (List UInt8) → (List UInt8) → Int → Option R) : Option R :=
  (bif (decide (v8 < v7)) then (oB (ixB v0 v8) fun y1 => (bif fitC qa y1.cells then (qln (gB y1.cells 0) (gI y1.cells 1) (gI y1.cells 2) (gI y1.cells 3) (gI y1.cells 4) (gS y1.cells 5) (gS y1.cells 6) (gI y1.cells 7) Ai Aj Ak Al Am An Ao Ap fun v3q2 b0_0q3 b0_1q4 b0_2q5 b0_3q6 b0_4q7 b0_5q8 b0_6q9 b0_7q10 => (bif v3q2 then (kr v8 b0_0q3 b0_1q4 b0_2q5 b0_3q6 b0_4q7 b0_5q8 b0_6q9 b0_7q10) else (next (IntKind.i64.wrap (v8 + (1 : Int))) b0_0q3 b0_1q4 b0_2q5 b0_3q6 b0_4q7 b0_5q8 b0_6q9 b0_7q10))) else none)) else (kx0 Ai Aj Ak Al Am An Ao Ap))
def qbz {R : Type}  (v0 : List AV) (v7 : Int) (kx0 : Bool → Int → Int → Int → Int → (List UInt8) → (List UInt8) → Int → Option R) (kr : Int → Bool → Int → Int → Int → Int → (List UInt8) → (List UInt8) → Int → Option R) : Nat → Int → Bool → Int → Int → Int → Int → (List UInt8) → (List UInt8) → Int → Option R
  | 0 => (fun _ _ _ _ _ _ _ _ _ => none)
  | n + 1 => (fun v8 Ai Aj Ak Al Am An Ao Ap => qw v0 v7 v8 Ai Aj Ak Al Am An Ao Ap (qbz v0 v7 kx0 kr n) kx0 kr)
def qb7 {R : Type} := hull (qbz (R := R))
theorem qdu {R : Type} : qb7 (R := R) = qbz := qi _
def qx {R : Type} (KK : AV → Mem → Option R) : AC R :=
  .seq (.reg [ao 9 (.bin .lss 8 7)]) (.seq (.cond 9 (.skip) (.seq (.view [.sel [] [0]]) (.exit 0))) (.seq (.block 1 (.seq (.reg [ao 10 (.mv 8),
 ao 5 (.mv 10)]) (.seq (.reg [ao 11 (.mv 1),
 ao 12 (.mv 0),
 ao 13 (.mv 5),
 ao 14 (.ia 8 12 13),
 .st (.etac 14 qa),
 ao 15 (.load true 8 14),
 .st (.sel [0, 1, 5, 7, 8, 11, 15] [0]),
 .callr (po 16 (.callv 11 [15])) 79 qzp]) (.cond 16 (.seq (.reg [ao 17 (.mv 5),
 ao 4 (.mv 17)]) (.seq (.view [.sel [4] [0]]) (.ret))) (.skip))))) (.seq (.reg [ao 18 (.bin .add 8 (.c (.int .i64 1))),
 ao 8 (.mv 18)]) (.view [.sel [0, 1, 7, 8] [0]]))))
theorem qh6 {R : Type} (KK : AV → Mem → Option R) : AC.ok Try.prog (TIof Try.prog) 19 1 (qp [.t 4] KK) (qx KK) := qm (zA qbdr trivial)
theorem qhj {R : Type} (KK : AV → Mem → Option R) (v0 : List AV) (v7 v8 : Int) (Ai : Bool) (Aj Ak Al Am : Int) (An Ao : List UInt8) (Ap : Int) (K : Ex → Env → Mem → Option R) : den 1 (qp [.t 4] KK) (qx KK) (qcr v0 v7 v8 Ai Aj Ak Al Am An Ao Ap) (qcs v0 v7 v8 Ai Aj Ak Al Am An Ao Ap) K = qw v0 v7 v8 Ai Aj Ak Al Am An Ao Ap (fun z_v8 z_b0_0 z_b0_1 z_b0_2 z_b0_3 z_b0_4 z_b0_5 z_b0_6 z_b0_7 => K .norm (qcr v0 v7 z_v8 z_b0_0 z_b0_1 z_b0_2 z_b0_3 z_b0_4 z_b0_5 z_b0_6 z_b0_7) (qcs v0 v7 z_v8 z_b0_0 z_b0_1 z_b0_2 z_b0_3 z_b0_4 z_b0_5 z_b0_6 z_b0_7)) (qbs K) (qbv KK) := by kernel_rfl
theorem qih {R : Type} (KK : AV → Mem → Option R) (v0 : List AV) (v7 : Int) (K : Ex → Env → Mem → Option R) : ∀ (n : Nat) (v8 : Int) (Ai : Bool) (Aj Ak Al Am : Int) (An Ao : List UInt8) (Ap : Int), qep (den 1 (qp [.t 4] KK) (qx KK)) n (qcr v0 v7 v8 Ai Aj Ak Al Am An Ao Ap) (qcs v0 v7 v8 Ai Aj Ak Al Am An Ao Ap) K = qb7 v0 v7 (qbs K) (qbv KK) n v8 Ai Aj Ak Al Am An Ao Ap := by
  rw [qdu]
  intro n
  induction n with
  | zero => intros; rfl
  | succ n ih =>
 intro v8 Ai Aj Ak Al Am An Ao Ap
 exact (qhj KK v0 v7 v8 Ai Aj Ak Al Am An Ao Ap (itK (den 1 (qp [.t 4] KK) (qx KK)) n K)).trans (congrArg (fun q => qw v0 v7 v8 Ai Aj Ak Al Am An Ao Ap q (qbs K) (qbv KK)) (funext fun v8 => funext fun Ai => funext fun Aj => funext fun Ak => funext fun Al => funext fun Am => funext fun An => funext fun Ao => funext fun Ap => ih v8 Ai Aj Ak Al Am An Ao Ap))
def qd3 {R : Type} (KK : AV → Mem → Option R) := subE (R := R) qhi fun t m K => qj (bxC (m.s 0)) (qb7 (gL [t 0] 0) (gI [t 7] 0) (qbs K) (qbv KK) FU (gI [t 8] 0))
theorem qii {R : Type} (KK : AV → Mem → Option R) : qcb Try.prog (TIof Try.prog) 19 1 (qp [.t 4] KK) (.loop (scOf (qx KK))) (qd3 KK) :=
  qdt tabOk follows (qh6 KK) (qn (by kernel_rfl)) fun t m K => qih KK _ _ K FU _ _ _ _ _ _ _ _ _
def qiq : Shp := ⟨[(0, .one (.l (.sl 8))), (1, .one (.fn 79 [(0, 0)]))], [.box true (lk qa)]⟩
def qef {R : Type} (KK : AV → Mem → Option R) := (fun v4 Ai Aj Ak Al Am An Ao Ap => KK (.int .i64 v4) (qg [(some (.box true [(.bool Ai), (.int .u64 Aj), (.int .u64 Ak), (.int .i64 Al), (.int .i64 Am), (.str An), (.str Ao), (.int .i64 Ap)]))]))
def qc5 {R : Type}  (v0 : List AV) (Ai : Bool) (Aj Ak Al Am : Int) (An Ao : List UInt8) (Ap : Int) (kr : Int → Bool → Int → Int → Int → Int → (List UInt8) → (List UInt8) → Int → Option R) : Option R :=
  (qb7 v0 (v0.length : Int) (fun b0_0q1 b0_1q2 b0_2q3 b0_3q4 b0_4q5 b0_5q6 b0_6q7 b0_7q8 => (kr (-1 : Int) b0_0q1 b0_1q2 b0_2q3 b0_3q4 b0_4q5 b0_5q6 b0_6q7 b0_7q8)) kr FU (0 : Int) Ai Aj Ak Al Am An Ao Ap)
def qbn {R : Type} := hull (qc5 (R := R))
theorem qeg {R : Type} : qbn (R := R) = qc5 := qi _
def qbd {R : Type} (KK : AV → Mem → Option R) : AC R :=
  .seq (.reg [ao 4 (.mv (.c (.int .i64 0)))]) (.seq (.seq (.reg [ao 6 (.mv 0),
 ao 7 (.len false 6),
 ao 8 (.mv (.c (.int .i64 0)))]) (.block 0 (.seq (.view [.sel [0, 1, 7, 8] [0]]) (.sub (.loop (scOf (qx KK))) (qd3 KK))))) (.seq (.reg [ao 4 (.mv (.c (.int .i64 (-1))))]) (.seq (.view [.sel [4] [0]]) (.ret))))
theorem qjm {R : Type} (KK : AV → Mem → Option R) : AC.ok Try.prog (TIof Try.prog) 19 1 (qp [.t 4] KK) (qbd KK) := qm (zA (qii KK) trivial)
theorem qjz {R : Type} (KK : AV → Mem → Option R) (v0 : List AV) (Ai : Bool) (Aj Ak Al Am : Int) (An Ao : List UInt8) (Ap : Int) : den 1 (qp [.t 4] KK) (qbd KK) (qh [(0, (.sl 8 v0)), (1, (.func 79 [(.ptr 0 0)]))]) (qg [(some (.box true (qd Ai Aj Ak Al Am An Ao Ap)))]) (kend (qp [.t 4] KK)) = qbn v0 Ai Aj Ak Al Am An Ao Ap (qef KK) := by
  rw [qeg]; kernel_rfl
theorem qj0 : cFn (TIof Try.prog) Try.f88 = some ⟨19, [.t 4], scOf (qbd (R := Unit) (fun _ _ => none))⟩ := by kernel_rfl
theorem qj1 {R : Type} (KK : AV → Mem → Option R) : (qbd KK).er = some (scOf (qbd (R := Unit) (fun _ _ => none))) := by kernel_rfl
def qer {R : Type} : List AV → Mem → (AV → Mem → Option R) → Option R := refE qiq fun xs m KK => qj (bxC (m.s 0)) (qbn (gL [(qk xs) 0] 0)) (qef KK)
theorem qj2 {R : Type} : qfx Try.prog 88 (qer (R := R)) :=
  qly (ac := fun KK => qbd KK) tabOk follows Try.func88 (by kernel_rfl) qj0 (fun KK => qjm KK) (fun KK => qj1 KK) rfl fun xs m KK => qjz KK _ _ _ _ _ _ _ _ _
def qhk : Shp := ⟨[(0, .one (.l (.sl 8))), (1, .one (.fn 79 [(0, 0)]))], [.box true (lk qa)]⟩
def qdv {R : Type} (KK : AV → Mem → Option R) := (fun v4 Ai Aj Ak Al Am An Ao Ap => KK (.bool v4) (qg [(some (.box true [(.bool Ai), (.int .u64 Aj), (.int .u64 Ak), (.int .i64 Al), (.int .i64 Am), (.str An), (.str Ao), (.int .i64 Ap)]))]))
def qcv {R : Type}  (v0 : List AV) (Ai : Bool) (Aj Ak Al Am : Int) (An Ao : List UInt8) (Ap : Int) (kr : Bool → Bool → Int → Int → Int → Int → (List UInt8) → (List UInt8) → Int → Option R) : Option R :=
  (qbn v0 Ai Aj Ak Al Am An Ao Ap fun v4q1 b0_0q2 b0_1q3 b0_2q4 b0_3q5 b0_4q6 b0_5q7 b0_6q8 b0_7q9 => (kr (decide (v4q1 ≥ (0 : Int))) b0_0q2 b0_1q3 b0_2q4 b0_3q5 b0_4q6 b0_5q7 b0_6q8 b0_7q9))
def qb8 {R : Type} := hull (qcv (R := R))
theorem qdw {R : Type} : qb8 (R := R) = qcv := qi _
def qy {R : Type} (KK : AV → Mem → Option R) : AC R :=
  .seq (.reg [ao 4 (.mv (.c (.bool false)))]) (.seq (.reg [ao 5 (.mv 0),
 ao 6 (.mv 1),
 .st (.sel [5, 6] [0]),
 .callr (po 7 (.call 88 [5, 6])) 88 qer,
 ao 8 (.bin .geq 7 (.c (.int .i64 0))),
 ao 4 (.mv 8)]) (.seq (.view [.sel [4] [0]]) (.ret)))
theorem qh7 {R : Type} (KK : AV → Mem → Option R) : AC.ok Try.prog (TIof Try.prog) 9 1 (qp [.t 4] KK) (qy KK) := qm (zA qj2 trivial)
theorem qij {R : Type} (KK : AV → Mem → Option R) (v0 : List AV) (Ai : Bool) (Aj Ak Al Am : Int) (An Ao : List UInt8) (Ap : Int) : den 1 (qp [.t 4] KK) (qy KK) (qh [(0, (.sl 8 v0)), (1, (.func 79 [(.ptr 0 0)]))]) (qg [(some (.box true (qd Ai Aj Ak Al Am An Ao Ap)))]) (kend (qp [.t 4] KK)) = qb8 v0 Ai Aj Ak Al Am An Ao Ap (qdv KK) := by
  rw [qdw]; kernel_rfl
theorem qik : cFn (TIof Try.prog) Try.f68 = some ⟨9, [.t 4], scOf (qy (R := Unit) (fun _ _ => none))⟩ := by kernel_rfl
theorem qil {R : Type} (KK : AV → Mem → Option R) : (qy KK).er = some (scOf (qy (R := Unit) (fun _ _ => none))) := by kernel_rfl
def qd4 {R : Type} : List AV → Mem → (AV → Mem → Option R) → Option R := refE qhk fun xs m KK => qj (bxC (m.s 0)) (qb8 (gL [(qk xs) 0] 0)) (qdv KK)
theorem qim {R : Type} : qfx Try.prog 68 (qd4 (R := R)) :=
  qly (ac := fun KK => qy KK) tabOk follows Try.func68 (by kernel_rfl) qik (fun KK => qh7 KK) (fun KK => qil KK) rfl fun xs m KK => qij KK _ _ _ _ _ _ _ _ _
def qbds : Shp := ⟨[(0, .one (.l (.sl 8))), (1, .st (lk qa))], []⟩
def qua (v0 : List AV) (Aq : Bool) (Ar As At Ay : Int) (Az A0 : List UInt8) (A1 : Int) : Option Bool :=
  (qb8 v0 Aq Ar As At Ay Az A0 A1 fun v4q1 b0_0q2 b0_1q3 b0_2q4 b0_3q5 b0_4q6 b0_5q7 b0_6q8 b0_7q9 => (some v4q1))
def qhc := hull qua
theorem q1m : qhc = qua := qi _
def qub : AC Bool :=
  .seq (.reg [ao 3 (.box 1),
 ao 4 (.mv (.c (.bool false)))]) (.seq (.reg [ao 5 (.mv 0),
 ao 6 (.mkf 79 [3]),
 .st (.sel [5, 6] [0]),
 .callr (po 7 (.call 68 [5, 6])) 68 qd4,
 ao 4 (.mv 7)]) (.ret))
theorem qbgk : AC.ok Try.prog (TIof Try.prog) 8 0 (kret [.t 4] decB) qub := qm (zA qim trivial)
theorem qbic (v0 : List AV) (Aq : Bool) (Ar As At Ay : Int) (Az A0 : List UInt8) (A1 : Int) : den 0 (kret [.t 4] decB) qub (qh [(0, (.sl 8 v0)), (1, .agg (qd Aq Ar As At Ay Az A0 A1))]) (qg []) (kend (kret [.t 4] decB)) = qhc v0 Aq Ar As At Ay Az A0 A1 := by
  rw [q1m]; kernel_rfl
theorem qbid : cFn (TIof Try.prog) Try.f44 = some ⟨8, [.t 4], scOf qub⟩ := by kernel_rfl
def qbie (xs : List AV) : Option Bool := qj ((qk xs) 1).cells (qhc (gL [(qk xs) 0] 0))
def qrb {R : Type} : List AV → (AV → Option R) → Option R := entF qbds qbie AV.bool
theorem q3v {R : Type} : qc Try.prog 44 (qrb (R := R)) :=
  qba tabOk follows Try.func44 (by kernel_rfl) qbid hdeB qbgk (qn (by kernel_rfl)) fun xs => qbic _ _ _ _ _ _ _ _ _
def q1n  (v0 : List AV) (v3 : Int) (v10 : List AV) (v11 v12 : Int) (Ai : Bool) (Aj Ak Al Am : Int) (An Ao : List UInt8) (Ap : Int) (K : Ex → Env → Mem → Option Int) := (fun (_ : Unit) => K .norm (qh [(0, (.sl 8 v0)), (3, (.int .i64 v3)), (4, (.ptr 0 0)), (10, (.sl 8 v10)), (11, (.int .i64 v11)), (12, (.int .i64 v12))]) (qg [(some (.box true (qd Ai Aj Ak Al Am An Ao Ap)))]))
def qbdt : Shp := ⟨[(0, .one (.l (.sl 8))), (3, .one (.l (.i .i64))), (4, .one (.ptr 0 0)), (10, .one (.l (.sl 8))), (11, .one (.l (.i .i64))), (12, .one (.l (.i .i64)))], [.box true (lk qa)]⟩
def quc  (v0 : List AV) (v3 : Int) (v10 : List AV) (v11 v12 : Int) (Ai : Bool) (Aj Ak Al Am : Int) (An Ao : List UInt8) (Ap : Int) (kn : Unit → Option Int) : Option Int :=
  (bif (decide (v3 > (0 : Int))) then (oB (ixB v0 (IntKind.i64.wrap (v3 - (1 : Int)))) fun y1 => (bif fitC qa y1.cells then (oB (qnk Ai Aj Ak Al (gB y1.cells 0) (gI y1.cells 1) (gI y1.cells 2) (gI y1.cells 3)) fun r2 => (bif (decide (r2 < (0 : Int))) then (some (7 : Int)) else (bif (r2 == (0 : Int)) then (some (12 : Int)) else (kn ())))) else none)) else (kn ()))
def qrc := hull (quc)
theorem q1o : qrc = quc := qi _
def qor : AC Int :=
  .seq (.reg [ao 22 (.mv 3),
 ao 23 (.bin .gtr 22 (.c (.int .i64 0)))]) (.cond 23 (.seq (.draw [] [ao 24 (.fa 0 4),
 ao 25 (.load true 4 24),
 ao 26 (.mv 0),
 ao 27 (.mv 3),
 ao 28 (.bin .sub 27 (.c (.int .i64 1))),
 ao 29 (.ia 8 26 28),
 .et 29 qa,
 ao 30 (.fa 0 29),
 ao 31 (.load true 4 30)] [.call (po 32 (.call 40 [25, 31])) 40 qt9,
 ao 6 (.mv 32)]) (.seq (.seq (.reg [ao 33 (.mv 6),
 ao 34 (.bin .lss 33 (.c (.int .i64 0)))]) (.cond 34 (.seq (.reg [ao 2 (.mv (.c (.int .i64 7)))]) (.ret)) (.skip))) (.seq (.reg [ao 35 (.mv 6),
 ao 36 (.bin .eql 35 (.c (.int .i64 0)))]) (.cond 36 (.seq (.reg [ao 2 (.mv (.c (.int .i64 12)))]) (.ret)) (.seq (.skip) (.view [.sel [0, 3, 4, 10, 11, 12] [0]])))))) (.seq (.skip) (.view [.sel [0, 3, 4, 10, 11, 12] [0]])))
theorem qbgl : AC.ok Try.prog (TIof Try.prog) 43 0 (kret [.t 2] (decI .i64)) qor := qm (zA (qc.ok q7m) (zA rfl trivial))
theorem qbif (v0 : List AV) (v3 : Int) (v10 : List AV) (v11 v12 : Int) (Ai : Bool) (Aj Ak Al Am : Int) (An Ao : List UInt8) (Ap : Int) (K : Ex → Env → Mem → Option Int) : den 0 (kret [.t 2] (decI .i64)) qor (qh [(0, (.sl 8 v0)), (3, (.int .i64 v3)), (4, (.ptr 0 0)), (10, (.sl 8 v10)), (11, (.int .i64 v11)), (12, (.int .i64 v12))]) (qg [(some (.box true (qd Ai Aj Ak Al Am An Ao Ap)))]) K = qrc v0 v3 v10 v11 v12 Ai Aj Ak Al Am An Ao Ap (q1n v0 v3 v10 v11 v12 Ai Aj Ak Al Am An Ao Ap K) := by
  rw [q1o]; kernel_rfl
def q3w := subE (R := Int) qbdt fun t m K => qj (bxC (m.s 0)) (qrc (gL [t 0] 0) (gI [t 3] 0) (gL [t 10] 0) (gI [t 11] 0) (gI [t 12] 0)) (q1n (gL [t 0] 0) (gI [t 3] 0) (gL [t 10] 0) (gI [t 11] 0) (gI [t 12] 0) (gB (bxC (m.s 0)) 0) (gI (bxC (m.s 0)) 1) (gI (bxC (m.s 0)) 2) (gI (bxC (m.s 0)) 3) (gI (bxC (m.s 0)) 4) (gS (bxC (m.s 0)) 5) (gS (bxC (m.s 0)) 6) (gI (bxC (m.s 0)) 7) K)
theorem qbig : qcb Try.prog (TIof Try.prog) 43 0 (kret [.t 2] (decI .i64)) (scOf qor) (q3w) :=
  qfa tabOk follows (qbgl) (qn (by kernel_rfl)) fun t m K => qbif _ _ _ _ _ _ _ _ _ _ _ _ _ K
def qmw  (K : Ex → Env → Mem → Option Int) := (fun (_ : Unit) => K (.exit 0) (qh []) (qg []))
def qbdu : Shp := ⟨[(0, .one (.l (.sl 8))), (10, .one (.l (.sl 8))), (11, .one (.l (.i .i64))), (12, .one (.l (.i .i64)))], []⟩
def qss (v0 v10 : List AV) (v11 v12 : Int) : Env := qh [(0, (.sl 8 v0)), (10, (.sl 8 v10)), (11, (.int .i64 v11)), (12, (.int .i64 v12))]
def qst (v0 v10 : List AV) (v11 v12 : Int) : Mem := qg []
def qhl  (v0 v10 : List AV) (v11 v12 : Int) (next : Int → Option Int) (kx0 : Unit → Option Int) : Option Int :=
  (bif (decide (v12 < v11)) then (oB (ixB v10 v12) fun y1 => (bif fitC qa y1.cells then (oB (qnq (gB y1.cells 0) (gI y1.cells 1) (gI y1.cells 2) (gI y1.cells 3) (gI y1.cells 4) (gS y1.cells 5) (gS y1.cells 6) (gI y1.cells 7)) fun r2 => (bif (r2 != (0 : Int)) then (some r2) else (qrc v0 v12 v10 v11 v12 (gB y1.cells 0) (gI y1.cells 1) (gI y1.cells 2) (gI y1.cells 3) (gI y1.cells 4) (gS y1.cells 5) (gS y1.cells 6) (gI y1.cells 7) (fun (_ : Unit) => (oB (cutI v0 none (some v12)) fun s3 => (oB (qhc s3 (gB y1.cells 0) (gI y1.cells 1) (gI y1.cells 2) (gI y1.cells 3) (gI y1.cells 4) (gS y1.cells 5) (gS y1.cells 6) (gI y1.cells 7)) fun r4 => (bif r4 then (some (24 : Int)) else (next (IntKind.i64.wrap (v12 + (1 : Int))))))))))) else none)) else (kx0 ()))
def qos  (v0 v10 : List AV) (v11 : Int) (kx0 : Unit → Option Int) : Nat → Int → Option Int
  | 0 => (fun _ => none)
  | n + 1 => (fun v12 => qhl v0 v10 v11 v12 (qos v0 v10 v11 kx0 n) kx0)
def qrd := hull (qos)
theorem q1p : qrd = qos := qi _
def qhm : AC Int :=
  .seq (.reg [ao 13 (.bin .lss 12 11)]) (.seq (.cond 13 (.skip) (.seq (.view [.sel [] []]) (.exit 0))) (.seq (.block 1 (.seq (.reg [ao 14 (.mv 12),
 ao 15 (.ia 8 10 12),
 .st (.etac 15 qa),
 ao 16 (.load true 8 15),
 ao 4 (.alloc [(.bool false), (.int .u64 0), (.int .u64 0), (.int .i64 0), (.int .i64 0), (.str []), (.str []), (.int .i64 0)]),
 ao 3 (.mv 14),
 an (.store 8 4 16)]) (.seq (.seq (.reg [ao 17 (.load true 8 4),
 .call (po 18 (.call 43 [17])) 43 qxs,
 ao 5 (.mv 18)]) (.seq (.reg [ao 19 (.mv 5),
 ao 20 (.bin .neq 19 (.c (.int .i64 0)))]) (.cond 20 (.seq (.reg [ao 21 (.mv 5),
 ao 2 (.mv 21)]) (.ret)) (.skip)))) (.seq (.seq (.view [.sel [0, 3, 4, 10, 11, 12] [0]]) (.sub (scOf qor) q3w)) (.seq (.draw [] [ao 37 (.mv 0),
 ao 38 (.mv 3),
 ao 39 (.slc 8 37 none (some 38)),
 ao 40 (.load true 8 4)] [.call (po 41 (.call 44 [39, 40])) 44 qrb]) (.cond 41 (.seq (.reg [ao 2 (.mv (.c (.int .i64 24)))]) (.ret)) (.skip))))))) (.seq (.reg [ao 42 (.bin .add 12 (.c (.int .i64 1))),
 ao 12 (.mv 42)]) (.view [.sel [0, 10, 11, 12] []]))))
theorem qbgm : AC.ok Try.prog (TIof Try.prog) 43 0 (kret [.t 2] (decI .i64)) qhm := qm (zA (qc.ok qbbr) (zA qbig (zA (qc.ok q3v) (zA rfl trivial))))
theorem qbdv (v0 v10 : List AV) (v11 v12 : Int) (K : Ex → Env → Mem → Option Int) : den 0 (kret [.t 2] (decI .i64)) qhm (qss v0 v10 v11 v12) (qst v0 v10 v11 v12) K = qhl v0 v10 v11 v12 (fun z_v12 => K .norm (qss v0 v10 v11 z_v12) (qst v0 v10 v11 z_v12)) (qmw K) := by kernel_rfl
theorem qbih (v0 v10 : List AV) (v11 : Int) (K : Ex → Env → Mem → Option Int) : ∀ (n : Nat) (v12 : Int), qep (den 0 (kret [.t 2] (decI .i64)) qhm) n (qss v0 v10 v11 v12) (qst v0 v10 v11 v12) K = qrd v0 v10 v11 (qmw K) n v12 := by
  rw [q1p]
  intro n
  induction n with
  | zero => intros; rfl
  | succ n ih =>
 intro v12
 exact (qbdv v0 v10 v11 v12 (itK (den 0 (kret [.t 2] (decI .i64)) qhm) n K)).trans (congrArg (fun q => qhl v0 v10 v11 v12 q (qmw K)) (funext fun v12 => ih v12))
def q3x := subE (R := Int) qbdu fun t m K => qrd (gL [t 0] 0) (gL [t 10] 0) (gI [t 11] 0) (qmw K) FU (gI [t 12] 0)
theorem qbii : qcb Try.prog (TIof Try.prog) 43 0 (kret [.t 2] (decI .i64)) (.loop (scOf qhm)) (q3x) :=
  qdt tabOk follows (qbgm) (qn (by kernel_rfl)) fun t m K => qbih _ _ _ K FU _
def qbpl : Shp := ⟨[(0, .one (.l (.sl 8)))], []⟩
def q2r (v0 : List AV) : Option Int :=
  (bif (decide ((v0.length : Int) > (512 : Int))) then (some (9 : Int)) else (qrd v0 v0 (v0.length : Int) (fun (_ : Unit) => (some (0 : Int))) FU (0 : Int)))
def qnr := hull q2r
theorem q9x : qnr = q2r := qi _
def q2s : AC Int :=
  .seq (.reg [ao 2 (.mv (.c (.int .i64 0)))]) (.seq (.seq (.reg [ao 7 (.mv 0),
 ao 8 (.len false 7),
 ao 9 (.bin .gtr 8 (.c (.int .i64 512)))]) (.cond 9 (.seq (.reg [ao 2 (.mv (.c (.int .i64 9)))]) (.ret)) (.skip))) (.seq (.seq (.reg [ao 10 (.mv 0),
 ao 11 (.len false 10),
 ao 12 (.mv (.c (.int .i64 0)))]) (.block 0 (.seq (.view [.sel [0, 10, 11, 12] []]) (.sub (.loop (scOf qhm)) q3x)))) (.seq (.reg [ao 2 (.mv (.c (.int .i64 0)))]) (.ret))))
theorem qbr1 : AC.ok Try.prog (TIof Try.prog) 43 0 (kret [.t 2] (decI .i64)) q2s := qm (zA qbii trivial)
theorem qbvd (v0 : List AV) : den 0 (kret [.t 2] (decI .i64)) q2s (qh [(0, (.sl 8 v0))]) (qg []) (kend (kret [.t 2] (decI .i64))) = qnr v0 := by
  rw [q9x]; kernel_rfl
theorem qbve : cFn (TIof Try.prog) Try.f11 = some ⟨43, [.t 2], scOf q2s⟩ := by kernel_rfl
def qbvf (xs : List AV) : Option Int := qnr (gL [(qk xs) 0] 0)
def qxv {R : Type} : List AV → (AV → Option R) → Option R := entF qbpl qbvf (AV.int .i64)
theorem qbbw {R : Type} : qc Try.prog 11 (qxv (R := R)) :=
  qba tabOk follows Try.func11 (by kernel_rfl) qbve hdeI qbr1 (qn (by kernel_rfl)) fun xs => qbvd _
def qbij : Shp := ⟨[(0, .st (lk qcy))], []⟩
def qxw (Aa : Bool) (Ab Ac : Int) : Option Bool :=
  (bif Aa then (some true) else (bif (Ab == (0 : Int)) then (some (decide (Ac < (4294967296 : Int)))) else (some false)))
def qku := hull qxw
theorem q5u : qku = qxw := qi _
def qxx : AC Bool :=
  .seq (.reg [ao 1 (.box 0),
 ao 2 (.mv (.c (.bool false)))]) (.seq (.reg [ao 3 (.fa 0 1),
 ao 4 (.load false 1 3),
 ao 5 (.mv 4),
 ag 6 5 false (.fa 1 1),
 ag 7 5 false (.load false 1 6),
 ag 8 5 false (.bin .eql 7 (.c (.int .u64 0))),
 ag 9 5 false (.mv 8),
 ag 10 9 true (.fa 2 1),
 ag 11 9 true (.load false 1 10),
 ag 12 9 true (.bin .lss 11 (.c (.int .u64 4294967296))),
 ag 13 5 false (.pick 9 12 (.c (.bool false))),
 ao 14 (.pick 5 (.c (.bool true)) 13),
 ao 2 (.mv 14)]) (.ret))
theorem qbmb : AC.ok Try.prog (TIof Try.prog) 15 0 (kret [.t 2] decB) qxx := qm trivial
theorem qbpm (Aa : Bool) (Ab Ac : Int) : den 0 (kret [.t 2] decB) qxx (qh [(0, .agg (qbj Aa Ab Ac))]) (qg []) (kend (kret [.t 2] decB)) = qku Aa Ab Ac := by
  rw [q5u]; kernel_rfl
theorem qbpn : cFn (TIof Try.prog) Try.f81 = some ⟨15, [.t 2], scOf qxx⟩ := by kernel_rfl
def qbpo (xs : List AV) : Option Bool := qbu ((qk xs) 0).cells (qku)
def qot {R : Type} : List AV → (AV → Option R) → Option R := entF qbij qbpo AV.bool
theorem qxy {R : Type} : qc Try.prog 81 (qot (R := R)) :=
  qba tabOk follows Try.func81 (by kernel_rfl) qbpn hdeB qbmb (qn (by kernel_rfl)) fun xs => qbpm _ _ _
def qbmc : Shp := ⟨[(0, .one (.l .b))], []⟩
def qzq (v0 : Bool) : Option Int :=
  (bif v0 then (some (128 : Int)) else (some (32 : Int)))
def qf9 := hull qzq
theorem q7p : qf9 = qzq := qi _
def qzr : AC Int :=
  .seq (.reg [ao 2 (.mv (.c (.int .i64 0)))]) (.seq (.seq (.reg [ao 3 (.mv 0)]) (.cond 3 (.seq (.reg [ao 2 (.mv (.c (.int .i64 128)))]) (.ret)) (.skip))) (.seq (.reg [ao 2 (.mv (.c (.int .i64 32)))]) (.ret)))
theorem qbpp : AC.ok Try.prog (TIof Try.prog) 4 0 (kret [.t 2] (decI .i64)) qzr := qm trivial
theorem qbr2 (v0 : Bool) : den 0 (kret [.t 2] (decI .i64)) qzr (qh [(0, (.bool v0))]) (qg []) (kend (kret [.t 2] (decI .i64))) = qf9 v0 := by
  rw [q7p]; kernel_rfl
theorem qbr3 : cFn (TIof Try.prog) Try.f82 = some ⟨4, [.t 2], scOf qzr⟩ := by kernel_rfl
def qbr4 (xs : List AV) : Option Int := qf9 (gB [(qk xs) 0] 0)
def qgs {R : Type} : List AV → (AV → Option R) → Option R := entF qbmc qbr4 (AV.int .i64)
theorem ql0 {R : Type} : qc Try.prog 82 (qgs (R := R)) :=
  qba tabOk follows Try.func82 (by kernel_rfl) qbr3 hdeI qbpp (qn (by kernel_rfl)) fun xs => qbr2 _
def qfo (z : AV) : Option (Int × Int) := cond (qhy [(.one (.i .u64)), (.one (.i .u64))] z) (some (aI (gC (tpL z) 0), aI (gC (tpL z) 1))) none
def qbmd (r : Int × Int) : AV := .tup [.int .u64 r.1, .int .u64 r.2]
def qmx  (K : Ex → Env → Mem → Option (Int × Int)) := (fun z_v4 z_v5 => K (.exit 0) (qh [(4, (.int .u64 z_v4)), (5, (.int .u64 z_v5))]) (qg []))
def qbdw : Shp := ⟨[(0, .one (.l (.i .i64))), (4, .one (.l (.i .u64))), (5, .one (.l (.i .u64))), (6, .one (.l (.i .i64)))], []⟩
def qsu (v0 v4 v5 v6 : Int) : Env := qh [(0, (.int .i64 v0)), (4, (.int .u64 v4)), (5, (.int .u64 v5)), (6, (.int .i64 v6))]
def qsv (v0 v4 v5 v6 : Int) : Mem := qg []
def qlo  (v0 v4 v5 v6 : Int) (next : Int → Int → Int → Option (Int × Int)) (kx0 : Int → Int → Option (Int × Int)) : Option (Int × Int) :=
  (bif ((decide (v6 < v0)) && (decide (v6 < (128 : Int)))) then (next (IntKind.u64.wrap ((IntKind.u64.wrap (v4 * (2 : Int))) + (IntKind.u64.wrap (v5.tdiv (9223372036854775808 : Int))))) (IntKind.u64.wrap ((IntKind.u64.wrap (v5 * (2 : Int))) + (1 : Int))) (IntKind.i64.wrap (v6 + (1 : Int)))) else (kx0 v4 v5))
def qou  (v0 : Int) (kx0 : Int → Int → Option (Int × Int)) : Nat → Int → Int → Int → Option (Int × Int)
  | 0 => (fun _ _ _ => none)
  | n + 1 => (fun v4 v5 v6 => qlo v0 v4 v5 v6 (qou v0 kx0 n) kx0)
def qre := hull (qou)
theorem q1q : qre = qou := qi _
def qhn : AC (Int × Int) :=
  .seq (.seq (.reg [ao 7 (.mv 6),
 ao 8 (.mv 0),
 ao 9 (.bin .lss 7 8),
 ao 10 (.mv 9),
 .grp 10 true [(pg 11 10 true (.mv 6)), (pg 12 10 true (.bin .lss 11 (.c (.int .i64 128))))] 13 12]) (.cond 13 (.skip) (.seq (.view [.sel [4, 5] []]) (.exit 0)))) (.seq (.block 1 (.seq (.reg [ao 16 (.mv 4),
 ao 17 (.bin .mul 16 (.c (.int .u64 2))),
 ao 18 (.mv 5),
 ao 19 (.bin .quo 18 (.c (.int .u64 9223372036854775808))),
 ao 20 (.bin .add 17 19),
 ao 4 (.mv 20)]) (.reg [ao 21 (.mv 5),
 ao 22 (.bin .mul 21 (.c (.int .u64 2))),
 ao 23 (.bin .add 22 (.c (.int .u64 1))),
 ao 5 (.mv 23)]))) (.seq (.reg [ao 14 (.mv 6),
 ao 15 (.bin .add 14 (.c (.int .i64 1))),
 ao 6 (.mv 15)]) (.view [.sel [0, 4, 5, 6] []])))
theorem qbgn : AC.ok Try.prog (TIof Try.prog) 26 0 (kret [.t 2, .t 3] qfo) qhn := qm trivial
theorem qbdx (v0 v4 v5 v6 : Int) (K : Ex → Env → Mem → Option (Int × Int)) : den 0 (kret [.t 2, .t 3] qfo) qhn (qsu v0 v4 v5 v6) (qsv v0 v4 v5 v6) K = qlo v0 v4 v5 v6 (fun z_v4 z_v5 z_v6 => K .norm (qsu v0 z_v4 z_v5 z_v6) (qsv v0 z_v4 z_v5 z_v6)) (qmx K) := by kernel_rfl
theorem qbik (v0 : Int) (K : Ex → Env → Mem → Option (Int × Int)) : ∀ (n : Nat) (v4 v5 v6 : Int), qep (den 0 (kret [.t 2, .t 3] qfo) qhn) n (qsu v0 v4 v5 v6) (qsv v0 v4 v5 v6) K = qre v0 (qmx K) n v4 v5 v6 := by
  rw [q1q]
  intro n
  induction n with
  | zero => intros; rfl
  | succ n ih =>
 intro v4 v5 v6
 exact (qbdx v0 v4 v5 v6 (itK (den 0 (kret [.t 2, .t 3] qfo) qhn) n K)).trans (congrArg (fun q => qlo v0 v4 v5 v6 q (qmx K)) (funext fun v4 => funext fun v5 => funext fun v6 => ih v4 v5 v6))
def q3y := subE (R := Int × Int) qbdw fun t m K => qre (gI [t 0] 0) (qmx K) FU (gI [t 4] 0) (gI [t 5] 0) (gI [t 6] 0)
theorem qbil : qcb Try.prog (TIof Try.prog) 26 0 (kret [.t 2, .t 3] qfo) (.loop (scOf qhn)) (q3y) :=
  qdt tabOk follows (qbgn) (qn (by kernel_rfl)) fun t m K => qbik _ K FU _ _ _
def qbme : Shp := ⟨[(0, .one (.l (.i .i64)))], []⟩
def qzs (v0 : Int) : Option (Int × Int) :=
  (qre v0 (fun v4q1 v5q2 => (some (v4q1, v5q2))) FU (0 : Int) (0 : Int) (0 : Int))
def qmf := hull qzs
theorem q7q : qmf = qzs := qi _
def qzt : AC (Int × Int) :=
  .seq (.reg [ao 2 (.mv (.c (.int .u64 0))),
 ao 3 (.mv (.c (.int .u64 0)))]) (.seq (.reg [ao 4 (.mv (.c (.int .u64 0))),
 ao 5 (.mv (.c (.int .u64 0)))]) (.seq (.seq (.reg [ao 6 (.mv (.c (.int .i64 0)))]) (.block 0 (.seq (.view [.sel [0, 4, 5, 6] []]) (.sub (.loop (scOf qhn)) q3y)))) (.seq (.reg [ao 24 (.mv 4),
 ao 25 (.mv 5),
 ao 2 (.mv 24),
 ao 3 (.mv 25)]) (.ret))))
theorem qbpq : AC.ok Try.prog (TIof Try.prog) 26 0 (kret [.t 2, .t 3] qfo) qzt := qm (zA qbil trivial)
theorem qbr5 (v0 : Int) : den 0 (kret [.t 2, .t 3] qfo) qzt (qh [(0, (.int .i64 v0))]) (qg []) (kend (kret [.t 2, .t 3] qfo)) = qmf v0 := by
  rw [q7q]; kernel_rfl
theorem qbr6 : cFn (TIof Try.prog) Try.f83 = some ⟨26, [.t 2, .t 3], scOf qzt⟩ := by kernel_rfl
def qbr7 (xs : List AV) : Option (Int × Int) := qmf (gI [(qk xs) 0] 0)
def qp0 {R : Type} : List AV → (AV → Option R) → Option R := entF qbme qbr7 qbmd
theorem qzu {R : Type} : qc Try.prog 83 (qp0 (R := R)) :=
  qba tabOk follows Try.func83 (by kernel_rfl) qbr6 (fun z r h => by
 obtain ⟨h1, h2⟩ := qo h
 cases h2
 exact (qez h1).symm) qbpq (qn (by kernel_rfl)) fun xs => qbr5 _
def qzv  (Ai : Bool) (Aj Ak Al : Int) (K : Ex → Env → Mem → Option Bool) := (fun z_v22 => K .norm (qh [(1, (.ptr 0 0)), (22, (.bool z_v22))]) (qg [(some (.box true (qb Ai Aj Ak Al)))]))
def qbbx : Shp := ⟨[(1, .one (.ptr 0 0))], [.box true (lk qf)]⟩
def qsw  (Ai : Bool) (Aj Ak Al : Int) (kn : Bool → Option Bool) : Option Bool :=
  (oB (qku Ai Aj Ak) fun r1 => (bif (!r1) then (kn true) else (bif (decide (Al < (0 : Int))) then (kn true) else (oB (qf9 Ai) fun r2 => (kn (decide (Al > r2)))))))
def qp1 := hull (qsw)
theorem qzw : qp1 = qsw := qi _
def qoa : AC Bool :=
  .seq (.draw [] [ao 5 (.fa 0 1),
 ao 6 (.load true 3 5),
 .call (po 7 (.call 81 [6])) 81 qot,
 ao 8 (.un .not 7),
 ao 9 (.mv 8),
 ag 10 9 false (.fa 3 1),
 ag 11 9 false (.load false 1 10),
 ag 12 9 false (.bin .lss 11 (.c (.int .i64 0))),
 ao 13 (.pick 9 (.c (.bool true)) 12),
 ao 14 (.mv 13),
 ag 15 14 false (.fa 3 1),
 ag 16 14 false (.load false 1 15),
 ag 17 14 false (.fa 0 1),
 ag 18 14 false (.fa 0 17),
 ag 19 14 false (.load false 1 18),
 .call (pg 20 14 false (.call 82 [19])) 82 qgs] [ag 21 14 false (.bin .gtr 16 20),
 ao 22 (.pick 14 (.c (.bool true)) 21)]) (.view [.sel [1, 22] [0]])
theorem qbdy : AC.ok Try.prog (TIof Try.prog) 48 0 (kret [.t 2] decB) qoa := qm (zA (qc.ok qxy) (zA (qc.ok ql0) (zA rfl trivial)))
theorem qbgo (Ai : Bool) (Aj Ak Al : Int) (K : Ex → Env → Mem → Option Bool) : den 0 (kret [.t 2] decB) qoa (qh [(1, (.ptr 0 0))]) (qg [(some (.box true (qb Ai Aj Ak Al)))]) K = qp1 Ai Aj Ak Al (qzv Ai Aj Ak Al K) := by
  rw [qzw]; kernel_rfl
def q1r := subE (R := Bool) qbbx fun t m K => qe (bxC (m.s 0)) (qp1) (qzv (gB (bxC (m.s 0)) 0) (gI (bxC (m.s 0)) 1) (gI (bxC (m.s 0)) 2) (gI (bxC (m.s 0)) 3) K)
theorem qbgp : qcb Try.prog (TIof Try.prog) 48 0 (kret [.t 2] decB) (scOf qoa) (q1r) :=
  qfa tabOk follows (qbdy) (qn (by kernel_rfl)) fun t m K => qbgo _ _ _ _ K
def qbim : Shp := ⟨[(0, .st (lk qf))], []⟩
def qxz (Aa : Bool) (Ab Ac Ad : Int) : Option Bool :=
  (qp1 Aa Ab Ac Ad (fun v22q1 => (bif v22q1 then (some false) else (oB (qf9 Aa) fun r2 => (oB (qmf (IntKind.i64.wrap (r2 - Ad))) fun r3 => (some (((qb5 .and .u64 Ab r3.1) == (0 : Int)) && ((qb5 .and .u64 Ac r3.2) == (0 : Int)))))))))
def qge := hull qxz
theorem q5v : qge = qxz := qi _
def qx0 : AC Bool :=
  .seq (.reg [ao 1 (.box 0),
 ao 2 (.mv (.c (.bool false)))]) (.seq (.seq (.seq (.view [.sel [1] [0]]) (.sub (scOf qoa) q1r)) (.cond 22 (.seq (.reg [ao 2 (.mv (.c (.bool false)))]) (.ret)) (.skip))) (.seq (.draw [] [ao 24 (.fa 0 1),
 ao 25 (.fa 0 24),
 ao 26 (.load false 1 25),
 .call (po 27 (.call 82 [26])) 82 qgs,
 ao 28 (.fa 3 1),
 ao 29 (.load false 1 28),
 ao 30 (.bin .sub 27 29),
 .call (po 31 (.call 83 [30])) 83 qp0,
 ao 23 (.mv 31),
 ao 32 (.ext 23 0),
 ao 33 (.ext 23 1),
 ao 3 (.mv 32)] [ao 4 (.mv 33)]) (.seq (.reg [ao 34 (.fa 0 1),
 ao 35 (.fa 1 34),
 ao 36 (.load false 1 35),
 ao 37 (.mv 3),
 ao 38 (.bin .and 36 37),
 ao 39 (.bin .eql 38 (.c (.int .u64 0))),
 ao 40 (.mv 39),
 .grp 40 true [(pg 41 40 true (.fa 0 1)), (pg 42 40 true (.fa 2 41)), (pg 43 40 true (.load false 1 42)), (pg 44 40 true (.mv 4)), (pg 45 40 true (.bin .and 43 44)), (pg 46 40 true (.bin .eql 45 (.c (.int .u64 0))))] 47 46,
 ao 2 (.mv 47)]) (.ret))))
theorem qbmf : AC.ok Try.prog (TIof Try.prog) 48 0 (kret [.t 2] decB) qx0 := qm (zA qbgp (zA (qc.ok ql0) (zA (qc.ok qzu) (zA rfl trivial))))
theorem qbpr (Aa : Bool) (Ab Ac Ad : Int) : den 0 (kret [.t 2] decB) qx0 (qh [(0, .agg (qb Aa Ab Ac Ad))]) (qg []) (kend (kret [.t 2] decB)) = qge Aa Ab Ac Ad := by
  rw [q5v]; kernel_rfl
theorem qbps : cFn (TIof Try.prog) Try.f45 = some ⟨48, [.t 2], scOf qx0⟩ := by kernel_rfl
def qbpt (xs : List AV) : Option Bool := qe ((qk xs) 0).cells (qge)
def qho {R : Type} : List AV → (AV → Option R) → Option R := entF qbim qbpt AV.bool
theorem qns {R : Type} : qc Try.prog 45 (qho (R := R)) :=
  qba tabOk follows Try.func45 (by kernel_rfl) qbps hdeB qbmf (qn (by kernel_rfl)) fun xs => qbpr _ _ _ _
def qbin : Shp := ⟨[(0, .st (lk qf))], []⟩
def qx1 (Aa : Bool) (Ab Ac Ad : Int) : Option Int :=
  (bif Aa then (some (128 : Int)) else (some (32 : Int)))
def qqi := hull qx1
theorem q5w : qqi = qx1 := qi _
def qx2 : AC Int :=
  .seq (.reg [ao 1 (.box 0),
 ao 2 (.mv (.c (.int .i64 0)))]) (.seq (.seq (.reg [ao 3 (.fa 0 1),
 ao 4 (.fa 0 3),
 ao 5 (.load false 1 4)]) (.cond 5 (.seq (.reg [ao 2 (.mv (.c (.int .i64 128)))]) (.ret)) (.skip))) (.seq (.reg [ao 2 (.mv (.c (.int .i64 32)))]) (.ret)))
theorem qbmg : AC.ok Try.prog (TIof Try.prog) 6 0 (kret [.t 2] (decI .i64)) qx2 := qm trivial
theorem qbpu (Aa : Bool) (Ab Ac Ad : Int) : den 0 (kret [.t 2] (decI .i64)) qx2 (qh [(0, .agg (qb Aa Ab Ac Ad))]) (qg []) (kend (kret [.t 2] (decI .i64))) = qqi Aa Ab Ac Ad := by
  rw [q5w]; kernel_rfl
theorem qbpv : cFn (TIof Try.prog) Try.f84 = some ⟨6, [.t 2], scOf qx2⟩ := by kernel_rfl
def qbpw (xs : List AV) : Option Int := qe ((qk xs) 0).cells (qqi)
def q3z {R : Type} : List AV → (AV → Option R) → Option R := entF qbin qbpw (AV.int .i64)
theorem qbpx {R : Type} : qc Try.prog 84 (q3z (R := R)) :=
  qba tabOk follows Try.func84 (by kernel_rfl) qbpv hdeI qbmg (qn (by kernel_rfl)) fun xs => qbpu _ _ _ _
def qh1  (K : Ex → Env → Mem → Option Bool) := (fun (_ : Unit) => K (.exit 0) (qh []) (qg []))
def q6n : Shp := ⟨[(0, .one (.l .s)), (3, .one (.l (.i .i64)))], []⟩
def qnt (v0 : List UInt8) (v3 : Int) : Env := qh [(0, (.str v0)), (3, (.int .i64 v3))]
def qnu (v0 : List UInt8) (v3 : Int) : Mem := qg []
def qfb  (v0 : List UInt8) (v3 : Int) (next : Int → Option Bool) (kx0 : Unit → Option Bool) : Option Bool :=
  (bif (decide (v3 < (v0.length : Int))) then (oB (ixB v0 v3) fun c1 => (bif (decide ((c1.toNat : Int) < (33 : Int))) then (some false) else (oB (ixB v0 v3) fun c2 => (bif (decide ((c2.toNat : Int) > (126 : Int))) then (some false) else (next (IntKind.i64.wrap (v3 + (1 : Int)))))))) else (kx0 ()))
def qj7  (v0 : List UInt8) (kx0 : Unit → Option Bool) : Nat → Int → Option Bool
  | 0 => (fun _ => none)
  | n + 1 => (fun v3 => qfb v0 v3 (qj7 v0 kx0 n) kx0)
def ql1 := hull (qj7)
theorem qud : ql1 = qj7 := qi _
def qfc : AC Bool :=
  .seq (.seq (.reg [ao 4 (.mv 3),
 ao 5 (.mv 0),
 ao 6 (.len true 5),
 ao 7 (.bin .lss 4 6)]) (.cond 7 (.skip) (.seq (.view [.sel [] []]) (.exit 0)))) (.seq (.block 1 (.seq (.reg [ao 10 (.mv 0),
 ao 11 (.mv 3),
 ao 12 (.ixs 10 11),
 ao 13 (.bin .lss 12 (.c (.int .u8 33))),
 ao 14 (.mv 13),
 ag 15 14 false (.mv 0),
 ag 16 14 false (.mv 3),
 ag 17 14 false (.ixs 15 16),
 ag 18 14 false (.bin .gtr 17 (.c (.int .u8 126))),
 ao 19 (.pick 14 (.c (.bool true)) 18)]) (.cond 19 (.seq (.reg [ao 2 (.mv (.c (.bool false)))]) (.ret)) (.skip)))) (.seq (.reg [ao 8 (.mv 3),
 ao 9 (.bin .add 8 (.c (.int .i64 1))),
 ao 3 (.mv 9)]) (.view [.sel [0, 3] []])))
theorem q7r : AC.ok Try.prog (TIof Try.prog) 20 0 (kret [.t 2] decB) qfc := qm trivial
theorem q6o (v0 : List UInt8) (v3 : Int) (K : Ex → Env → Mem → Option Bool) : den 0 (kret [.t 2] decB) qfc (qnt v0 v3) (qnu v0 v3) K = qfb v0 v3 (fun z_v3 => K .norm (qnt v0 z_v3) (qnu v0 z_v3)) (qh1 K) := by kernel_rfl
theorem q88 (v0 : List UInt8) (K : Ex → Env → Mem → Option Bool) : ∀ (n : Nat) (v3 : Int), qep (den 0 (kret [.t 2] decB) qfc) n (qnt v0 v3) (qnu v0 v3) K = ql1 v0 (qh1 K) n v3 := by
  rw [qud]
  intro n
  induction n with
  | zero => intros; rfl
  | succ n ih =>
 intro v3
 exact (q6o v0 v3 (itK (den 0 (kret [.t 2] decB) qfc) n K)).trans (congrArg (fun q => qfb v0 v3 q (qh1 K)) (funext fun v3 => ih v3))
def qvi := subE (R := Bool) q6n fun t m K => ql1 (gS [t 0] 0) (qh1 K) FU (gI [t 3] 0)
theorem q89 : qcb Try.prog (TIof Try.prog) 20 0 (kret [.t 2] decB) (.loop (scOf qfc)) (qvi) :=
  qdt tabOk follows (q7r) (qn (by kernel_rfl)) fun t m K => q88 _ K FU _
def qbat : Shp := ⟨[(0, .one (.l .s))], []⟩
def qrf (v0 : List UInt8) : Option Bool :=
  (ql1 v0 (fun (_ : Unit) => (some true)) FU (0 : Int))
def qhp := hull qrf
theorem qyn : qhp = qrf := qi _
def qrg : AC Bool :=
  .seq (.reg [ao 2 (.mv (.c (.bool false)))]) (.seq (.seq (.reg [ao 3 (.mv (.c (.int .i64 0)))]) (.block 0 (.seq (.view [.sel [0, 3] []]) (.sub (.loop (scOf qfc)) qvi)))) (.seq (.reg [ao 2 (.mv (.c (.bool true)))]) (.ret)))
theorem qbby : AC.ok Try.prog (TIof Try.prog) 20 0 (kret [.t 2] decB) qrg := qm (zA q89 trivial)
theorem qbdz (v0 : List UInt8) : den 0 (kret [.t 2] decB) qrg (qh [(0, (.str v0))]) (qg []) (kend (kret [.t 2] decB)) = qhp v0 := by
  rw [qyn]; kernel_rfl
theorem qbd0 : cFn (TIof Try.prog) Try.f85 = some ⟨20, [.t 2], scOf qrg⟩ := by kernel_rfl
def qbd1 (xs : List AV) : Option Bool := qhp (gS [(qk xs) 0] 0)
def qpm {R : Type} : List AV → (AV → Option R) → Option R := entF qbat qbd1 AV.bool
theorem qzx {R : Type} : qc Try.prog 85 (qpm (R := R)) :=
  qba tabOk follows Try.func85 (by kernel_rfl) qbd0 hdeB qbby (qn (by kernel_rfl)) fun xs => qbdz _
def q30  (Ai : Bool) (Aj Ak Al Am : Int) (An Ao : List UInt8) (Ap : Int) (K : Ex → Env → Mem → Option Bool) := (fun z_v24 => K .norm (qh [(1, (.ptr 0 0)), (24, (.bool z_v24))]) (qg [(some (.box true (qd Ai Aj Ak Al Am An Ao Ap)))]))
def qbgq : Shp := ⟨[(1, .one (.ptr 0 0))], [.box true (lk qa)]⟩
def qvs  (Ai : Bool) (Aj Ak Al Am : Int) (An Ao : List UInt8) (Ap : Int) (kn : Bool → Option Bool) : Option Bool :=
  (bif (decide (Am < (1 : Int))) then (kn true) else (bif (decide (Am > (3 : Int))) then (kn true) else (bif (Am == (3 : Int)) then (oB (qqi Ai Aj Ak Al) fun r1 => (kn (Al != r1))) else (kn false))))
def qtj := hull (qvs)
theorem q31 : qtj = qvs := qi _
def qp2 : AC Bool :=
  .seq (.draw [] [ao 3 (.fa 4 1),
 ao 4 (.load false 1 3),
 ao 5 (.bin .lss 4 (.c (.int .i64 1))),
 ao 6 (.mv 5),
 ag 7 6 false (.fa 4 1),
 ag 8 6 false (.load false 1 7),
 ag 9 6 false (.bin .gtr 8 (.c (.int .i64 3))),
 ao 10 (.pick 6 (.c (.bool true)) 9),
 ao 11 (.mv 10),
 ag 12 11 false (.fa 4 1),
 ag 13 11 false (.load false 1 12),
 ag 14 11 false (.bin .eql 13 (.c (.int .i64 3))),
 ag 15 11 false (.mv 14),
 ag 16 15 true (.fa 0 1),
 ag 17 15 true (.fa 3 16),
 ag 18 15 true (.load false 1 17),
 ag 19 15 true (.fa 0 1),
 ag 20 15 true (.load true 4 19),
 .call (pg 21 15 true (.call 84 [20])) 84 q3z] [ag 22 15 true (.bin .neq 18 21),
 ag 23 11 false (.pick 15 22 (.c (.bool false))),
 ao 24 (.pick 11 (.c (.bool true)) 23)]) (.view [.sel [1, 24] [0]])
theorem qbio : AC.ok Try.prog (TIof Try.prog) 61 0 (kret [.t 2] decB) qp2 := qm (zA (qc.ok qbpx) (zA rfl trivial))
theorem qbmh (Ai : Bool) (Aj Ak Al Am : Int) (An Ao : List UInt8) (Ap : Int) (K : Ex → Env → Mem → Option Bool) : den 0 (kret [.t 2] decB) qp2 (qh [(1, (.ptr 0 0))]) (qg [(some (.box true (qd Ai Aj Ak Al Am An Ao Ap)))]) K = qtj Ai Aj Ak Al Am An Ao Ap (q30 Ai Aj Ak Al Am An Ao Ap K) := by
  rw [q31]; kernel_rfl
def q5x := subE (R := Bool) qbgq fun t m K => qj (bxC (m.s 0)) (qtj) (q30 (gB (bxC (m.s 0)) 0) (gI (bxC (m.s 0)) 1) (gI (bxC (m.s 0)) 2) (gI (bxC (m.s 0)) 3) (gI (bxC (m.s 0)) 4) (gS (bxC (m.s 0)) 5) (gS (bxC (m.s 0)) 6) (gI (bxC (m.s 0)) 7) K)
theorem qbmi : qcb Try.prog (TIof Try.prog) 61 0 (kret [.t 2] decB) (scOf qp2) (q5x) :=
  qfa tabOk follows (qbio) (qn (by kernel_rfl)) fun t m K => qbmh _ _ _ _ _ _ _ _ K
def qbpy : Shp := ⟨[(0, .st (lk qa))], []⟩
def q2t (Aa : Bool) (Ab Ac Ad Ae : Int) (Af Ag : List UInt8) (Ah : Int) : Option Bool :=
  (qtj Aa Ab Ac Ad Ae Af Ag Ah (fun v24q1 => (bif v24q1 then (some false) else (bif ((decide ((Af.length : Int) ≥ (1 : Int))) && (decide ((Af.length : Int) ≤ (63 : Int)))) then (oB (qhp Af) fun r2 => (bif (r2 && (decide ((Ag.length : Int) ≤ (32 : Int)))) then (oB (qhp Ag) fun r3 => (some ((r3 && (decide (Ah ≥ (0 : Int)))) && (decide (Ah ≤ (4294967295 : Int)))))) else (some false))) else (some false)))))
def que := hull q2t
theorem q9y : que = q2t := qi _
def q2u : AC Bool :=
  .seq (.reg [ao 1 (.box 0),
 ao 2 (.mv (.c (.bool false)))]) (.seq (.seq (.seq (.view [.sel [1] [0]]) (.sub (scOf qp2) q5x)) (.cond 24 (.seq (.reg [ao 2 (.mv (.c (.bool false)))]) (.ret)) (.skip))) (.seq (.reg [ao 25 (.fa 5 1),
 ao 26 (.load false 1 25),
 ao 27 (.len true 26),
 ao 28 (.bin .geq 27 (.c (.int .i64 1))),
 ao 29 (.mv 28),
 .grp 29 true [(pg 30 29 true (.fa 5 1)), (pg 31 29 true (.load false 1 30)), (pg 32 29 true (.len true 31)), (pg 33 29 true (.bin .leq 32 (.c (.int .i64 63))))] 34 33,
 ao 35 (.mv 34),
 ag 36 35 true (.fa 5 1),
 ag 37 35 true (.load false 1 36),
 .call (pg 38 35 true (.call 85 [37])) 85 qpm,
 ao 39 (.pick 35 38 (.c (.bool false))),
 ao 40 (.mv 39),
 .grp 40 true [(pg 41 40 true (.fa 6 1)), (pg 42 40 true (.load false 1 41)), (pg 43 40 true (.len true 42)), (pg 44 40 true (.bin .leq 43 (.c (.int .i64 32))))] 45 44,
 ao 46 (.mv 45),
 ag 47 46 true (.fa 6 1),
 ag 48 46 true (.load false 1 47),
 .call (pg 49 46 true (.call 85 [48])) 85 qpm,
 ao 50 (.pick 46 49 (.c (.bool false))),
 ao 51 (.mv 50),
 .grp 51 true [(pg 52 51 true (.fa 7 1)), (pg 53 51 true (.load false 1 52)), (pg 54 51 true (.bin .geq 53 (.c (.int .i64 0))))] 55 54,
 ao 56 (.mv 55),
 .grp 56 true [(pg 57 56 true (.fa 7 1)), (pg 58 56 true (.load false 1 57)), (pg 59 56 true (.bin .leq 58 (.c (.int .i64 4294967295))))] 60 59,
 ao 2 (.mv 60)]) (.ret)))
theorem qbr8 : AC.ok Try.prog (TIof Try.prog) 61 0 (kret [.t 2] decB) q2u := qm (zA qbmi (zA (qc.ok qzx) (zA (qc.ok qzx) trivial)))
theorem qbvg (Aa : Bool) (Ab Ac Ad Ae : Int) (Af Ag : List UInt8) (Ah : Int) : den 0 (kret [.t 2] decB) q2u (qh [(0, .agg (qd Aa Ab Ac Ad Ae Af Ag Ah))]) (qg []) (kend (kret [.t 2] decB)) = que Aa Ab Ac Ad Ae Af Ag Ah := by
  rw [q9y]; kernel_rfl
theorem qbvh : cFn (TIof Try.prog) Try.f46 = some ⟨61, [.t 2], scOf q2u⟩ := by kernel_rfl
def qbvi (xs : List AV) : Option Bool := qj ((qk xs) 0).cells (que)
def q7s {R : Type} : List AV → (AV → Option R) → Option R := entF qbpy qbvi AV.bool
theorem qbvj {R : Type} : qc Try.prog 46 (q7s (R := R)) :=
  qba tabOk follows Try.func46 (by kernel_rfl) qbvh hdeB qbr8 (qn (by kernel_rfl)) fun xs => qbvg _ _ _ _ _ _ _ _
def qbd2 : Shp := ⟨[(0, .st (lk qcy)), (1, .st (lk qcy))], []⟩
def quf (Aa : Bool) (Ab Ac : Int) (Aq : Bool) (Ar As : Int) : Option Int :=
  (bif (!((Aa == Aq) && true)) then (bif Aq then (some (-1 : Int)) else (some (1 : Int))) else (bif (Ab != Ar) then (bif (decide (Ab < Ar)) then (some (-1 : Int)) else (some (1 : Int))) else (bif (decide (Ac < As)) then (some (-1 : Int)) else (bif (decide (Ac > As)) then (some (1 : Int)) else (some (0 : Int))))))
def qnv := hull quf
theorem q1s : qnv = quf := qi _
def qug : AC Int :=
  .seq (.reg [ao 2 (.box 0),
 ao 3 (.box 1),
 ao 4 (.mv (.c (.int .i64 0)))]) (.seq (.seq (.reg [ao 5 (.fa 0 2),
 ao 6 (.load false 1 5),
 ao 7 (.fa 0 3),
 ao 8 (.load false 1 7),
 ao 9 (.eq true false [.b] 6 8)]) (.cond 9 (.seq (.seq (.reg [ao 10 (.fa 0 3),
 ao 11 (.load false 1 10)]) (.cond 11 (.seq (.reg [ao 4 (.mv (.c (.int .i64 (-1))))]) (.ret)) (.skip))) (.seq (.reg [ao 4 (.mv (.c (.int .i64 1)))]) (.ret))) (.skip))) (.seq (.seq (.reg [ao 12 (.fa 1 2),
 ao 13 (.load false 1 12),
 ao 14 (.fa 1 3),
 ao 15 (.load false 1 14),
 ao 16 (.bin .neq 13 15)]) (.cond 16 (.seq (.seq (.reg [ao 17 (.fa 1 2),
 ao 18 (.load false 1 17),
 ao 19 (.fa 1 3),
 ao 20 (.load false 1 19),
 ao 21 (.bin .lss 18 20)]) (.cond 21 (.seq (.reg [ao 4 (.mv (.c (.int .i64 (-1))))]) (.ret)) (.skip))) (.seq (.reg [ao 4 (.mv (.c (.int .i64 1)))]) (.ret))) (.skip))) (.seq (.seq (.reg [ao 22 (.fa 2 2),
 ao 23 (.load false 1 22),
 ao 24 (.fa 2 3),
 ao 25 (.load false 1 24),
 ao 26 (.bin .lss 23 25)]) (.cond 26 (.seq (.reg [ao 4 (.mv (.c (.int .i64 (-1))))]) (.ret)) (.skip))) (.seq (.seq (.reg [ao 27 (.fa 2 2),
 ao 28 (.load false 1 27),
 ao 29 (.fa 2 3),
 ao 30 (.load false 1 29),
 ao 31 (.bin .gtr 28 30)]) (.cond 31 (.seq (.reg [ao 4 (.mv (.c (.int .i64 1)))]) (.ret)) (.skip))) (.seq (.reg [ao 4 (.mv (.c (.int .i64 0)))]) (.ret))))))
theorem qbgr : AC.ok Try.prog (TIof Try.prog) 32 0 (kret [.t 4] (decI .i64)) qug := qm trivial
theorem qbip (Aa : Bool) (Ab Ac : Int) (Aq : Bool) (Ar As : Int) : den 0 (kret [.t 4] (decI .i64)) qug (qh [(0, .agg (qbj Aa Ab Ac)), (1, .agg (qbj Aq Ar As))]) (qg []) (kend (kret [.t 4] (decI .i64))) = qnv Aa Ab Ac Aq Ar As := by
  rw [q1s]; kernel_rfl
theorem qbiq : cFn (TIof Try.prog) Try.f86 = some ⟨32, [.t 4], scOf qug⟩ := by kernel_rfl
def qbir (xs : List AV) : Option Int := qbu ((qk xs) 1).cells (qbu ((qk xs) 0).cells (qnv))
def qzy {R : Type} : List AV → (AV → Option R) → Option R := entF qbd2 qbir (AV.int .i64)
theorem qbis {R : Type} : qc Try.prog 86 (qzy (R := R)) :=
  qba tabOk follows Try.func86 (by kernel_rfl) qbiq hdeI qbgr (qn (by kernel_rfl)) fun xs => qbip _ _ _ _ _ _
def qbd3 : Shp := ⟨[(0, .st (lk qf)), (1, .st (lk qf))], []⟩
def quh (Aa : Bool) (Ab Ac Ad : Int) (Aq : Bool) (Ar As At : Int) : Option Int :=
  (oB (qnv Aa Ab Ac Aq Ar As) fun r1 => (bif (r1 != (0 : Int)) then (some r1) else (bif (decide (Ad < At)) then (some (-1 : Int)) else (bif (decide (Ad > At)) then (some (1 : Int)) else (some (0 : Int))))))
def qnw := hull quh
theorem q1t : qnw = quh := qi _
def qui : AC Int :=
  .seq (.reg [ao 2 (.box 0),
 ao 3 (.box 1),
 ao 4 (.mv (.c (.int .i64 0)))]) (.seq (.reg [ao 6 (.fa 0 2),
 ao 7 (.load true 3 6),
 ao 8 (.fa 0 3),
 ao 9 (.load true 3 8),
 .call (po 10 (.call 86 [7, 9])) 86 qzy,
 ao 5 (.mv 10)]) (.seq (.seq (.reg [ao 11 (.mv 5),
 ao 12 (.bin .neq 11 (.c (.int .i64 0)))]) (.cond 12 (.seq (.reg [ao 13 (.mv 5),
 ao 4 (.mv 13)]) (.ret)) (.skip))) (.seq (.seq (.reg [ao 14 (.fa 3 2),
 ao 15 (.load false 1 14),
 ao 16 (.fa 3 3),
 ao 17 (.load false 1 16),
 ao 18 (.bin .lss 15 17)]) (.cond 18 (.seq (.reg [ao 4 (.mv (.c (.int .i64 (-1))))]) (.ret)) (.skip))) (.seq (.seq (.reg [ao 19 (.fa 3 2),
 ao 20 (.load false 1 19),
 ao 21 (.fa 3 3),
 ao 22 (.load false 1 21),
 ao 23 (.bin .gtr 20 22)]) (.cond 23 (.seq (.reg [ao 4 (.mv (.c (.int .i64 1)))]) (.ret)) (.skip))) (.seq (.reg [ao 4 (.mv (.c (.int .i64 0)))]) (.ret))))))
theorem qbgs : AC.ok Try.prog (TIof Try.prog) 24 0 (kret [.t 4] (decI .i64)) qui := qm (zA (qc.ok qbis) trivial)
theorem qbit (Aa : Bool) (Ab Ac Ad : Int) (Aq : Bool) (Ar As At : Int) : den 0 (kret [.t 4] (decI .i64)) qui (qh [(0, .agg (qb Aa Ab Ac Ad)), (1, .agg (qb Aq Ar As At))]) (qg []) (kend (kret [.t 4] (decI .i64))) = qnw Aa Ab Ac Ad Aq Ar As At := by
  rw [q1t]; kernel_rfl
theorem qbiu : cFn (TIof Try.prog) Try.f47 = some ⟨24, [.t 4], scOf qui⟩ := by kernel_rfl
def qbiv (xs : List AV) : Option Int := qe ((qk xs) 1).cells (qe ((qk xs) 0).cells (qnw))
def qzz {R : Type} : List AV → (AV → Option R) → Option R := entF qbd3 qbiv (AV.int .i64)
theorem qbiw {R : Type} : qc Try.prog 47 (qzz (R := R)) :=
  qba tabOk follows Try.func47 (by kernel_rfl) qbiu hdeI qbgs (qn (by kernel_rfl)) fun xs => qbit _ _ _ _ _ _ _ _
def ql2 (z : AV) : Option (AV × Bool) := cond (qhy [(.st [.b, (.i .u64), (.i .u64), (.i .i64)]), (.one .b)] z) (some ((gC (tpL z) 0), aB (gC (tpL z) 1))) none
def qbr9 (r : AV × Bool) : AV := .tup [qll (.st [.b, (.i .u64), (.i .u64), (.i .i64)]) r.1, .bool r.2]
def q5y  (v1 : Int) (Ai : Bool) (Aj Ak : Int) (Au : Bool) (Av Aw Ax : Int) (K : Ex → Env → Mem → Option (AV × Bool)) := (fun z_v22 => K .norm (qh [(1, (.int .i64 v1)), (2, (.ptr 0 0)), (4, (.ptr 1 0)), (22, (.bool z_v22))]) (qg [(some (.box true (qbj Ai Aj Ak))), (some (.box true (qb Au Av Aw Ax)))]))
def qbix : Shp := ⟨[(1, .one (.l (.i .i64))), (2, .one (.ptr 0 0)), (4, .one (.ptr 1 0))], [.box true (lk qcy), .box true (lk qf)]⟩
def qx3  (v1 : Int) (Ai : Bool) (Aj Ak : Int) (Au : Bool) (Av Aw Ax : Int) (kn : Bool → Option (AV × Bool)) : Option (AV × Bool) :=
  (oB (qku Ai Aj Ak) fun r1 => (bif ((!r1) || (decide (v1 < (0 : Int)))) then (kn true) else (oB (qf9 Ai) fun r2 => (kn (decide (v1 > r2))))))
def qu7 := hull (qx3)
theorem q5z : qu7 = qx3 := qi _
def qrh : AC (AV × Bool) :=
  .seq (.reg [ao 9 (.load true 3 2),
 .call (po 10 (.call 81 [9])) 81 qot,
 ao 11 (.un .not 10),
 ao 12 (.mv 11),
 .grp 12 false [(pg 13 12 false (.mv 1)), (pg 14 12 false (.bin .lss 13 (.c (.int .i64 0))))] 15 14,
 ao 16 (.mv 15),
 ag 17 16 false (.mv 1),
 ag 18 16 false (.fa 0 2),
 ag 19 16 false (.load false 1 18),
 .call (pg 20 16 false (.call 82 [19])) 82 qgs,
 ag 21 16 false (.bin .gtr 17 20),
 ao 22 (.pick 16 (.c (.bool true)) 21)]) (.view [.sel [1, 2, 4, 22] [0, 1]])
theorem qbmj : AC.ok Try.prog (TIof Try.prog) 53 0 (kret [(.cell 4 true 4), .t 5] ql2) qrh := qm (zA (qc.ok qxy) (zA (qc.ok ql0) trivial))
theorem qbpz (v1 : Int) (Ai : Bool) (Aj Ak : Int) (Au : Bool) (Av Aw Ax : Int) (K : Ex → Env → Mem → Option (AV × Bool)) : den 0 (kret [(.cell 4 true 4), .t 5] ql2) qrh (qh [(1, (.int .i64 v1)), (2, (.ptr 0 0)), (4, (.ptr 1 0))]) (qg [(some (.box true (qbj Ai Aj Ak))), (some (.box true (qb Au Av Aw Ax)))]) K = qu7 v1 Ai Aj Ak Au Av Aw Ax (q5y v1 Ai Aj Ak Au Av Aw Ax K) := by
  rw [q5z]; kernel_rfl
def q7t := subE (R := AV × Bool) qbix fun t m K => qe (bxC (m.s 1)) (qbu (bxC (m.s 0)) (qu7 (gI [t 1] 0))) (q5y (gI [t 1] 0) (gB (bxC (m.s 0)) 0) (gI (bxC (m.s 0)) 1) (gI (bxC (m.s 0)) 2) (gB (bxC (m.s 1)) 0) (gI (bxC (m.s 1)) 1) (gI (bxC (m.s 1)) 2) (gI (bxC (m.s 1)) 3) K)
theorem qbp0 : qcb Try.prog (TIof Try.prog) 53 0 (kret [(.cell 4 true 4), .t 5] ql2) (scOf qrh) (q7t) :=
  qfa tabOk follows (qbmj) (qn (by kernel_rfl)) fun t m K => qbpz _ _ _ _ _ _ _ _ K
def qbsa : Shp := ⟨[(0, .st (lk qcy)), (1, .one (.l (.i .i64)))], []⟩
def q46 (Aa : Bool) (Ab Ac v1 : Int) : Option (AV × Bool) :=
  (qu7 v1 Aa Ab Ac false (0 : Int) (0 : Int) (0 : Int) (fun v22q1 => (bif v22q1 then (some ((.agg [(.bool false), (.int .u64 (0 : Int)), (.int .u64 (0 : Int)), (.int .i64 (0 : Int))]), false)) else (oB (qf9 Aa) fun r2 => (oB (qmf (IntKind.i64.wrap (r2 - v1))) fun r3 => (some ((.agg [(.bool Aa), (.int .u64 (IntKind.u64.wrap (Ab - (qb5 .and .u64 Ab r3.1)))), (.int .u64 (IntKind.u64.wrap (Ac - (qb5 .and .u64 Ac r3.2)))), (.int .i64 v1)]), true)))))))
def qwp := hull q46
theorem qbbz : qwp = q46 := qi _
def q47 : AC (AV × Bool) :=
  .seq (.reg [ao 2 (.box 0),
 ao 4 (.alloc [(.bool false), (.int .u64 0), (.int .u64 0), (.int .i64 0)]),
 ao 5 (.mv (.c (.bool false)))]) (.seq (.seq (.seq (.view [.sel [1, 2, 4] [0, 1]]) (.sub (scOf qrh) q7t)) (.cond 22 (.seq (.reg [ao 23 (.build [(.bool false), (.int .u64 0), (.int .u64 0), (.int .i64 0)] []),
 an (.store 4 4 23),
 ao 5 (.mv (.c (.bool false)))]) (.ret)) (.skip))) (.seq (.reg [ao 25 (.fa 0 2),
 ao 26 (.load false 1 25),
 .call (po 27 (.call 82 [26])) 82 qgs,
 ao 28 (.mv 1),
 ao 29 (.bin .sub 27 28),
 .call (po 30 (.call 83 [29])) 83 qp0,
 ao 24 (.mv 30),
 ao 31 (.ext 24 0),
 ao 32 (.ext 24 1),
 ao 6 (.mv 31),
 ao 7 (.mv 32)]) (.seq (.reg [ao 33 (.fa 0 2),
 ao 34 (.load false 1 33),
 ao 35 (.fa 1 2),
 ao 36 (.load false 1 35),
 ao 37 (.fa 1 2),
 ao 38 (.load false 1 37),
 ao 39 (.mv 6),
 ao 40 (.bin .and 38 39),
 ao 41 (.bin .sub 36 40),
 ao 42 (.fa 2 2),
 ao 43 (.load false 1 42),
 ao 44 (.fa 2 2),
 ao 45 (.load false 1 44),
 ao 46 (.mv 7),
 ao 47 (.bin .and 45 46),
 ao 48 (.bin .sub 43 47),
 ao 49 (.build [(.bool false), (.int .u64 0), (.int .u64 0)] [(0, (1, 34)), (1, (1, 41)), (2, (1, 48))]),
 ao 8 (.alloc [(.bool false), (.int .u64 0), (.int .u64 0)]),
 an (.store 3 8 49)]) (.seq (.reg [ao 50 (.load true 3 8),
 ao 51 (.mv 1),
 ao 52 (.build [(.bool false), (.int .u64 0), (.int .u64 0), (.int .i64 0)] [(0, (3, 50)), (3, (1, 51))]),
 an (.store 4 4 52),
 ao 5 (.mv (.c (.bool true)))]) (.ret)))))
theorem qbvk : AC.ok Try.prog (TIof Try.prog) 53 0 (kret [(.cell 4 true 4), .t 5] ql2) q47 := qm (zA qbp0 (zA (qc.ok ql0) (zA (qc.ok qzu) trivial)))
theorem qbx0 (Aa : Bool) (Ab Ac v1 : Int) : den 0 (kret [(.cell 4 true 4), .t 5] ql2) q47 (qh [(0, .agg (qbj Aa Ab Ac)), (1, (.int .i64 v1))]) (qg []) (kend (kret [(.cell 4 true 4), .t 5] ql2)) = qwp Aa Ab Ac v1 := by
  rw [qbbz]; kernel_rfl
theorem qbx1 : cFn (TIof Try.prog) Try.f99 = some ⟨53, [(.cell 4 true 4), .t 5], scOf q47⟩ := by kernel_rfl
def qbx2 (xs : List AV) : Option (AV × Bool) := qbu ((qk xs) 0).cells (qwp) (gI [(qk xs) 1] 0)
def q9z {R : Type} : List AV → (AV → Option R) → Option R := entF qbsa qbx2 qbr9
theorem qbx3 {R : Type} : qc Try.prog 99 (q9z (R := R)) :=
  qba tabOk follows Try.func99 (by kernel_rfl) qbx1 (fun z r h => by
 obtain ⟨h1, h2⟩ := qo h
 cases h2
 exact (qez h1).symm) qbvk (qn (by kernel_rfl)) fun xs => qbx0 _ _ _ _
def qvj  (Ai : Bool) (Aj Ak Al : Int) (Au : Bool) (Av Aw : Int) (K : Ex → Env → Mem → Option Bool) := (fun z_v22 => K .norm (qh [(2, (.ptr 0 0)), (3, (.ptr 1 0)), (22, (.bool z_v22))]) (qg [(some (.box true (qb Ai Aj Ak Al))), (some (.box true (qbj Au Av Aw)))]))
def q7u : Shp := ⟨[(2, .one (.ptr 0 0)), (3, .one (.ptr 1 0))], [.box true (lk qf), .box true (lk qcy)]⟩
def qpn  (Ai : Bool) (Aj Ak Al : Int) (Au : Bool) (Av Aw : Int) (kn : Bool → Option Bool) : Option Bool :=
  (oB (qge Ai Aj Ak Al) fun r1 => (bif (!r1) then (kn true) else (oB (qku Au Av Aw) fun r2 => (kn ((!r2) || (!((Ai == Au) && true)))))))
def qmy := hull (qpn)
theorem qvk : qmy = qpn := qi _
def qk7 : AC Bool :=
  .seq (.reg [ao 7 (.load true 4 2),
 .call (po 8 (.call 45 [7])) 45 qho,
 ao 9 (.un .not 8),
 ao 10 (.mv 9),
 ag 11 10 false (.load true 3 3),
 .call (pg 12 10 false (.call 81 [11])) 81 qot,
 ag 13 10 false (.un .not 12),
 ao 14 (.pick 10 (.c (.bool true)) 13),
 ao 15 (.mv 14),
 .grp 15 false [(pg 16 15 false (.fa 0 2)), (pg 17 15 false (.fa 0 16)), (pg 18 15 false (.load false 1 17)), (pg 19 15 false (.fa 0 3)), (pg 20 15 false (.load false 1 19)), (pg 21 15 false (.eq true false [.b] 18 20))] 22 21]) (.view [.sel [2, 3, 22] [0, 1]])
theorem q9a : AC.ok Try.prog (TIof Try.prog) 33 0 (kret [.t 4] decB) qk7 := qm (zA (qc.ok qns) (zA (qc.ok qxy) trivial))
theorem qbau (Ai : Bool) (Aj Ak Al : Int) (Au : Bool) (Av Aw : Int) (K : Ex → Env → Mem → Option Bool) : den 0 (kret [.t 4] decB) qk7 (qh [(2, (.ptr 0 0)), (3, (.ptr 1 0))]) (qg [(some (.box true (qb Ai Aj Ak Al))), (some (.box true (qbj Au Av Aw)))]) K = qmy Ai Aj Ak Al Au Av Aw (qvj Ai Aj Ak Al Au Av Aw K) := by
  rw [qvk]; kernel_rfl
def qwq := subE (R := Bool) q7u fun t m K => qbu (bxC (m.s 1)) (qe (bxC (m.s 0)) (qmy)) (qvj (gB (bxC (m.s 0)) 0) (gI (bxC (m.s 0)) 1) (gI (bxC (m.s 0)) 2) (gI (bxC (m.s 0)) 3) (gB (bxC (m.s 1)) 0) (gI (bxC (m.s 1)) 1) (gI (bxC (m.s 1)) 2) K)
theorem qbav : qcb Try.prog (TIof Try.prog) 33 0 (kret [.t 4] decB) (scOf qk7) (qwq) :=
  qfa tabOk follows (q9a) (qn (by kernel_rfl)) fun t m K => qbau _ _ _ _ _ _ _ K
def qbb0 : Shp := ⟨[(0, .st (lk qf)), (1, .st (lk qcy))], []⟩
def qsx (Aa : Bool) (Ab Ac Ad : Int) (Aq : Bool) (Ar As : Int) : Option Bool :=
  (qmy Aa Ab Ac Ad Aq Ar As (fun v22q1 => (bif v22q1 then (some false) else (oB (qwp Aq Ar As Ad) fun r2 => (some (((gB r2.1.cells 0) == Aa) && (((gI r2.1.cells 1) == Ab) && (((gI r2.1.cells 2) == Ac) && (((gI r2.1.cells 3) == Ad) && true)))))))))
def qi9 := hull qsx
theorem qz0 : qi9 = qsx := qi _
def qsy : AC Bool :=
  .seq (.reg [ao 2 (.box 0),
 ao 3 (.box 1),
 ao 4 (.mv (.c (.bool false)))]) (.seq (.seq (.seq (.view [.sel [2, 3] [0, 1]]) (.sub (scOf qk7) qwq)) (.cond 22 (.seq (.reg [ao 4 (.mv (.c (.bool false)))]) (.ret)) (.skip))) (.seq (.reg [ao 24 (.load true 3 3),
 ao 25 (.fa 3 2),
 ao 26 (.load false 1 25),
 .call (po 27 (.call 99 [24, 26])) 99 q9z,
 ao 23 (.mv 27),
 ao 28 (.ext 23 0),
 ao 29 (.ext 23 1),
 ao 5 (.alloc [(.bool false), (.int .u64 0), (.int .u64 0), (.int .i64 0)]),
 an (.store 4 5 28),
 ao 6 (.mv 29)]) (.seq (.reg [ao 30 (.load true 4 5),
 ao 31 (.load true 4 2),
 ao 32 (.eq false true [.b, (.i .u64), (.i .u64), (.i .i64)] 30 31),
 ao 4 (.mv 32)]) (.ret))))
theorem qbd4 : AC.ok Try.prog (TIof Try.prog) 33 0 (kret [.t 4] decB) qsy := qm (zA qbav (zA (qc.ok qbx3) trivial))
theorem qbgt (Aa : Bool) (Ab Ac Ad : Int) (Aq : Bool) (Ar As : Int) : den 0 (kret [.t 4] decB) qsy (qh [(0, .agg (qb Aa Ab Ac Ad)), (1, .agg (qbj Aq Ar As))]) (qg []) (kend (kret [.t 4] decB)) = qi9 Aa Ab Ac Ad Aq Ar As := by
  rw [qz0]; kernel_rfl
theorem qbgu : cFn (TIof Try.prog) Try.f66 = some ⟨33, [.t 4], scOf qsy⟩ := by kernel_rfl
def qbgv (xs : List AV) : Option Bool := qbu ((qk xs) 1).cells (qe ((qk xs) 0).cells (qi9))
def qqj {R : Type} : List AV → (AV → Option R) → Option R := entF qbb0 qbgv AV.bool
theorem q1u {R : Type} : qc Try.prog 66 (qqj (R := R)) :=
  qba tabOk follows Try.func66 (by kernel_rfl) qbgu hdeB qbd4 (qn (by kernel_rfl)) fun xs => qbgt _ _ _ _ _ _ _
def qbgw : Shp := ⟨[(0, .st (lk qf)), (1, .st (lk qf))], []⟩
def qvt (Aa : Bool) (Ab Ac Ad : Int) (Aq : Bool) (Ar As At : Int) : Option Bool :=
  (oB (qge Aa Ab Ac Ad) fun r1 => (bif (r1 && (decide (Ad ≥ At))) then (oB (qi9 Aq Ar As At Aa Ab Ac) fun r2 => (some r2)) else (some false)))
def qgu := hull qvt
theorem q32 : qgu = qvt := qi _
def qvu : AC Bool :=
  .seq (.reg [ao 2 (.box 0),
 ao 3 (.box 1),
 ao 4 (.mv (.c (.bool false)))]) (.seq (.reg [ao 5 (.load true 4 2),
 .call (po 6 (.call 45 [5])) 45 qho,
 ao 7 (.mv 6),
 .grp 7 true [(pg 8 7 true (.fa 3 2)), (pg 9 7 true (.load false 1 8)), (pg 10 7 true (.fa 3 3)), (pg 11 7 true (.load false 1 10)), (pg 12 7 true (.bin .geq 9 11))] 13 12,
 ao 14 (.mv 13),
 ag 15 14 true (.load true 4 3),
 ag 16 14 true (.fa 0 2),
 ag 17 14 true (.load true 3 16),
 .call (pg 18 14 true (.call 66 [15, 17])) 66 qqj,
 ao 19 (.pick 14 18 (.c (.bool false))),
 ao 4 (.mv 19)]) (.ret))
theorem qbiy : AC.ok Try.prog (TIof Try.prog) 20 0 (kret [.t 4] decB) qvu := qm (zA (qc.ok qns) (zA (qc.ok q1u) trivial))
theorem qbmk (Aa : Bool) (Ab Ac Ad : Int) (Aq : Bool) (Ar As At : Int) : den 0 (kret [.t 4] decB) qvu (qh [(0, .agg (qb Aa Ab Ac Ad)), (1, .agg (qb Aq Ar As At))]) (qg []) (kend (kret [.t 4] decB)) = qgu Aa Ab Ac Ad Aq Ar As At := by
  rw [q32]; kernel_rfl
theorem qbml : cFn (TIof Try.prog) Try.f94 = some ⟨20, [.t 4], scOf qvu⟩ := by kernel_rfl
def qbmm (xs : List AV) : Option Bool := qe ((qk xs) 1).cells (qe ((qk xs) 0).cells (qgu))
def qkc {R : Type} : List AV → (AV → Option R) → Option R := entF qbgw qbmm AV.bool
theorem qp3 {R : Type} : qc Try.prog 94 (qkc (R := R)) :=
  qba tabOk follows Try.func94 (by kernel_rfl) qbml hdeB qbiy (qn (by kernel_rfl)) fun xs => qbmk _ _ _ _ _ _ _ _
def qbsb : Shp := ⟨[(0, .st (lk qf)), (1, .st (lk qf))], []⟩
def qxc (Aa : Bool) (Ab Ac Ad : Int) (Aq : Bool) (Ar As At : Int) : Option Bool :=
  (oB (qgu Aa Ab Ac Ad Aq Ar As At) fun r1 => (some (r1 && (decide (Ad > At)))))
def qk8 := hull qxc
theorem q2v : qk8 = qxc := qi _
def q48 : AC Bool :=
  .seq (.reg [ao 2 (.box 0),
 ao 3 (.box 1),
 ao 4 (.mv (.c (.bool false)))]) (.seq (.reg [ao 5 (.load true 4 2),
 ao 6 (.load true 4 3),
 .call (po 7 (.call 94 [5, 6])) 94 qkc,
 ao 8 (.mv 7),
 .grp 8 true [(pg 9 8 true (.fa 3 2)), (pg 10 8 true (.load false 1 9)), (pg 11 8 true (.fa 3 3)), (pg 12 8 true (.load false 1 11)), (pg 13 8 true (.bin .gtr 10 12))] 14 13,
 ao 4 (.mv 14)]) (.ret))
theorem qbvl : AC.ok Try.prog (TIof Try.prog) 15 0 (kret [.t 4] decB) q48 := qm (zA (qc.ok qp3) trivial)
theorem qbx4 (Aa : Bool) (Ab Ac Ad : Int) (Aq : Bool) (Ar As At : Int) : den 0 (kret [.t 4] decB) q48 (qh [(0, .agg (qb Aa Ab Ac Ad)), (1, .agg (qb Aq Ar As At))]) (qg []) (kend (kret [.t 4] decB)) = qk8 Aa Ab Ac Ad Aq Ar As At := by
  rw [q2v]; kernel_rfl
theorem qbx5 : cFn (TIof Try.prog) Try.f54 = some ⟨15, [.t 4], scOf q48⟩ := by kernel_rfl
def qbx6 (xs : List AV) : Option Bool := qe ((qk xs) 1).cells (qe ((qk xs) 0).cells (qk8))
def ql3 {R : Type} : List AV → (AV → Option R) → Option R := entF qbsb qbx6 AV.bool
theorem qsa {R : Type} : qc Try.prog 54 (ql3 (R := R)) :=
  qba tabOk follows Try.func54 (by kernel_rfl) qbx5 hdeB qbvl (qn (by kernel_rfl)) fun xs => qbx4 _ _ _ _ _ _ _ _
def qbgx : Shp := ⟨[(0, .st (lk qa)), (1, .st (lk qa))], []⟩
def qvv (Aa : Bool) (Ab Ac Ad Ae : Int) (Af Ag : List UInt8) (Ah : Int) (Aq : Bool) (Ar As At Ay : Int) (Az A0 : List UInt8) (A1 : Int) : Option Bool :=
  (oB (qk8 Aa Ab Ac Ad Aq Ar As At) fun r1 => (bif r1 then (bif (Ay == (3 : Int)) then (some true) else (bif (Ay == (2 : Int)) then (some (Ae != (3 : Int))) else (some false))) else (some false)))
def qov := hull qvv
theorem q33 : qov = qvv := qi _
def qvw : AC Bool :=
  .seq (.reg [ao 2 (.box 0),
 ao 3 (.box 1),
 ao 4 (.mv (.c (.bool false)))]) (.seq (.reg [ao 5 (.fa 0 2),
 ao 6 (.load true 4 5),
 ao 7 (.fa 0 3),
 ao 8 (.load true 4 7),
 .call (po 9 (.call 54 [6, 8])) 54 ql3,
 ao 10 (.mv 9),
 ag 11 10 true (.fa 4 3),
 ag 12 10 true (.load false 1 11),
 ag 13 10 true (.bin .eql 12 (.c (.int .i64 3))),
 ag 14 10 true (.mv 13),
 ag 15 14 false (.fa 4 3),
 ag 16 14 false (.load false 1 15),
 ag 17 14 false (.bin .eql 16 (.c (.int .i64 2))),
 ag 18 14 false (.mv 17),
 ag 19 18 true (.fa 4 2),
 ag 20 18 true (.load false 1 19),
 ag 21 18 true (.bin .neq 20 (.c (.int .i64 3))),
 ag 22 14 false (.pick 18 21 (.c (.bool false))),
 ag 23 10 true (.pick 14 (.c (.bool true)) 22),
 ao 24 (.pick 10 23 (.c (.bool false))),
 ao 4 (.mv 24)]) (.ret))
theorem qbiz : AC.ok Try.prog (TIof Try.prog) 25 0 (kret [.t 4] decB) qvw := qm (zA (qc.ok qsa) trivial)
theorem qbmn (Aa : Bool) (Ab Ac Ad Ae : Int) (Af Ag : List UInt8) (Ah : Int) (Aq : Bool) (Ar As At Ay : Int) (Az A0 : List UInt8) (A1 : Int) : den 0 (kret [.t 4] decB) qvw (qh [(0, .agg (qd Aa Ab Ac Ad Ae Af Ag Ah)), (1, .agg (qd Aq Ar As At Ay Az A0 A1))]) (qg []) (kend (kret [.t 4] decB)) = qov Aa Ab Ac Ad Ae Af Ag Ah Aq Ar As At Ay Az A0 A1 := by
  rw [q33]; kernel_rfl
theorem qbmo : cFn (TIof Try.prog) Try.f48 = some ⟨25, [.t 4], scOf qvw⟩ := by kernel_rfl
def qbmp (xs : List AV) : Option Bool := qj ((qk xs) 1).cells (qj ((qk xs) 0).cells (qov))
def q1v {R : Type} : List AV → (AV → Option R) → Option R := entF qbgx qbmp AV.bool
theorem qbmq {R : Type} : qc Try.prog 48 (q1v (R := R)) :=
  qba tabOk follows Try.func48 (by kernel_rfl) qbmo hdeB qbiz (qn (by kernel_rfl)) fun xs => qbmn _ _ _ _ _ _ _ _ _ _ _ _ _ _ _ _
def qyo  (v0 : List AV) (v3 : Int) (K : Ex → Env → Mem → Option Int) := (fun z_v43 => K .norm (qh [(0, (.sl 8 v0)), (3, (.int .i64 v3)), (43, (.bool z_v43))]) (qg []))
def qbaw : Shp := ⟨[(0, .one (.l (.sl 8))), (3, .one (.l (.i .i64)))], []⟩
def qri  (v0 : List AV) (v3 : Int) (kn : Bool → Option Int) : Option Int :=
  (bif (decide (v3 > (0 : Int))) then (oB (ixB v0 (IntKind.i64.wrap (v3 - (1 : Int)))) fun y1 => (bif fitC qa y1.cells then (oB (ixB v0 v3) fun y2 => (bif fitC qa y2.cells then (oB (qnw (gB y1.cells 0) (gI y1.cells 1) (gI y1.cells 2) (gI y1.cells 3) (gB y2.cells 0) (gI y2.cells 1) (gI y2.cells 2) (gI y2.cells 3)) fun r3 => (kn (decide (r3 > (0 : Int))))) else none)) else none)) else (kn false))
def qow := hull (qri)
theorem qyp : qow = qri := qi _
def qmz : AC Int :=
  .seq (.draw [] [ao 27 (.mv 3),
 ao 28 (.bin .gtr 27 (.c (.int .i64 0))),
 ao 29 (.mv 28),
 ag 30 29 true (.mv 0),
 ag 31 29 true (.mv 3),
 ag 32 29 true (.bin .sub 31 (.c (.int .i64 1))),
 ag 33 29 true (.ia 8 30 32),
 .et 33 qa,
 ag 34 29 true (.fa 0 33),
 ag 35 29 true (.load true 4 34),
 ag 36 29 true (.mv 0),
 ag 37 29 true (.mv 3),
 ag 38 29 true (.ia 8 36 37),
 .et 38 qa,
 ag 39 29 true (.fa 0 38),
 ag 40 29 true (.load true 4 39)] [.call (pg 41 29 true (.call 47 [35, 40])) 47 qzz,
 ag 42 29 true (.bin .gtr 41 (.c (.int .i64 0))),
 ao 43 (.pick 29 42 (.c (.bool false)))]) (.view [.sel [0, 3, 43] []])
theorem qbb1 : AC.ok Try.prog (TIof Try.prog) 74 0 (kret [.t 2] (decI .i64)) qmz := qm (zA (qc.ok qbiw) (zA rfl trivial))
theorem qbd5 (v0 : List AV) (v3 : Int) (K : Ex → Env → Mem → Option Int) : den 0 (kret [.t 2] (decI .i64)) qmz (qh [(0, (.sl 8 v0)), (3, (.int .i64 v3))]) (qg []) K = qow v0 v3 (qyo v0 v3 K) := by
  rw [qyp]; kernel_rfl
def qz1 := subE (R := Int) qbaw fun t m K => qow (gL [t 0] 0) (gI [t 3] 0) (qyo (gL [t 0] 0) (gI [t 3] 0) K)
theorem qbd6 : qcb Try.prog (TIof Try.prog) 74 0 (kret [.t 2] (decI .i64)) (scOf qmz) (qz1) :=
  qfa tabOk follows (qbb1) (qn (by kernel_rfl)) fun t m K => qbd5 _ _ K
def qyq  (v0 : List AV) (v3 : Int) (K : Ex → Env → Mem → Option Int) := (fun z_v59 => K .norm (qh [(0, (.sl 8 v0)), (3, (.int .i64 v3)), (59, (.bool z_v59))]) (qg []))
def qbax : Shp := ⟨[(0, .one (.l (.sl 8))), (3, .one (.l (.i .i64)))], []⟩
def qrj  (v0 : List AV) (v3 : Int) (kn : Bool → Option Int) : Option Int :=
  (bif (decide (v3 > (0 : Int))) then (oB (ixB v0 (IntKind.i64.wrap (v3 - (1 : Int)))) fun y1 => (bif fitC qa y1.cells then (oB (ixB v0 v3) fun y2 => (bif fitC qa y2.cells then (kn (((gB y1.cells 0) == (gB y2.cells 0)) && (((gI y1.cells 1) == (gI y2.cells 1)) && (((gI y1.cells 2) == (gI y2.cells 2)) && (((gI y1.cells 3) == (gI y2.cells 3)) && true))))) else none)) else none)) else (kn false))
def qox := hull (qrj)
theorem qyr : qox = qrj := qi _
def qm0 : AC Int :=
  .seq (.draw [] [ao 44 (.mv 3),
 ao 45 (.bin .gtr 44 (.c (.int .i64 0))),
 ao 46 (.mv 45),
 ag 47 46 true (.mv 0),
 ag 48 46 true (.mv 3),
 ag 49 46 true (.bin .sub 48 (.c (.int .i64 1))),
 ag 50 46 true (.ia 8 47 49),
 .et 50 qa,
 ag 51 46 true (.fa 0 50),
 ag 52 46 true (.load true 4 51),
 ag 53 46 true (.mv 0),
 ag 54 46 true (.mv 3),
 ag 55 46 true (.ia 8 53 54),
 .et 55 qa,
 ag 56 46 true (.fa 0 55),
 ag 57 46 true (.load true 4 56)] [ag 58 46 true (.eq false true [.b, (.i .u64), (.i .u64), (.i .i64)] 52 57),
 ao 59 (.pick 46 58 (.c (.bool false)))]) (.view [.sel [0, 3, 59] []])
theorem qbb2 : AC.ok Try.prog (TIof Try.prog) 74 0 (kret [.t 2] (decI .i64)) qm0 := qm (zA rfl trivial)
theorem qbd7 (v0 : List AV) (v3 : Int) (K : Ex → Env → Mem → Option Int) : den 0 (kret [.t 2] (decI .i64)) qm0 (qh [(0, (.sl 8 v0)), (3, (.int .i64 v3))]) (qg []) K = qox v0 v3 (qyq v0 v3 K) := by
  rw [qyr]; kernel_rfl
def qz2 := subE (R := Int) qbax fun t m K => qox (gL [t 0] 0) (gI [t 3] 0) (qyq (gL [t 0] 0) (gI [t 3] 0) K)
theorem qbd8 : qcb Try.prog (TIof Try.prog) 74 0 (kret [.t 2] (decI .i64)) (scOf qm0) (qz2) :=
  qfa tabOk follows (qbb2) (qn (by kernel_rfl)) fun t m K => qbd7 _ _ K
def qk9  (v0 : List AV) (v3 : Int) (K : Ex → Env → Mem → Option Int) := (fun (_ : Unit) => K (.exit 2) (qh [(0, (.sl 8 v0)), (3, (.int .i64 v3))]) (qg []))
def qbay : Shp := ⟨[(0, .one (.l (.sl 8))), (3, .one (.l (.i .i64))), (4, .one (.l (.i .i64)))], []⟩
def qqk (v0 : List AV) (v3 v4 : Int) : Env := qh [(0, (.sl 8 v0)), (3, (.int .i64 v3)), (4, (.int .i64 v4))]
def qql (v0 : List AV) (v3 v4 : Int) : Mem := qg []
def qgf  (v0 : List AV) (v3 v4 : Int) (next : Int → Option Int) (kx2 : Unit → Option Int) : Option Int :=
  (bif (decide (v4 < v3)) then (oB (ixB v0 v3) fun y1 => (bif fitC qa y1.cells then (oB (ixB v0 v4) fun y2 => (bif fitC qa y2.cells then (oB (qov (gB y1.cells 0) (gI y1.cells 1) (gI y1.cells 2) (gI y1.cells 3) (gI y1.cells 4) (gS y1.cells 5) (gS y1.cells 6) (gI y1.cells 7) (gB y2.cells 0) (gI y2.cells 1) (gI y2.cells 2) (gI y2.cells 3) (gI y2.cells 4) (gS y2.cells 5) (gS y2.cells 6) (gI y2.cells 7)) fun r3 => (bif r3 then (some (24 : Int)) else (next (IntKind.i64.wrap (v4 + (1 : Int)))))) else none)) else none)) else (kx2 ()))
def qm1  (v0 : List AV) (v3 : Int) (kx2 : Unit → Option Int) : Nat → Int → Option Int
  | 0 => (fun _ => none)
  | n + 1 => (fun v4 => qgf v0 v3 v4 (qm1 v0 v3 kx2 n) kx2)
def qlp := hull (qm1)
theorem qys : qlp = qm1 := qi _
def qgg : AC Int :=
  .seq (.seq (.reg [ao 60 (.mv 4),
 ao 61 (.mv 3),
 ao 62 (.bin .lss 60 61)]) (.cond 62 (.skip) (.seq (.view [.sel [0, 3] []]) (.exit 2)))) (.seq (.block 3 (.seq (.draw [] [ao 65 (.mv 0),
 ao 66 (.mv 3),
 ao 67 (.ia 8 65 66),
 .et 67 qa,
 ao 68 (.load true 8 67),
 ao 69 (.mv 0),
 ao 70 (.mv 4),
 ao 71 (.ia 8 69 70),
 .et 71 qa,
 ao 72 (.load true 8 71)] [.call (po 73 (.call 48 [68, 72])) 48 q1v]) (.cond 73 (.seq (.reg [ao 2 (.mv (.c (.int .i64 24)))]) (.ret)) (.skip)))) (.seq (.reg [ao 63 (.mv 4),
 ao 64 (.bin .add 63 (.c (.int .i64 1))),
 ao 4 (.mv 64)]) (.view [.sel [0, 3, 4] []])))
theorem qbb3 : AC.ok Try.prog (TIof Try.prog) 74 0 (kret [.t 2] (decI .i64)) qgg := qm (zA (qc.ok qbmq) (zA rfl trivial))
theorem qbaz (v0 : List AV) (v3 v4 : Int) (K : Ex → Env → Mem → Option Int) : den 0 (kret [.t 2] (decI .i64)) qgg (qqk v0 v3 v4) (qql v0 v3 v4) K = qgf v0 v3 v4 (fun z_v4 => K .norm (qqk v0 v3 z_v4) (qql v0 v3 z_v4)) (qk9 v0 v3 K) := by kernel_rfl
theorem qbd9 (v0 : List AV) (v3 : Int) (K : Ex → Env → Mem → Option Int) : ∀ (n : Nat) (v4 : Int), qep (den 0 (kret [.t 2] (decI .i64)) qgg) n (qqk v0 v3 v4) (qql v0 v3 v4) K = qlp v0 v3 (qk9 v0 v3 K) n v4 := by
  rw [qys]
  intro n
  induction n with
  | zero => intros; rfl
  | succ n ih =>
 intro v4
 exact (qbaz v0 v3 v4 (itK (den 0 (kret [.t 2] (decI .i64)) qgg) n K)).trans (congrArg (fun q => qgf v0 v3 v4 q (qk9 v0 v3 K)) (funext fun v4 => ih v4))
def qz3 := subE (R := Int) qbay fun t m K => qlp (gL [t 0] 0) (gI [t 3] 0) (qk9 (gL [t 0] 0) (gI [t 3] 0) K) FU (gI [t 4] 0)
theorem qbea : qcb Try.prog (TIof Try.prog) 74 0 (kret [.t 2] (decI .i64)) (.loop (scOf qgg)) (qz3) :=
  qdt tabOk follows (qbb3) (qn (by kernel_rfl)) fun t m K => qbd9 _ _ K FU _
def qla  (K : Ex → Env → Mem → Option Int) := (fun (_ : Unit) => K (.exit 0) (qh []) (qg []))
def qba0 : Shp := ⟨[(0, .one (.l (.sl 8))), (3, .one (.l (.i .i64)))], []⟩
def qqm (v0 : List AV) (v3 : Int) : Env := qh [(0, (.sl 8 v0)), (3, (.int .i64 v3))]
def qqn (v0 : List AV) (v3 : Int) : Mem := qg []
def qgh  (v0 : List AV) (v3 : Int) (next : Int → Option Int) (kx0 : Unit → Option Int) : Option Int :=
  (bif (decide (v3 < (v0.length : Int))) then (oB (ixB v0 v3) fun y1 => (bif fitC qa y1.cells then (oB (qge (gB y1.cells 0) (gI y1.cells 1) (gI y1.cells 2) (gI y1.cells 3)) fun r2 => (bif (!r2) then (some (3 : Int)) else (oB (ixB v0 v3) fun y3 => (bif fitC qa y3.cells then (oB (que (gB y3.cells 0) (gI y3.cells 1) (gI y3.cells 2) (gI y3.cells 3) (gI y3.cells 4) (gS y3.cells 5) (gS y3.cells 6) (gI y3.cells 7)) fun r4 => (bif (!r4) then (some (1 : Int)) else (qow v0 v3 (fun v43q5 => (bif v43q5 then (some (7 : Int)) else (qox v0 v3 (fun v59q6 => (bif v59q6 then (some (12 : Int)) else (qlp v0 v3 (fun (_ : Unit) => (next (IntKind.i64.wrap (v3 + (1 : Int))))) FU (0 : Int)))))))))) else none)))) else none)) else (kx0 ()))
def qm2  (v0 : List AV) (kx0 : Unit → Option Int) : Nat → Int → Option Int
  | 0 => (fun _ => none)
  | n + 1 => (fun v3 => qgh v0 v3 (qm2 v0 kx0 n) kx0)
def qoy := hull (qm2)
theorem qyt : qoy = qm2 := qi _
def qgi : AC Int :=
  .seq (.seq (.reg [ao 8 (.mv 3),
 ao 9 (.mv 0),
 ao 10 (.len false 9),
 ao 11 (.bin .lss 8 10)]) (.cond 11 (.skip) (.seq (.view [.sel [] []]) (.exit 0)))) (.seq (.block 1 (.seq (.seq (.reg [ao 14 (.mv 0),
 ao 15 (.mv 3),
 ao 16 (.ia 8 14 15),
 .st (.etac 16 qa),
 ao 17 (.fa 0 16),
 ao 18 (.load true 4 17),
 .call (po 19 (.call 45 [18])) 45 qho,
 ao 20 (.un .not 19)]) (.cond 20 (.seq (.reg [ao 2 (.mv (.c (.int .i64 3)))]) (.ret)) (.skip))) (.seq (.seq (.reg [ao 21 (.mv 0),
 ao 22 (.mv 3),
 ao 23 (.ia 8 21 22),
 .st (.etac 23 qa),
 ao 24 (.load true 8 23),
 .call (po 25 (.call 46 [24])) 46 q7s,
 ao 26 (.un .not 25)]) (.cond 26 (.seq (.reg [ao 2 (.mv (.c (.int .i64 1)))]) (.ret)) (.skip))) (.seq (.seq (.seq (.view [.sel [0, 3] []]) (.sub (scOf qmz) qz1)) (.cond 43 (.seq (.reg [ao 2 (.mv (.c (.int .i64 7)))]) (.ret)) (.skip))) (.seq (.seq (.seq (.view [.sel [0, 3] []]) (.sub (scOf qm0) qz2)) (.cond 59 (.seq (.reg [ao 2 (.mv (.c (.int .i64 12)))]) (.ret)) (.skip))) (.seq (.reg [ao 4 (.mv (.c (.int .i64 0)))]) (.block 2 (.seq (.view [.sel [0, 3, 4] []]) (.sub (.loop (scOf qgg)) qz3))))))))) (.seq (.reg [ao 12 (.mv 3),
 ao 13 (.bin .add 12 (.c (.int .i64 1))),
 ao 3 (.mv 13)]) (.view [.sel [0, 3] []])))
theorem qbb4 : AC.ok Try.prog (TIof Try.prog) 74 0 (kret [.t 2] (decI .i64)) qgi := qm (zA (qc.ok qns) (zA (qc.ok qbvj) (zA qbd6 (zA qbd8 (zA qbea trivial)))))
theorem qba1 (v0 : List AV) (v3 : Int) (K : Ex → Env → Mem → Option Int) : den 0 (kret [.t 2] (decI .i64)) qgi (qqm v0 v3) (qqn v0 v3) K = qgh v0 v3 (fun z_v3 => K .norm (qqm v0 z_v3) (qqn v0 z_v3)) (qla K) := by kernel_rfl
theorem qbeb (v0 : List AV) (K : Ex → Env → Mem → Option Int) : ∀ (n : Nat) (v3 : Int), qep (den 0 (kret [.t 2] (decI .i64)) qgi) n (qqm v0 v3) (qqn v0 v3) K = qoy v0 (qla K) n v3 := by
  rw [qyt]
  intro n
  induction n with
  | zero => intros; rfl
  | succ n ih =>
 intro v3
 exact (qba1 v0 v3 (itK (den 0 (kret [.t 2] (decI .i64)) qgi) n K)).trans (congrArg (fun q => qgh v0 v3 q (qla K)) (funext fun v3 => ih v3))
def qz4 := subE (R := Int) qba0 fun t m K => qoy (gL [t 0] 0) (qla K) FU (gI [t 3] 0)
theorem qbec : qcb Try.prog (TIof Try.prog) 74 0 (kret [.t 2] (decI .i64)) (.loop (scOf qgi)) (qz4) :=
  qdt tabOk follows (qbb4) (qn (by kernel_rfl)) fun t m K => qbeb _ K FU _
def qbi0 : Shp := ⟨[(0, .one (.l (.sl 8)))], []⟩
def qx4 (v0 : List AV) : Option Int :=
  (bif (decide ((v0.length : Int) > (512 : Int))) then (some (9 : Int)) else (qoy v0 (fun (_ : Unit) => (some (0 : Int))) FU (0 : Int)))
def qqo := hull qx4
theorem q50 : qqo = qx4 := qi _
def qx5 : AC Int :=
  .seq (.reg [ao 2 (.mv (.c (.int .i64 0)))]) (.seq (.seq (.reg [ao 5 (.mv 0),
 ao 6 (.len false 5),
 ao 7 (.bin .gtr 6 (.c (.int .i64 512)))]) (.cond 7 (.seq (.reg [ao 2 (.mv (.c (.int .i64 9)))]) (.ret)) (.skip))) (.seq (.seq (.reg [ao 3 (.mv (.c (.int .i64 0)))]) (.block 0 (.seq (.view [.sel [0, 3] []]) (.sub (.loop (scOf qgi)) qz4)))) (.seq (.reg [ao 2 (.mv (.c (.int .i64 0)))]) (.ret))))
theorem qbmr : AC.ok Try.prog (TIof Try.prog) 74 0 (kret [.t 2] (decI .i64)) qx5 := qm (zA qbec trivial)
theorem qbp1 (v0 : List AV) : den 0 (kret [.t 2] (decI .i64)) qx5 (qh [(0, (.sl 8 v0))]) (qg []) (kend (kret [.t 2] (decI .i64))) = qqo v0 := by
  rw [q50]; kernel_rfl
theorem qbp2 : cFn (TIof Try.prog) Try.f12 = some ⟨74, [.t 2], scOf qx5⟩ := by kernel_rfl
def qbp3 (xs : List AV) : Option Int := qqo (gL [(qk xs) 0] 0)
def q34 {R : Type} : List AV → (AV → Option R) → Option R := entF qbi0 qbp3 (AV.int .i64)
theorem qbp4 {R : Type} : qc Try.prog 12 (q34 (R := R)) :=
  qba tabOk follows Try.func12 (by kernel_rfl) qbp2 hdeI qbmr (qn (by kernel_rfl)) fun xs => qbp1 _
def qbsc : Shp := ⟨[(0, .one (.l (.i .u64))), (1, .one (.l (.i .i64)))], []⟩
def qbf4 (v0 v1 : Int) : Option AV :=
  (some (.agg [(.bool false), (.int .u64 (0 : Int)), (.int .u64 v0), (.int .i64 v1)]))
def qpo := hull qbf4
theorem qbb5 : qpo = qbf4 := qi _
def q49 : AC AV :=
  .seq (.reg [ao 4 (.alloc [(.bool false), (.int .u64 0), (.int .u64 0), (.int .i64 0)])]) (.seq (.reg [ao 5 (.mv 0),
 ao 6 (.build [(.bool false), (.int .u64 0), (.int .u64 0)] [(2, (1, 5))]),
 ao 7 (.mv 1),
 ao 8 (.build [(.bool false), (.int .u64 0), (.int .u64 0), (.int .i64 0)] [(0, (3, 6)), (3, (1, 7))]),
 an (.store 4 4 8)]) (.ret))
theorem qbvm : AC.ok Try.prog (TIof Try.prog) 9 0 (kret [(.cell 4 true 4)] (decT [.b, (.i .u64), (.i .u64), (.i .i64)])) q49 := qm trivial
theorem qbx7 (v0 v1 : Int) : den 0 (kret [(.cell 4 true 4)] (decT [.b, (.i .u64), (.i .u64), (.i .i64)])) q49 (qh [(0, (.int .u64 v0)), (1, (.int .i64 v1))]) (qg []) (kend (kret [(.cell 4 true 4)] (decT [.b, (.i .u64), (.i .u64), (.i .i64)]))) = qpo v0 v1 := by
  rw [qbb5]; kernel_rfl
theorem qbx8 : cFn (TIof Try.prog) Try.f87 = some ⟨9, [(.cell 4 true 4)], scOf q49⟩ := by kernel_rfl
def qbx9 (xs : List AV) : Option AV := qpo (gI [(qk xs) 0] 0) (gI [(qk xs) 1] 0)
def qtk {R : Type} : List AV → (AV → Option R) → Option R := entF qbsc qbx9 (qll (.st [.b, (.i .u64), (.i .u64), (.i .i64)]))
theorem q5a {R : Type} : qc Try.prog 87 (qtk (R := R)) :=
  qba tabOk follows Try.func87 (by kernel_rfl) qbx8 hdeT qbvm (qn (by kernel_rfl)) fun xs => qbx7 _ _
def qbed : Shp := ⟨[], []⟩
def quj : Option (List AV) :=
  (oB (qpo (167772160 : Int) (8 : Int)) fun r1 => (oB (qpo (167772160 : Int) (24 : Int)) fun r2 => (oB (qpo (167772165 : Int) (32 : Int)) fun r3 => (bif hd ([(.agg [(.bool (gB r1.cells 0)), (.int .u64 (gI r1.cells 1)), (.int .u64 (gI r1.cells 2)), (.int .i64 (gI r1.cells 3)), (.int .i64 (1 : Int)), (.str ([97, 108, 108] : List UInt8)), (.str ([] : List UInt8)), (.int .i64 (0 : Int))]), (.agg [(.bool (gB r2.cells 0)), (.int .u64 (gI r2.cells 1)), (.int .u64 (gI r2.cells 2)), (.int .i64 (gI r2.cells 3)), (.int .i64 (2 : Int)), (.str ([110, 101, 116] : List UInt8)), (.str ([] : List UInt8)), (.int .i64 (0 : Int))]), (.agg [(.bool (gB r3.cells 0)), (.int .u64 (gI r3.cells 1)), (.int .u64 (gI r3.cells 2)), (.int .i64 (gI r3.cells 3)), (.int .i64 (3 : Int)), (.str ([104, 111, 115, 116] : List UInt8)), (.str ([] : List UInt8)), (.int .i64 (0 : Int))])] : List AV) (([(.agg [(.bool (gB r1.cells 0)), (.int .u64 (gI r1.cells 1)), (.int .u64 (gI r1.cells 2)), (.int .i64 (gI r1.cells 3)), (.int .i64 (1 : Int)), (.str ([97, 108, 108] : List UInt8)), (.str ([] : List UInt8)), (.int .i64 (0 : Int))]), (.agg [(.bool (gB r2.cells 0)), (.int .u64 (gI r2.cells 1)), (.int .u64 (gI r2.cells 2)), (.int .i64 (gI r2.cells 3)), (.int .i64 (2 : Int)), (.str ([110, 101, 116] : List UInt8)), (.str ([] : List UInt8)), (.int .i64 (0 : Int))]), (.agg [(.bool (gB r3.cells 0)), (.int .u64 (gI r3.cells 1)), (.int .u64 (gI r3.cells 2)), (.int .i64 (gI r3.cells 3)), (.int .i64 (3 : Int)), (.str ([104, 111, 115, 116] : List UInt8)), (.str ([] : List UInt8)), (.int .i64 (0 : Int))])] : List AV).length) then (some ([(.agg [(.bool (gB r1.cells 0)), (.int .u64 (gI r1.cells 1)), (.int .u64 (gI r1.cells 2)), (.int .i64 (gI r1.cells 3)), (.int .i64 (1 : Int)), (.str ([97, 108, 108] : List UInt8)), (.str ([] : List UInt8)), (.int .i64 (0 : Int))]), (.agg [(.bool (gB r2.cells 0)), (.int .u64 (gI r2.cells 1)), (.int .u64 (gI r2.cells 2)), (.int .i64 (gI r2.cells 3)), (.int .i64 (2 : Int)), (.str ([110, 101, 116] : List UInt8)), (.str ([] : List UInt8)), (.int .i64 (0 : Int))]), (.agg [(.bool (gB r3.cells 0)), (.int .u64 (gI r3.cells 1)), (.int .u64 (gI r3.cells 2)), (.int .i64 (gI r3.cells 3)), (.int .i64 (3 : Int)), (.str ([104, 111, 115, 116] : List UInt8)), (.str ([] : List UInt8)), (.int .i64 (0 : Int))])] : List AV)) else none))))
def qnx := hull quj
theorem q1w : qnx = quj := qi _
def quk : AC (List AV) :=
  .seq (.reg [ao 0 (.mv (.c .nils))]) (.seq (.reg [.call (po 1 (.call 87 [(.c (.int .u64 167772160)), (.c (.int .i64 8))])) 87 qtk,
 ao 2 (.build [(.bool false), (.int .u64 0), (.int .u64 0), (.int .i64 0), (.int .i64 0), (.str []), (.str []), (.int .i64 0)] [(0, (4, 1)), (4, (1, (.c (.int .i64 1)))), (5, (1, (.c (.str [97, 108, 108]))))]),
 .call (po 3 (.call 87 [(.c (.int .u64 167772160)), (.c (.int .i64 24))])) 87 qtk,
 ao 4 (.build [(.bool false), (.int .u64 0), (.int .u64 0), (.int .i64 0), (.int .i64 0), (.str []), (.str []), (.int .i64 0)] [(0, (4, 3)), (4, (1, (.c (.int .i64 2)))), (5, (1, (.c (.str [110, 101, 116]))))]),
 .call (po 5 (.call 87 [(.c (.int .u64 167772165)), (.c (.int .i64 32))])) 87 qtk,
 ao 6 (.build [(.bool false), (.int .u64 0), (.int .u64 0), (.int .i64 0), (.int .i64 0), (.str []), (.str []), (.int .i64 0)] [(0, (4, 5)), (4, (1, (.c (.int .i64 3)))), (5, (1, (.c (.str [104, 111, 115, 116]))))]),
 ao 7 (.bsl 8 [2, 4, 6]),
 ao 0 (.mv 7)]) (.ret))
theorem qbgy : AC.ok Try.prog (TIof Try.prog) 8 0 (kret [.t 0] (decF true 8)) quk := qm (zA (qc.ok q5a) (zA (qc.ok q5a) (zA (qc.ok q5a) trivial)))
theorem qbi1 : den 0 (kret [.t 0] (decF true 8)) quk (qh []) (qg []) (kend (kret [.t 0] (decF true 8))) = qnx := by
  rw [q1w]; kernel_rfl
theorem qbi2 : cFn (TIof Try.prog) Try.f49 = some ⟨8, [.t 0], scOf quk⟩ := by kernel_rfl
def qbi3 (xs : List AV) : Option (List AV) := qnx
def qz5 {R : Type} : List AV → (AV → Option R) → Option R := entF qbed qbi3 (AV.fr true 8)
theorem qbi4 {R : Type} : qc Try.prog 49 (qz5 (R := R)) :=
  qba tabOk follows Try.func49 (by kernel_rfl) qbi2 hdeF qbgy (qn (by kernel_rfl)) fun xs => qbi1
def qbi5 : Shp := ⟨[(0, .st (lk qa)), (1, .one (.ptr 0 0))], [.box true (lk qf)]⟩
def q51 {R : Type} (KK : AV → Mem → Option R) := (fun v3 Ai Aj Ak Al => KK (.bool v3) (qg [(some (.box true [(.bool Ai), (.int .u64 Aj), (.int .u64 Ak), (.int .i64 Al)]))]))
def qx6 {R : Type}  (Aa : Bool) (Ab Ac Ad Ae : Int) (Af Ag : List UInt8) (Ah : Int) (Ai : Bool) (Aj Ak Al : Int) (kr : Bool → Bool → Int → Int → Int → Option R) : Option R :=
  (kr ((Aa == Ai) && ((Ab == Aj) && ((Ac == Ak) && ((Ad == Al) && true)))) Ai Aj Ak Al)
def qu8 {R : Type} := hull (qx6 (R := R))
theorem q52 {R : Type} : qu8 (R := R) = qx6 := qi _
def qkv {R : Type} (KK : AV → Mem → Option R) : AC R :=
  .seq (.reg [ao 2 (.box 0),
 ao 3 (.mv (.c (.bool false)))]) (.seq (.reg [ao 4 (.fa 0 2),
 ao 5 (.load true 4 4),
 ao 6 (.load true 4 1),
 ao 7 (.eq false true [.b, (.i .u64), (.i .u64), (.i .i64)] 5 6),
 ao 3 (.mv 7)]) (.seq (.view [.sel [3] [0]]) (.ret)))
theorem qbms {R : Type} (KK : AV → Mem → Option R) : AC.ok Try.prog (TIof Try.prog) 8 1 (qp [.t 3] KK) (qkv KK) := qm trivial
theorem qbp5 {R : Type} (KK : AV → Mem → Option R) (Aa : Bool) (Ab Ac Ad Ae : Int) (Af Ag : List UInt8) (Ah : Int) (Ai : Bool) (Aj Ak Al : Int) : den 1 (qp [.t 3] KK) (qkv KK) (qh [(0, .agg (qd Aa Ab Ac Ad Ae Af Ag Ah)), (1, (.ptr 0 0))]) (qg [(some (.box true (qb Ai Aj Ak Al)))]) (kend (qp [.t 3] KK)) = qu8 Aa Ab Ac Ad Ae Af Ag Ah Ai Aj Ak Al (q51 KK) := by
  rw [q52]; kernel_rfl
theorem qbp6 : cFn (TIof Try.prog) Try.f89 = some ⟨8, [.t 3], scOf (qkv (R := Unit) (fun _ _ => none))⟩ := by kernel_rfl
theorem qbp7 {R : Type} (KK : AV → Mem → Option R) : (qkv KK).er = some (scOf (qkv (R := Unit) (fun _ _ => none))) := by kernel_rfl
def q7v {R : Type} : List AV → Mem → (AV → Mem → Option R) → Option R := refE qbi5 fun xs m KK => qe (bxC (m.s 0)) (qj ((qk xs) 0).cells (qu8)) (q51 KK)
theorem qbp8 {R : Type} : qfx Try.prog 89 (q7v (R := R)) :=
  qly (ac := fun KK => qkv KK) tabOk follows Try.func89 (by kernel_rfl) qbp6 (fun KK => qbms KK) (fun KK => qbp7 KK) rfl fun xs m KK => qbp5 KK _ _ _ _ _ _ _ _ _ _ _ _
def qb9 {R : Type}  (K : Ex → Env → Mem → Option R) := (fun z_b0_0 z_b0_1 z_b0_2 z_b0_3 => K (.exit 0) (qh []) (qg [(some (.box true (qb z_b0_0 z_b0_1 z_b0_2 z_b0_3)))]))
def qcc {R : Type} (KK : AV → Mem → Option R) := (fun v4 Ai Aj Ak Al => KK (.int .i64 v4) (qg [(some (.box true [(.bool Ai), (.int .u64 Aj), (.int .u64 Ak), (.int .i64 Al)]))]))
def qjn : Shp := ⟨[(0, .one (.l (.sl 8))), (1, .one (.fn 89 [(0, 0)])), (7, .one (.l (.i .i64))), (8, .one (.l (.i .i64)))], [.box true (lk qf)]⟩
def qc6 (v0 : List AV) (v7 v8 : Int) (Ai : Bool) (Aj Ak Al : Int) : Env := qh [(0, (.sl 8 v0)), (1, (.func 89 [(.ptr 0 0)])), (7, (.int .i64 v7)), (8, (.int .i64 v8))]
def qc7 (v0 : List AV) (v7 v8 : Int) (Ai : Bool) (Aj Ak Al : Int) : Mem := qg [(some (.box true (qb Ai Aj Ak Al)))]
def qbg {R : Type}  (v0 : List AV) (v7 v8 : Int) (Ai : Bool) (Aj Ak Al : Int) (next : Int → Bool → Int → Int → Int → Option R) (kx0 : Bool → Int → Int → Int → Option R) (kr : Int → Bool → Int → Int → Int → Option R) : Option R :=
  (bif (decide (v8 < v7)) then (oB (ixB v0 v8) fun y1 => (bif fitC qa y1.cells then (qu8 (gB y1.cells 0) (gI y1.cells 1) (gI y1.cells 2) (gI y1.cells 3) (gI y1.cells 4) (gS y1.cells 5) (gS y1.cells 6) (gI y1.cells 7) Ai Aj Ak Al fun v3q2 b0_0q3 b0_1q4 b0_2q5 b0_3q6 => (bif v3q2 then (kr v8 b0_0q3 b0_1q4 b0_2q5 b0_3q6) else (next (IntKind.i64.wrap (v8 + (1 : Int))) b0_0q3 b0_1q4 b0_2q5 b0_3q6))) else none)) else (kx0 Ai Aj Ak Al))
def qcg {R : Type}  (v0 : List AV) (v7 : Int) (kx0 : Bool → Int → Int → Int → Option R) (kr : Int → Bool → Int → Int → Int → Option R) : Nat → Int → Bool → Int → Int → Int → Option R
  | 0 => (fun _ _ _ _ _ => none)
  | n + 1 => (fun v8 Ai Aj Ak Al => qbg v0 v7 v8 Ai Aj Ak Al (qcg v0 v7 kx0 kr n) kx0 kr)
def qci {R : Type} := hull (qcg (R := R))
theorem qes {R : Type} : qci (R := R) = qcg := qi _
def qbh {R : Type} (KK : AV → Mem → Option R) : AC R :=
  .seq (.reg [ao 9 (.bin .lss 8 7)]) (.seq (.cond 9 (.skip) (.seq (.view [.sel [] [0]]) (.exit 0))) (.seq (.block 1 (.seq (.reg [ao 10 (.mv 8),
 ao 5 (.mv 10)]) (.seq (.reg [ao 11 (.mv 1),
 ao 12 (.mv 0),
 ao 13 (.mv 5),
 ao 14 (.ia 8 12 13),
 .st (.etac 14 qa),
 ao 15 (.load true 8 14),
 .st (.sel [0, 1, 5, 7, 8, 11, 15] [0]),
 .callr (po 16 (.callv 11 [15])) 89 q7v]) (.cond 16 (.seq (.reg [ao 17 (.mv 5),
 ao 4 (.mv 17)]) (.seq (.view [.sel [4] [0]]) (.ret))) (.skip))))) (.seq (.reg [ao 18 (.bin .add 8 (.c (.int .i64 1))),
 ao 8 (.mv 18)]) (.view [.sel [0, 1, 7, 8] [0]]))))
theorem qj3 {R : Type} (KK : AV → Mem → Option R) : AC.ok Try.prog (TIof Try.prog) 19 1 (qp [.t 4] KK) (qbh KK) := qm (zA qbp8 trivial)
theorem qjo {R : Type} (KK : AV → Mem → Option R) (v0 : List AV) (v7 v8 : Int) (Ai : Bool) (Aj Ak Al : Int) (K : Ex → Env → Mem → Option R) : den 1 (qp [.t 4] KK) (qbh KK) (qc6 v0 v7 v8 Ai Aj Ak Al) (qc7 v0 v7 v8 Ai Aj Ak Al) K = qbg v0 v7 v8 Ai Aj Ak Al (fun z_v8 z_b0_0 z_b0_1 z_b0_2 z_b0_3 => K .norm (qc6 v0 v7 z_v8 z_b0_0 z_b0_1 z_b0_2 z_b0_3) (qc7 v0 v7 z_v8 z_b0_0 z_b0_1 z_b0_2 z_b0_3)) (qb9 K) (qcc KK) := by kernel_rfl
theorem qkd {R : Type} (KK : AV → Mem → Option R) (v0 : List AV) (v7 : Int) (K : Ex → Env → Mem → Option R) : ∀ (n : Nat) (v8 : Int) (Ai : Bool) (Aj Ak Al : Int), qep (den 1 (qp [.t 4] KK) (qbh KK)) n (qc6 v0 v7 v8 Ai Aj Ak Al) (qc7 v0 v7 v8 Ai Aj Ak Al) K = qci v0 v7 (qb9 K) (qcc KK) n v8 Ai Aj Ak Al := by
  rw [qes]
  intro n
  induction n with
  | zero => intros; rfl
  | succ n ih =>
 intro v8 Ai Aj Ak Al
 exact (qjo KK v0 v7 v8 Ai Aj Ak Al (itK (den 1 (qp [.t 4] KK) (qbh KK)) n K)).trans (congrArg (fun q => qbg v0 v7 v8 Ai Aj Ak Al q (qb9 K) (qcc KK)) (funext fun v8 => funext fun Ai => funext fun Aj => funext fun Ak => funext fun Al => ih v8 Ai Aj Ak Al))
def qex {R : Type} (KK : AV → Mem → Option R) := subE (R := R) qjn fun t m K => qe (bxC (m.s 0)) (qci (gL [t 0] 0) (gI [t 7] 0) (qb9 K) (qcc KK) FU (gI [t 8] 0))
theorem qke {R : Type} (KK : AV → Mem → Option R) : qcb Try.prog (TIof Try.prog) 19 1 (qp [.t 4] KK) (.loop (scOf (qbh KK))) (qex KK) :=
  qdt tabOk follows (qj3 KK) (qn (by kernel_rfl)) fun t m K => qkd KK _ _ K FU _ _ _ _ _
def qkw : Shp := ⟨[(0, .one (.l (.sl 8))), (1, .one (.fn 89 [(0, 0)]))], [.box true (lk qf)]⟩
def qe5 {R : Type} (KK : AV → Mem → Option R) := (fun v4 Ai Aj Ak Al => KK (.int .i64 v4) (qg [(some (.box true [(.bool Ai), (.int .u64 Aj), (.int .u64 Ak), (.int .i64 Al)]))]))
def qdi {R : Type}  (v0 : List AV) (Ai : Bool) (Aj Ak Al : Int) (kr : Int → Bool → Int → Int → Int → Option R) : Option R :=
  (qci v0 (v0.length : Int) (fun b0_0q1 b0_1q2 b0_2q3 b0_3q4 => (kr (-1 : Int) b0_0q1 b0_1q2 b0_2q3 b0_3q4)) kr FU (0 : Int) Ai Aj Ak Al)
def qck {R : Type} := hull (qdi (R := R))
theorem qe6 {R : Type} : qck (R := R) = qdi := qi _
def qbl {R : Type} (KK : AV → Mem → Option R) : AC R :=
  .seq (.reg [ao 4 (.mv (.c (.int .i64 0)))]) (.seq (.seq (.reg [ao 6 (.mv 0),
 ao 7 (.len false 6),
 ao 8 (.mv (.c (.int .i64 0)))]) (.block 0 (.seq (.view [.sel [0, 1, 7, 8] [0]]) (.sub (.loop (scOf (qbh KK))) (qex KK))))) (.seq (.reg [ao 4 (.mv (.c (.int .i64 (-1))))]) (.seq (.view [.sel [4] [0]]) (.ret))))
theorem qlb {R : Type} (KK : AV → Mem → Option R) : AC.ok Try.prog (TIof Try.prog) 19 1 (qp [.t 4] KK) (qbl KK) := qm (zA (qke KK) trivial)
theorem qlq {R : Type} (KK : AV → Mem → Option R) (v0 : List AV) (Ai : Bool) (Aj Ak Al : Int) : den 1 (qp [.t 4] KK) (qbl KK) (qh [(0, (.sl 8 v0)), (1, (.func 89 [(.ptr 0 0)]))]) (qg [(some (.box true (qb Ai Aj Ak Al)))]) (kend (qp [.t 4] KK)) = qck v0 Ai Aj Ak Al (qe5 KK) := by
  rw [qe6]; kernel_rfl
theorem qlr : cFn (TIof Try.prog) Try.f88 = some ⟨19, [.t 4], scOf (qbl (R := Unit) (fun _ _ => none))⟩ := by kernel_rfl
theorem qls {R : Type} (KK : AV → Mem → Option R) : (qbl KK).er = some (scOf (qbl (R := Unit) (fun _ _ => none))) := by kernel_rfl
def qe9 {R : Type} : List AV → Mem → (AV → Mem → Option R) → Option R := refE qkw fun xs m KK => qe (bxC (m.s 0)) (qck (gL [(qk xs) 0] 0)) (qe5 KK)
theorem qlt {R : Type} : qfx Try.prog 88 (qe9 (R := R)) :=
  qly (ac := fun KK => qbl KK) tabOk follows Try.func88 (by kernel_rfl) qlr (fun KK => qlb KK) (fun KK => qls KK) rfl fun xs m KK => qlq KK _ _ _ _ _
def qbp9 : Shp := ⟨[(0, .one (.l (.sl 8))), (1, .st (lk qf))], []⟩
def q2w (v0 : List AV) (Aq : Bool) (Ar As At : Int) : Option Int :=
  (qck v0 Aq Ar As At fun v4q1 b0_0q2 b0_1q3 b0_2q4 b0_3q5 => (some v4q1))
def qf1 := hull q2w
theorem q90 : qf1 = q2w := qi _
def q2x : AC Int :=
  .seq (.reg [ao 3 (.box 1),
 ao 4 (.mv (.c (.int .i64 0)))]) (.seq (.reg [ao 5 (.mv 0),
 ao 6 (.mkf 89 [3]),
 .st (.sel [5, 6] [0]),
 .callr (po 7 (.call 88 [5, 6])) 88 qe9,
 ao 4 (.mv 7)]) (.ret))
theorem qbsd : AC.ok Try.prog (TIof Try.prog) 8 0 (kret [.t 4] (decI .i64)) q2x := qm (zA qlt trivial)
theorem qbvn (v0 : List AV) (Aq : Bool) (Ar As At : Int) : den 0 (kret [.t 4] (decI .i64)) q2x (qh [(0, (.sl 8 v0)), (1, .agg (qb Aq Ar As At))]) (qg []) (kend (kret [.t 4] (decI .i64))) = qf1 v0 Aq Ar As At := by
  rw [q90]; kernel_rfl
theorem qbvo : cFn (TIof Try.prog) Try.f51 = some ⟨8, [.t 4], scOf q2x⟩ := by kernel_rfl
def qbvp (xs : List AV) : Option Int := qe ((qk xs) 1).cells (qf1 (gL [(qk xs) 0] 0))
def qf2 {R : Type} : List AV → (AV → Option R) → Option R := entF qbp9 qbvp (AV.int .i64)
theorem qkx {R : Type} : qc Try.prog 51 (qf2 (R := R)) :=
  qba tabOk follows Try.func51 (by kernel_rfl) qbvo hdeI qbsd (qn (by kernel_rfl)) fun xs => qbvn _ _ _ _ _
def qbb6 : Shp := ⟨[(0, .st (lk qa)), (1, .one (.ptr 0 0))], [.box true (lk qf)]⟩
def qz6 {R : Type} (KK : AV → Mem → Option R) := (fun v3 Ai Aj Ak Al => KK (.bool v3) (qg [(some (.box true [(.bool Ai), (.int .u64 Aj), (.int .u64 Ak), (.int .i64 Al)]))]))
def qsz {R : Type}  (Aa : Bool) (Ab Ac Ad Ae : Int) (Af Ag : List UInt8) (Ah : Int) (Ai : Bool) (Aj Ak Al : Int) (kr : Bool → Bool → Int → Int → Int → Option R) : Option R :=
  (oB (qg4 Aa Ab Ac Ad Ai Aj Ak Al) fun r1 => (kr r1 Ai Aj Ak Al))
def qmn {R : Type} := hull (qsz (R := R))
theorem qz7 {R : Type} : qmn (R := R) = qsz := qi _
def qgy {R : Type} (KK : AV → Mem → Option R) : AC R :=
  .seq (.reg [ao 2 (.box 0),
 ao 3 (.mv (.c (.bool false)))]) (.seq (.reg [ao 4 (.fa 0 2),
 ao 5 (.load true 4 4),
 ao 6 (.load true 4 1),
 .call (po 7 (.call 64 [5, 6])) 64 qgt,
 ao 3 (.mv 7)]) (.seq (.view [.sel [3] [0]]) (.ret)))
theorem qbee {R : Type} (KK : AV → Mem → Option R) : AC.ok Try.prog (TIof Try.prog) 8 1 (qp [.t 3] KK) (qgy KK) := qm (zA (qc.ok qme) trivial)
theorem qbgz {R : Type} (KK : AV → Mem → Option R) (Aa : Bool) (Ab Ac Ad Ae : Int) (Af Ag : List UInt8) (Ah : Int) (Ai : Bool) (Aj Ak Al : Int) : den 1 (qp [.t 3] KK) (qgy KK) (qh [(0, .agg (qd Aa Ab Ac Ad Ae Af Ag Ah)), (1, (.ptr 0 0))]) (qg [(some (.box true (qb Ai Aj Ak Al)))]) (kend (qp [.t 3] KK)) = qmn Aa Ab Ac Ad Ae Af Ag Ah Ai Aj Ak Al (qz6 KK) := by
  rw [qz7]; kernel_rfl
theorem qbg0 : cFn (TIof Try.prog) Try.f90 = some ⟨8, [.t 3], scOf (qgy (R := Unit) (fun _ _ => none))⟩ := by kernel_rfl
theorem qbg1 {R : Type} (KK : AV → Mem → Option R) : (qgy KK).er = some (scOf (qgy (R := Unit) (fun _ _ => none))) := by kernel_rfl
def q1x {R : Type} : List AV → Mem → (AV → Mem → Option R) → Option R := refE qbb6 fun xs m KK => qe (bxC (m.s 0)) (qj ((qk xs) 0).cells (qmn)) (qz6 KK)
theorem qbg2 {R : Type} : qfx Try.prog 90 (q1x (R := R)) :=
  qly (ac := fun KK => qgy KK) tabOk follows Try.func90 (by kernel_rfl) qbg0 (fun KK => qbee KK) (fun KK => qbg1 KK) rfl fun xs m KK => qbgz KK _ _ _ _ _ _ _ _ _ _ _ _
def qbw {R : Type}  (K : Ex → Env → Mem → Option R) := (fun z_b0_0 z_b0_1 z_b0_2 z_b0_3 => K (.exit 0) (qh []) (qg [(some (.box true (qb z_b0_0 z_b0_1 z_b0_2 z_b0_3)))]))
def qb0 {R : Type} (KK : AV → Mem → Option R) := (fun v4 Ai Aj Ak Al => KK (.int .i64 v4) (qg [(some (.box true [(.bool Ai), (.int .u64 Aj), (.int .u64 Ak), (.int .i64 Al)]))]))
def qh8 : Shp := ⟨[(0, .one (.l (.sl 8))), (1, .one (.fn 90 [(0, 0)])), (7, .one (.l (.i .i64))), (8, .one (.l (.i .i64)))], [.box true (lk qf)]⟩
def qcw (v0 : List AV) (v7 v8 : Int) (Ai : Bool) (Aj Ak Al : Int) : Env := qh [(0, (.sl 8 v0)), (1, (.func 90 [(.ptr 0 0)])), (7, (.int .i64 v7)), (8, (.int .i64 v8))]
def qcx (v0 : List AV) (v7 v8 : Int) (Ai : Bool) (Aj Ak Al : Int) : Mem := qg [(some (.box true (qb Ai Aj Ak Al)))]
def qz {R : Type}  (v0 : List AV) (v7 v8 : Int) (Ai : Bool) (Aj Ak Al : Int) (next : Int → Bool → Int → Int → Int → Option R) (kx0 : Bool → Int → Int → Int → Option R) (kr : Int → Bool → Int → Int → Int → Option R) : Option R :=
  (bif (decide (v8 < v7)) then (oB (ixB v0 v8) fun y1 => (bif fitC qa y1.cells then (qmn (gB y1.cells 0) (gI y1.cells 1) (gI y1.cells 2) (gI y1.cells 3) (gI y1.cells 4) (gS y1.cells 5) (gS y1.cells 6) (gI y1.cells 7) Ai Aj Ak Al fun v3q2 b0_0q3 b0_1q4 b0_2q5 b0_3q6 => (bif v3q2 then (kr v8 b0_0q3 b0_1q4 b0_2q5 b0_3q6) else (next (IntKind.i64.wrap (v8 + (1 : Int))) b0_0q3 b0_1q4 b0_2q5 b0_3q6))) else none)) else (kx0 Ai Aj Ak Al))
def qb1 {R : Type}  (v0 : List AV) (v7 : Int) (kx0 : Bool → Int → Int → Int → Option R) (kr : Int → Bool → Int → Int → Int → Option R) : Nat → Int → Bool → Int → Int → Int → Option R
  | 0 => (fun _ _ _ _ _ => none)
  | n + 1 => (fun v8 Ai Aj Ak Al => qz v0 v7 v8 Ai Aj Ak Al (qb1 v0 v7 kx0 kr n) kx0 kr)
def qcd {R : Type} := hull (qb1 (R := R))
theorem qd5 {R : Type} : qcd (R := R) = qb1 := qi _
def q8 {R : Type} (KK : AV → Mem → Option R) : AC R :=
  .seq (.reg [ao 9 (.bin .lss 8 7)]) (.seq (.cond 9 (.skip) (.seq (.view [.sel [] [0]]) (.exit 0))) (.seq (.block 1 (.seq (.reg [ao 10 (.mv 8),
 ao 5 (.mv 10)]) (.seq (.reg [ao 11 (.mv 1),
 ao 12 (.mv 0),
 ao 13 (.mv 5),
 ao 14 (.ia 8 12 13),
 .st (.etac 14 qa),
 ao 15 (.load true 8 14),
 .st (.sel [0, 1, 5, 7, 8, 11, 15] [0]),
 .callr (po 16 (.callv 11 [15])) 90 q1x]) (.cond 16 (.seq (.reg [ao 17 (.mv 5),
 ao 4 (.mv 17)]) (.seq (.view [.sel [4] [0]]) (.ret))) (.skip))))) (.seq (.reg [ao 18 (.bin .add 8 (.c (.int .i64 1))),
 ao 8 (.mv 18)]) (.view [.sel [0, 1, 7, 8] [0]]))))
theorem qin {R : Type} (KK : AV → Mem → Option R) : AC.ok Try.prog (TIof Try.prog) 19 1 (qp [.t 4] KK) (q8 KK) := qm (zA qbg2 trivial)
theorem qh9 {R : Type} (KK : AV → Mem → Option R) (v0 : List AV) (v7 v8 : Int) (Ai : Bool) (Aj Ak Al : Int) (K : Ex → Env → Mem → Option R) : den 1 (qp [.t 4] KK) (q8 KK) (qcw v0 v7 v8 Ai Aj Ak Al) (qcx v0 v7 v8 Ai Aj Ak Al) K = qz v0 v7 v8 Ai Aj Ak Al (fun z_v8 z_b0_0 z_b0_1 z_b0_2 z_b0_3 => K .norm (qcw v0 v7 z_v8 z_b0_0 z_b0_1 z_b0_2 z_b0_3) (qcx v0 v7 z_v8 z_b0_0 z_b0_1 z_b0_2 z_b0_3)) (qbw K) (qb0 KK) := by kernel_rfl
theorem qir {R : Type} (KK : AV → Mem → Option R) (v0 : List AV) (v7 : Int) (K : Ex → Env → Mem → Option R) : ∀ (n : Nat) (v8 : Int) (Ai : Bool) (Aj Ak Al : Int), qep (den 1 (qp [.t 4] KK) (q8 KK)) n (qcw v0 v7 v8 Ai Aj Ak Al) (qcx v0 v7 v8 Ai Aj Ak Al) K = qcd v0 v7 (qbw K) (qb0 KK) n v8 Ai Aj Ak Al := by
  rw [qd5]
  intro n
  induction n with
  | zero => intros; rfl
  | succ n ih =>
 intro v8 Ai Aj Ak Al
 exact (qh9 KK v0 v7 v8 Ai Aj Ak Al (itK (den 1 (qp [.t 4] KK) (q8 KK)) n K)).trans (congrArg (fun q => qz v0 v7 v8 Ai Aj Ak Al q (qbw K) (qb0 KK)) (funext fun v8 => funext fun Ai => funext fun Aj => funext fun Ak => funext fun Al => ih v8 Ai Aj Ak Al))
def qd9 {R : Type} (KK : AV → Mem → Option R) := subE (R := R) qh8 fun t m K => qe (bxC (m.s 0)) (qcd (gL [t 0] 0) (gI [t 7] 0) (qbw K) (qb0 KK) FU (gI [t 8] 0))
theorem qis {R : Type} (KK : AV → Mem → Option R) : qcb Try.prog (TIof Try.prog) 19 1 (qp [.t 4] KK) (.loop (scOf (q8 KK))) (qd9 KK) :=
  qdt tabOk follows (qin KK) (qn (by kernel_rfl)) fun t m K => qir KK _ _ K FU _ _ _ _ _
def qjp : Shp := ⟨[(0, .one (.l (.sl 8))), (1, .one (.fn 90 [(0, 0)]))], [.box true (lk qf)]⟩
def qet {R : Type} (KK : AV → Mem → Option R) := (fun v4 Ai Aj Ak Al => KK (.int .i64 v4) (qg [(some (.box true [(.bool Ai), (.int .u64 Aj), (.int .u64 Ak), (.int .i64 Al)]))]))
def qdb {R : Type}  (v0 : List AV) (Ai : Bool) (Aj Ak Al : Int) (kr : Int → Bool → Int → Int → Int → Option R) : Option R :=
  (qcd v0 (v0.length : Int) (fun b0_0q1 b0_1q2 b0_2q3 b0_3q4 => (kr (-1 : Int) b0_0q1 b0_1q2 b0_2q3 b0_3q4)) kr FU (0 : Int) Ai Aj Ak Al)
def qbp {R : Type} := hull (qdb (R := R))
theorem qeu {R : Type} : qbp (R := R) = qdb := qi _
def qbi {R : Type} (KK : AV → Mem → Option R) : AC R :=
  .seq (.reg [ao 4 (.mv (.c (.int .i64 0)))]) (.seq (.seq (.reg [ao 6 (.mv 0),
 ao 7 (.len false 6),
 ao 8 (.mv (.c (.int .i64 0)))]) (.block 0 (.seq (.view [.sel [0, 1, 7, 8] [0]]) (.sub (.loop (scOf (q8 KK))) (qd9 KK))))) (.seq (.reg [ao 4 (.mv (.c (.int .i64 (-1))))]) (.seq (.view [.sel [4] [0]]) (.ret))))
theorem qj4 {R : Type} (KK : AV → Mem → Option R) : AC.ok Try.prog (TIof Try.prog) 19 1 (qp [.t 4] KK) (qbi KK) := qm (zA (qis KK) trivial)
theorem qkf {R : Type} (KK : AV → Mem → Option R) (v0 : List AV) (Ai : Bool) (Aj Ak Al : Int) : den 1 (qp [.t 4] KK) (qbi KK) (qh [(0, (.sl 8 v0)), (1, (.func 90 [(.ptr 0 0)]))]) (qg [(some (.box true (qb Ai Aj Ak Al)))]) (kend (qp [.t 4] KK)) = qbp v0 Ai Aj Ak Al (qet KK) := by
  rw [qeu]; kernel_rfl
theorem qkg : cFn (TIof Try.prog) Try.f88 = some ⟨19, [.t 4], scOf (qbi (R := Unit) (fun _ _ => none))⟩ := by kernel_rfl
theorem qkh {R : Type} (KK : AV → Mem → Option R) : (qbi KK).er = some (scOf (qbi (R := Unit) (fun _ _ => none))) := by kernel_rfl
def qey {R : Type} : List AV → Mem → (AV → Mem → Option R) → Option R := refE qjp fun xs m KK => qe (bxC (m.s 0)) (qbp (gL [(qk xs) 0] 0)) (qet KK)
theorem qki {R : Type} : qfx Try.prog 88 (qey (R := R)) :=
  qly (ac := fun KK => qbi KK) tabOk follows Try.func88 (by kernel_rfl) qkg (fun KK => qj4 KK) (fun KK => qkh KK) rfl fun xs m KK => qkf KK _ _ _ _ _
def qia : Shp := ⟨[(0, .one (.l (.sl 8))), (1, .one (.fn 90 [(0, 0)]))], [.box true (lk qf)]⟩
def qd6 {R : Type} (KK : AV → Mem → Option R) := (fun v4 Ai Aj Ak Al => KK (.bool v4) (qg [(some (.box true [(.bool Ai), (.int .u64 Aj), (.int .u64 Ak), (.int .i64 Al)]))]))
def qcz {R : Type}  (v0 : List AV) (Ai : Bool) (Aj Ak Al : Int) (kr : Bool → Bool → Int → Int → Int → Option R) : Option R :=
  (qbp v0 Ai Aj Ak Al fun v4q1 b0_0q2 b0_1q3 b0_2q4 b0_3q5 => (kr (decide (v4q1 ≥ (0 : Int))) b0_0q2 b0_1q3 b0_2q4 b0_3q5))
def qce {R : Type} := hull (qcz (R := R))
theorem qd7 {R : Type} : qce (R := R) = qcz := qi _
def q9 {R : Type} (KK : AV → Mem → Option R) : AC R :=
  .seq (.reg [ao 4 (.mv (.c (.bool false)))]) (.seq (.reg [ao 5 (.mv 0),
 ao 6 (.mv 1),
 .st (.sel [5, 6] [0]),
 .callr (po 7 (.call 88 [5, 6])) 88 qey,
 ao 8 (.bin .geq 7 (.c (.int .i64 0))),
 ao 4 (.mv 8)]) (.seq (.view [.sel [4] [0]]) (.ret)))
theorem qio {R : Type} (KK : AV → Mem → Option R) : AC.ok Try.prog (TIof Try.prog) 9 1 (qp [.t 4] KK) (q9 KK) := qm (zA qki trivial)
theorem qit {R : Type} (KK : AV → Mem → Option R) (v0 : List AV) (Ai : Bool) (Aj Ak Al : Int) : den 1 (qp [.t 4] KK) (q9 KK) (qh [(0, (.sl 8 v0)), (1, (.func 90 [(.ptr 0 0)]))]) (qg [(some (.box true (qb Ai Aj Ak Al)))]) (kend (qp [.t 4] KK)) = qce v0 Ai Aj Ak Al (qd6 KK) := by
  rw [qd7]; kernel_rfl
theorem qiu : cFn (TIof Try.prog) Try.f68 = some ⟨9, [.t 4], scOf (q9 (R := Unit) (fun _ _ => none))⟩ := by kernel_rfl
theorem qiv {R : Type} (KK : AV → Mem → Option R) : (q9 KK).er = some (scOf (q9 (R := Unit) (fun _ _ => none))) := by kernel_rfl
def qea {R : Type} : List AV → Mem → (AV → Mem → Option R) → Option R := refE qia fun xs m KK => qe (bxC (m.s 0)) (qce (gL [(qk xs) 0] 0)) (qd6 KK)
theorem qiw {R : Type} : qfx Try.prog 68 (qea (R := R)) :=
  qly (ac := fun KK => q9 KK) tabOk follows Try.func68 (by kernel_rfl) qiu (fun KK => qio KK) (fun KK => qiv KK) rfl fun xs m KK => qit KK _ _ _ _ _
def qbg3 : Shp := ⟨[(0, .one (.l (.sl 8))), (1, .st (lk qf))], []⟩
def qvx (v0 : List AV) (Aq : Bool) (Ar As At : Int) : Option Bool :=
  (qce v0 Aq Ar As At fun v4q1 b0_0q2 b0_1q3 b0_2q4 b0_3q5 => (some v4q1))
def qix := hull qvx
theorem q35 : qix = qvx := qi _
def qvy : AC Bool :=
  .seq (.reg [ao 3 (.box 1),
 ao 4 (.mv (.c (.bool false)))]) (.seq (.reg [ao 5 (.mv 0),
 ao 6 (.mkf 90 [3]),
 .st (.sel [5, 6] [0]),
 .callr (po 7 (.call 68 [5, 6])) 68 qea,
 ao 4 (.mv 7)]) (.ret))
theorem qbi6 : AC.ok Try.prog (TIof Try.prog) 8 0 (kret [.t 4] decB) qvy := qm (zA qiw trivial)
theorem qbmt (v0 : List AV) (Aq : Bool) (Ar As At : Int) : den 0 (kret [.t 4] decB) qvy (qh [(0, (.sl 8 v0)), (1, .agg (qb Aq Ar As At))]) (qg []) (kend (kret [.t 4] decB)) = qix v0 Aq Ar As At := by
  rw [q35]; kernel_rfl
theorem qbmu : cFn (TIof Try.prog) Try.f52 = some ⟨8, [.t 4], scOf qvy⟩ := by kernel_rfl
def qbmv (xs : List AV) : Option Bool := qe ((qk xs) 1).cells (qix (gL [(qk xs) 0] 0))
def qob {R : Type} : List AV → (AV → Option R) → Option R := entF qbg3 qbmv AV.bool
theorem qvz {R : Type} : qc Try.prog 52 (qob (R := R)) :=
  qba tabOk follows Try.func52 (by kernel_rfl) qbmu hdeB qbi6 (qn (by kernel_rfl)) fun xs => qbmt _ _ _ _ _
def qby (l : List AV) : Option (List AV) := qbk3 80 l
def qfq {R : Type} (xs : List AV) (K : AV → Option R) : Option R := qbft 8 80 xs K
theorem qlu {R : Type} : qc Try.prog 93 (qfq (R := R)) := qb63 (ρ := qbq8 93 4 22 34) tabOk (qb4f follows "slices.Clone[[]ddi/api.Block,ddi/api.Block]" (by kernel_rfl) (by kernel_rfl) (by kernel_rfl) (by kernel_rfl) (by kernel_rfl) (by kernel_rfl) (by kernel_rfl) (by kernel_rfl)) (by kernel_rfl) (by decide) (by decide)
def qbi7 {R : Type} (vs : List AV) (m : Mem) (K : AV → Mem → Option R) : Option R := qbaj 8 vs m K
theorem qbzg {R : Type} : qfx Try.prog 95 (qbi7 (R := R)) := qb4g (ρ := qbk4 95 0 3 4 22 34) tabOk (qb29 follows "slices.Delete[[]ddi/api.Block,ddi/api.Block]" (by kernel_rfl) (by kernel_rfl) (by kernel_rfl) (by kernel_rfl) (by kernel_rfl) (by kernel_rfl) (by kernel_rfl) (by kernel_rfl) (by kernel_rfl) (by kernel_rfl) (by kernel_rfl) (by kernel_rfl) (by kernel_rfl) (by kernel_rfl)) (by kernel_rfl) (by decide)
def qbi8 : Shp := ⟨[(0, .one (.l (.sl 8))), (1, .one (.l (.i .i64)))], []⟩
def qx7 (v0 : List AV) (v1 : Int) : Option (List AV) :=
  (oB (qby v0) fun r1 => (bif hd r1 r1.length then (oB (qbdg r1 v1 (IntKind.i64.wrap (v1 + (1 : Int)))) fun r2 => (bif hd r2 r2.length then (some r2) else none)) else none))
def qgj := hull qx7
theorem q53 : qgj = qx7 := qi _
def qx8 : AC (List AV) :=
  .seq (.reg [ao 4 (.mv (.c .nils))]) (.seq (.reg [ao 5 (.mv 0),
 .call (po 6 (.call 93 [5])) 93 qfq,
 ao 7 (.mv 1),
 ao 8 (.mv 1),
 ao 9 (.bin .add 8 (.c (.int .i64 1))),
 .callr (po 10 (.call 95 [6, 7, 9])) 95 qbi7,
 ao 4 (.mv 10)]) (.ret))
theorem qbmw : AC.ok Try.prog (TIof Try.prog) 11 0 (kret [.t 4] (decF true 8)) qx8 := qm (zA (qc.ok qlu) (zA qbzg trivial))
theorem qbqa (v0 : List AV) (v1 : Int) : den 0 (kret [.t 4] (decF true 8)) qx8 (qh [(0, (.sl 8 v0)), (1, (.int .i64 v1))]) (qg []) (kend (kret [.t 4] (decF true 8))) = qgj v0 v1 := by
  rw [q53]; kernel_rfl
theorem qbqb : cFn (TIof Try.prog) Try.f56 = some ⟨11, [.t 4], scOf qx8⟩ := by kernel_rfl
def qbqc (xs : List AV) : Option (List AV) := qgj (gL [(qk xs) 0] 0) (gI [(qk xs) 1] 0)
def qlv {R : Type} : List AV → (AV → Option R) → Option R := entF qbi8 qbqc (AV.fr true 8)
theorem qrk {R : Type} : qc Try.prog 56 (qlv (R := R)) :=
  qba tabOk follows Try.func56 (by kernel_rfl) qbqb hdeF qbmw (qn (by kernel_rfl)) fun xs => qbqa _ _
def qv0 (z : AV) : Option ((List AV) × Int) := cond (qhy [(.one (.sl 8)), (.one (.i .i64))] z) (some (aL (gC (tpL z) 0), aI (gC (tpL z) 1))) none
def qbmx (r : (List AV) × Int) : AV := .tup [.sl 8 r.1, .int .i64 r.2]
def qbmy : Shp := ⟨[(0, .one (.l (.sl 8))), (1, .st (lk qf))], []⟩
def qz8 (v0 : List AV) (Aq : Bool) (Ar As At : Int) : Option ((List AV) × Int) :=
  (oB (qf1 v0 Aq Ar As At) fun r1 => (bif (decide (r1 < (0 : Int))) then (some (([] : List AV), (11 : Int))) else (oB (qix v0 Aq Ar As At) fun r2 => (bif r2 then (some (([] : List AV), (25 : Int))) else (oB (qgj v0 r1) fun r3 => (some (r3, (0 : Int))))))))
def qon := hull qz8
theorem q7w : qon = qz8 := qi _
def qz9 : AC ((List AV) × Int) :=
  .seq (.reg [ao 3 (.box 1),
 ao 4 (.mv (.c .nils)),
 ao 5 (.mv (.c (.int .i64 0)))]) (.seq (.reg [ao 7 (.mv 0),
 ao 8 (.load true 4 3),
 .call (po 9 (.call 51 [7, 8])) 51 qf2,
 ao 6 (.mv 9)]) (.seq (.seq (.reg [ao 10 (.mv 6),
 ao 11 (.bin .lss 10 (.c (.int .i64 0)))]) (.cond 11 (.seq (.reg [ao 4 (.mv (.c .nils)),
 ao 5 (.mv (.c (.int .i64 11)))]) (.seq (.view [.eta 4 (.one (.sl 8))]) (.ret))) (.skip))) (.seq (.seq (.reg [ao 12 (.mv 0),
 ao 13 (.load true 4 3),
 .call (po 14 (.call 52 [12, 13])) 52 qob]) (.cond 14 (.seq (.reg [ao 4 (.mv (.c .nils)),
 ao 5 (.mv (.c (.int .i64 25)))]) (.seq (.view [.eta 4 (.one (.sl 8))]) (.ret))) (.skip))) (.seq (.reg [ao 15 (.mv 0),
 ao 16 (.mv 6),
 .callc (po 17 (.call 56 [15, 16])) 56 qlv,
 ao 4 (.mv 17),
 ao 5 (.mv (.c (.int .i64 0)))]) (.ret)))))
theorem qbqd : AC.ok Try.prog (TIof Try.prog) 18 0 (kret [.t 4, .t 5] qv0) qz9 := qm (zA (qc.ok qkx) (zA (qc.ok qvz) (zA (qc.ok qrk) trivial)))
theorem qbse (v0 : List AV) (Aq : Bool) (Ar As At : Int) : den 0 (kret [.t 4, .t 5] qv0) qz9 (qh [(0, (.sl 8 v0)), (1, .agg (qb Aq Ar As At))]) (qg []) (kend (kret [.t 4, .t 5] qv0)) = qon v0 Aq Ar As At := by
  rw [q7w]; kernel_rfl
theorem qbsf : cFn (TIof Try.prog) Try.f17 = some ⟨18, [.t 4, .t 5], scOf qz9⟩ := by kernel_rfl
def qbsg (xs : List AV) : Option ((List AV) × Int) := qe ((qk xs) 1).cells (qon (gL [(qk xs) 0] 0))
def q54 {R : Type} : List AV → (AV → Option R) → Option R := entF qbmy qbsg qbmx
theorem qbsh {R : Type} : qc Try.prog 17 (q54 (R := R)) :=
  qba tabOk follows Try.func17 (by kernel_rfl) qbsf (fun z r h => by
 obtain ⟨h1, h2⟩ := qo h
 cases h2
 exact (qez h1).symm) qbqd (qn (by kernel_rfl)) fun xs => qbse _ _ _ _ _
def qbsi : Shp := ⟨[(0, .one (.l (.i .u64))), (1, .one (.l (.i .i64)))], []⟩
def qbf5 (v0 v1 : Int) : Option AV :=
  (some (.agg [(.bool false), (.int .u64 (0 : Int)), (.int .u64 v0), (.int .i64 v1)]))
def qg5 := hull qbf5
theorem qbb7 : qg5 = qbf5 := qi _
def q5b : AC AV :=
  .seq (.reg [ao 4 (.alloc [(.bool false), (.int .u64 0), (.int .u64 0), (.int .i64 0)])]) (.seq (.reg [ao 5 (.mv 0),
 ao 6 (.build [(.bool false), (.int .u64 0), (.int .u64 0)] [(2, (1, 5))]),
 ao 7 (.mv 1),
 ao 8 (.build [(.bool false), (.int .u64 0), (.int .u64 0), (.int .i64 0)] [(0, (3, 6)), (3, (1, 7))]),
 an (.store 4 4 8)]) (.ret))
theorem qbvq : AC.ok Try.prog (TIof Try.prog) 9 0 (kret [(.cell 4 true 4)] (decT [.b, (.i .u64), (.i .u64), (.i .i64)])) q5b := qm trivial
theorem qbya (v0 v1 : Int) : den 0 (kret [(.cell 4 true 4)] (decT [.b, (.i .u64), (.i .u64), (.i .i64)])) q5b (qh [(0, (.int .u64 v0)), (1, (.int .i64 v1))]) (qg []) (kend (kret [(.cell 4 true 4)] (decT [.b, (.i .u64), (.i .u64), (.i .i64)]))) = qg5 v0 v1 := by
  rw [qbb7]; kernel_rfl
theorem qbyb : cFn (TIof Try.prog) Try.f50 = some ⟨9, [(.cell 4 true 4)], scOf q5b⟩ := by kernel_rfl
def qbyc (xs : List AV) : Option AV := qg5 (gI [(qk xs) 0] 0) (gI [(qk xs) 1] 0)
def qgv {R : Type} : List AV → (AV → Option R) → Option R := entF qbsi qbyc (qll (.st [.b, (.i .u64), (.i .u64), (.i .i64)]))
theorem qmg {R : Type} : qc Try.prog 50 (qgv (R := R)) :=
  qba tabOk follows Try.func50 (by kernel_rfl) qbyb hdeT qbvq (qn (by kernel_rfl)) fun xs => qbya _ _
def qbg4 : Shp := ⟨[(0, .st (lk qa)), (1, .one (.ptr 0 0))], [.box true (lk qa)]⟩
def q36 {R : Type} (KK : AV → Mem → Option R) := (fun v3 Ai Aj Ak Al Am An Ao Ap => KK (.bool v3) (qg [(some (.box true [(.bool Ai), (.int .u64 Aj), (.int .u64 Ak), (.int .i64 Al), (.int .i64 Am), (.str An), (.str Ao), (.int .i64 Ap)]))]))
def qv1 {R : Type}  (Aa : Bool) (Ab Ac Ad Ae : Int) (Af Ag : List UInt8) (Ah : Int) (Ai : Bool) (Aj Ak Al Am : Int) (An Ao : List UInt8) (Ap : Int) (kr : Bool → Bool → Int → Int → Int → Int → (List UInt8) → (List UInt8) → Int → Option R) : Option R :=
  (oB (qnk Aa Ab Ac Ad Ai Aj Ak Al) fun r1 => (kr (decide (r1 > (0 : Int))) Ai Aj Ak Al Am An Ao Ap))
def qoz {R : Type} := hull (qv1 (R := R))
theorem q37 {R : Type} : qoz (R := R) = qv1 := qi _
def qja {R : Type} (KK : AV → Mem → Option R) : AC R :=
  .seq (.reg [ao 2 (.box 0),
 ao 3 (.mv (.c (.bool false)))]) (.seq (.reg [ao 4 (.fa 0 2),
 ao 5 (.load true 4 4),
 ao 6 (.fa 0 1),
 ao 7 (.load true 4 6),
 .call (po 8 (.call 40 [5, 7])) 40 qt9,
 ao 9 (.bin .gtr 8 (.c (.int .i64 0))),
 ao 3 (.mv 9)]) (.seq (.view [.sel [3] [0]]) (.ret)))
theorem qbi9 {R : Type} (KK : AV → Mem → Option R) : AC.ok Try.prog (TIof Try.prog) 10 1 (qp [.t 3] KK) (qja KK) := qm (zA (qc.ok q7m) trivial)
theorem qbmz {R : Type} (KK : AV → Mem → Option R) (Aa : Bool) (Ab Ac Ad Ae : Int) (Af Ag : List UInt8) (Ah : Int) (Ai : Bool) (Aj Ak Al Am : Int) (An Ao : List UInt8) (Ap : Int) : den 1 (qp [.t 3] KK) (qja KK) (qh [(0, .agg (qd Aa Ab Ac Ad Ae Af Ag Ah)), (1, (.ptr 0 0))]) (qg [(some (.box true (qd Ai Aj Ak Al Am An Ao Ap)))]) (kend (qp [.t 3] KK)) = qoz Aa Ab Ac Ad Ae Af Ag Ah Ai Aj Ak Al Am An Ao Ap (q36 KK) := by
  rw [q37]; kernel_rfl
theorem qbm0 : cFn (TIof Try.prog) Try.f91 = some ⟨10, [.t 3], scOf (qja (R := Unit) (fun _ _ => none))⟩ := by kernel_rfl
theorem qbm1 {R : Type} (KK : AV → Mem → Option R) : (qja KK).er = some (scOf (qja (R := Unit) (fun _ _ => none))) := by kernel_rfl
def q55 {R : Type} : List AV → Mem → (AV → Mem → Option R) → Option R := refE qbg4 fun xs m KK => qj (bxC (m.s 0)) (qj ((qk xs) 0).cells (qoz)) (q36 KK)
theorem qbm2 {R : Type} : qfx Try.prog 91 (q55 (R := R)) :=
  qly (ac := fun KK => qja KK) tabOk follows Try.func91 (by kernel_rfl) qbm0 (fun KK => qbi9 KK) (fun KK => qbm1 KK) rfl fun xs m KK => qbmz KK _ _ _ _ _ _ _ _ _ _ _ _ _ _ _ _
def qb2 {R : Type}  (K : Ex → Env → Mem → Option R) := (fun z_b0_0 z_b0_1 z_b0_2 z_b0_3 z_b0_4 z_b0_5 z_b0_6 z_b0_7 => K (.exit 0) (qh []) (qg [(some (.box true (qd z_b0_0 z_b0_1 z_b0_2 z_b0_3 z_b0_4 z_b0_5 z_b0_6 z_b0_7)))]))
def qca {R : Type} (KK : AV → Mem → Option R) := (fun v4 Ai Aj Ak Al Am An Ao Ap => KK (.int .i64 v4) (qg [(some (.box true [(.bool Ai), (.int .u64 Aj), (.int .u64 Ak), (.int .i64 Al), (.int .i64 Am), (.str An), (.str Ao), (.int .i64 Ap)]))]))
def qiy : Shp := ⟨[(0, .one (.l (.sl 8))), (1, .one (.fn 91 [(0, 0)])), (7, .one (.l (.i .i64))), (8, .one (.l (.i .i64)))], [.box true (lk qa)]⟩
def qc2 (v0 : List AV) (v7 v8 : Int) (Ai : Bool) (Aj Ak Al Am : Int) (An Ao : List UInt8) (Ap : Int) : Env := qh [(0, (.sl 8 v0)), (1, (.func 91 [(.ptr 0 0)])), (7, (.int .i64 v7)), (8, (.int .i64 v8))]
def qc3 (v0 : List AV) (v7 v8 : Int) (Ai : Bool) (Aj Ak Al Am : Int) (An Ao : List UInt8) (Ap : Int) : Mem := qg [(some (.box true (qd Ai Aj Ak Al Am An Ao Ap)))]
def qbe {R : Type}  (v0 : List AV) (v7 v8 : Int) (Ai : Bool) (Aj Ak Al Am : Int) (An Ao : List UInt8) (Ap : Int) (next : Int → Bool → Int → Int → Int → Int → (List UInt8) → (List UInt8) → Int → Option R) (kx0 : Bool → Int → Int → Int → Int → (List UInt8) → (List UInt8) → Int → Option R) (kr : Int → Bool → Int → Int → Int → Int → (List UInt8) → (List UInt8) → Int → Option R) : Option R :=
  (bif (decide (v8 < v7)) then (oB (ixB v0 v8) fun y1 => (bif fitC qa y1.cells then (qoz (gB y1.cells 0) (gI y1.cells 1) (gI y1.cells 2) (gI y1.cells 3) (gI y1.cells 4) (gS y1.cells 5) (gS y1.cells 6) (gI y1.cells 7) Ai Aj Ak Al Am An Ao Ap fun v3q2 b0_0q3 b0_1q4 b0_2q5 b0_3q6 b0_4q7 b0_5q8 b0_6q9 b0_7q10 => (bif v3q2 then (kr v8 b0_0q3 b0_1q4 b0_2q5 b0_3q6 b0_4q7 b0_5q8 b0_6q9 b0_7q10) else (next (IntKind.i64.wrap (v8 + (1 : Int))) b0_0q3 b0_1q4 b0_2q5 b0_3q6 b0_4q7 b0_5q8 b0_6q9 b0_7q10))) else none)) else (kx0 Ai Aj Ak Al Am An Ao Ap))
def qcf {R : Type}  (v0 : List AV) (v7 : Int) (kx0 : Bool → Int → Int → Int → Int → (List UInt8) → (List UInt8) → Int → Option R) (kr : Int → Bool → Int → Int → Int → Int → (List UInt8) → (List UInt8) → Int → Option R) : Nat → Int → Bool → Int → Int → Int → Int → (List UInt8) → (List UInt8) → Int → Option R
  | 0 => (fun _ _ _ _ _ _ _ _ _ => none)
  | n + 1 => (fun v8 Ai Aj Ak Al Am An Ao Ap => qbe v0 v7 v8 Ai Aj Ak Al Am An Ao Ap (qcf v0 v7 kx0 kr n) kx0 kr)
def qch {R : Type} := hull (qcf (R := R))
theorem qeh {R : Type} : qch (R := R) = qcf := qi _
def qbf {R : Type} (KK : AV → Mem → Option R) : AC R :=
  .seq (.reg [ao 9 (.bin .lss 8 7)]) (.seq (.cond 9 (.skip) (.seq (.view [.sel [] [0]]) (.exit 0))) (.seq (.block 1 (.seq (.reg [ao 10 (.mv 8),
 ao 5 (.mv 10)]) (.seq (.reg [ao 11 (.mv 1),
 ao 12 (.mv 0),
 ao 13 (.mv 5),
 ao 14 (.ia 8 12 13),
 .st (.etac 14 qa),
 ao 15 (.load true 8 14),
 .st (.sel [0, 1, 5, 7, 8, 11, 15] [0]),
 .callr (po 16 (.callv 11 [15])) 91 q55]) (.cond 16 (.seq (.reg [ao 17 (.mv 5),
 ao 4 (.mv 17)]) (.seq (.view [.sel [4] [0]]) (.ret))) (.skip))))) (.seq (.reg [ao 18 (.bin .add 8 (.c (.int .i64 1))),
 ao 8 (.mv 18)]) (.view [.sel [0, 1, 7, 8] [0]]))))
theorem qjq {R : Type} (KK : AV → Mem → Option R) : AC.ok Try.prog (TIof Try.prog) 19 1 (qp [.t 4] KK) (qbf KK) := qm (zA qbm2 trivial)
theorem qiz {R : Type} (KK : AV → Mem → Option R) (v0 : List AV) (v7 v8 : Int) (Ai : Bool) (Aj Ak Al Am : Int) (An Ao : List UInt8) (Ap : Int) (K : Ex → Env → Mem → Option R) : den 1 (qp [.t 4] KK) (qbf KK) (qc2 v0 v7 v8 Ai Aj Ak Al Am An Ao Ap) (qc3 v0 v7 v8 Ai Aj Ak Al Am An Ao Ap) K = qbe v0 v7 v8 Ai Aj Ak Al Am An Ao Ap (fun z_v8 z_b0_0 z_b0_1 z_b0_2 z_b0_3 z_b0_4 z_b0_5 z_b0_6 z_b0_7 => K .norm (qc2 v0 v7 z_v8 z_b0_0 z_b0_1 z_b0_2 z_b0_3 z_b0_4 z_b0_5 z_b0_6 z_b0_7) (qc3 v0 v7 z_v8 z_b0_0 z_b0_1 z_b0_2 z_b0_3 z_b0_4 z_b0_5 z_b0_6 z_b0_7)) (qb2 K) (qca KK) := by kernel_rfl
theorem qj5 {R : Type} (KK : AV → Mem → Option R) (v0 : List AV) (v7 : Int) (K : Ex → Env → Mem → Option R) : ∀ (n : Nat) (v8 : Int) (Ai : Bool) (Aj Ak Al Am : Int) (An Ao : List UInt8) (Ap : Int), qep (den 1 (qp [.t 4] KK) (qbf KK)) n (qc2 v0 v7 v8 Ai Aj Ak Al Am An Ao Ap) (qc3 v0 v7 v8 Ai Aj Ak Al Am An Ao Ap) K = qch v0 v7 (qb2 K) (qca KK) n v8 Ai Aj Ak Al Am An Ao Ap := by
  rw [qeh]
  intro n
  induction n with
  | zero => intros; rfl
  | succ n ih =>
 intro v8 Ai Aj Ak Al Am An Ao Ap
 exact (qiz KK v0 v7 v8 Ai Aj Ak Al Am An Ao Ap (itK (den 1 (qp [.t 4] KK) (qbf KK)) n K)).trans (congrArg (fun q => qbe v0 v7 v8 Ai Aj Ak Al Am An Ao Ap q (qb2 K) (qca KK)) (funext fun v8 => funext fun Ai => funext fun Aj => funext fun Ak => funext fun Al => funext fun Am => funext fun An => funext fun Ao => funext fun Ap => ih v8 Ai Aj Ak Al Am An Ao Ap))
def qev {R : Type} (KK : AV → Mem → Option R) := subE (R := R) qiy fun t m K => qj (bxC (m.s 0)) (qch (gL [t 0] 0) (gI [t 7] 0) (qb2 K) (qca KK) FU (gI [t 8] 0))
theorem qj6 {R : Type} (KK : AV → Mem → Option R) : qcb Try.prog (TIof Try.prog) 19 1 (qp [.t 4] KK) (.loop (scOf (qbf KK))) (qev KK) :=
  qdt tabOk follows (qjq KK) (qn (by kernel_rfl)) fun t m K => qj5 KK _ _ K FU _ _ _ _ _ _ _ _ _
def qkj : Shp := ⟨[(0, .one (.l (.sl 8))), (1, .one (.fn 91 [(0, 0)]))], [.box true (lk qa)]⟩
def qe1 {R : Type} (KK : AV → Mem → Option R) := (fun v4 Ai Aj Ak Al Am An Ao Ap => KK (.int .i64 v4) (qg [(some (.box true [(.bool Ai), (.int .u64 Aj), (.int .u64 Ak), (.int .i64 Al), (.int .i64 Am), (.str An), (.str Ao), (.int .i64 Ap)]))]))
def qdh {R : Type}  (v0 : List AV) (Ai : Bool) (Aj Ak Al Am : Int) (An Ao : List UInt8) (Ap : Int) (kr : Int → Bool → Int → Int → Int → Int → (List UInt8) → (List UInt8) → Int → Option R) : Option R :=
  (qch v0 (v0.length : Int) (fun b0_0q1 b0_1q2 b0_2q3 b0_3q4 b0_4q5 b0_5q6 b0_6q7 b0_7q8 => (kr (-1 : Int) b0_0q1 b0_1q2 b0_2q3 b0_3q4 b0_4q5 b0_5q6 b0_6q7 b0_7q8)) kr FU (0 : Int) Ai Aj Ak Al Am An Ao Ap)
def qbr {R : Type} := hull (qdh (R := R))
theorem qe2 {R : Type} : qbr (R := R) = qdh := qi _
def qbk {R : Type} (KK : AV → Mem → Option R) : AC R :=
  .seq (.reg [ao 4 (.mv (.c (.int .i64 0)))]) (.seq (.seq (.reg [ao 6 (.mv 0),
 ao 7 (.len false 6),
 ao 8 (.mv (.c (.int .i64 0)))]) (.block 0 (.seq (.view [.sel [0, 1, 7, 8] [0]]) (.sub (.loop (scOf (qbf KK))) (qev KK))))) (.seq (.reg [ao 4 (.mv (.c (.int .i64 (-1))))]) (.seq (.view [.sel [4] [0]]) (.ret))))
theorem qky {R : Type} (KK : AV → Mem → Option R) : AC.ok Try.prog (TIof Try.prog) 19 1 (qp [.t 4] KK) (qbk KK) := qm (zA (qj6 KK) trivial)
theorem qlc {R : Type} (KK : AV → Mem → Option R) (v0 : List AV) (Ai : Bool) (Aj Ak Al Am : Int) (An Ao : List UInt8) (Ap : Int) : den 1 (qp [.t 4] KK) (qbk KK) (qh [(0, (.sl 8 v0)), (1, (.func 91 [(.ptr 0 0)]))]) (qg [(some (.box true (qd Ai Aj Ak Al Am An Ao Ap)))]) (kend (qp [.t 4] KK)) = qbr v0 Ai Aj Ak Al Am An Ao Ap (qe1 KK) := by
  rw [qe2]; kernel_rfl
theorem qld : cFn (TIof Try.prog) Try.f88 = some ⟨19, [.t 4], scOf (qbk (R := Unit) (fun _ _ => none))⟩ := by kernel_rfl
theorem qle {R : Type} (KK : AV → Mem → Option R) : (qbk KK).er = some (scOf (qbk (R := Unit) (fun _ _ => none))) := by kernel_rfl
def qe7 {R : Type} : List AV → Mem → (AV → Mem → Option R) → Option R := refE qkj fun xs m KK => qj (bxC (m.s 0)) (qbr (gL [(qk xs) 0] 0)) (qe1 KK)
theorem qlf {R : Type} : qfx Try.prog 88 (qe7 (R := R)) :=
  qly (ac := fun KK => qbk KK) tabOk follows Try.func88 (by kernel_rfl) qld (fun KK => qky KK) (fun KK => qle KK) rfl fun xs m KK => qlc KK _ _ _ _ _ _ _ _ _
def qbja {R : Type} (vs : List AV) (m : Mem) (K : AV → Mem → Option R) : Option R := qbak 8 80 vs m K
theorem qbzh {R : Type} : qfx Try.prog 92 (qbja (R := R)) := qb4h (ρ := qbk5 92 102 103 0 3 4 22 34) tabOk (qb3a follows "slices.Insert[[]ddi/api.Block,ddi/api.Block]" (by kernel_rfl) (by kernel_rfl) Try.func102 (by kernel_rfl) (by kernel_rfl) (by kernel_rfl) (by kernel_rfl) (by kernel_rfl) (by kernel_rfl) (by kernel_rfl) (by kernel_rfl) (by kernel_rfl) (by kernel_rfl) (by kernel_rfl) (by kernel_rfl) (by kernel_rfl) (by kernel_rfl) (by kernel_rfl) (by kernel_rfl) (by kernel_rfl)) (by kernel_rfl) (by kernel_rfl) (by decide) (by decide)
def q1y  (v0 : List AV) (Ai : Bool) (Aj Ak Al Am : Int) (An Ao : List UInt8) (Ap : Int) (K : Ex → Env → Mem → Option (List AV)) := (fun z_v5 => K .norm (qh [(0, (.sl 8 v0)), (3, (.ptr 0 0)), (5, (.int .i64 z_v5))]) (qg [(some (.box true (qd Ai Aj Ak Al Am An Ao Ap)))]))
def qbef : Shp := ⟨[(0, .one (.l (.sl 8))), (3, .one (.ptr 0 0)), (5, .one (.l (.i .i64)))], [.box true (lk qa)]⟩
def qul  (v0 : List AV) (v5 : Int) (Ai : Bool) (Aj Ak Al Am : Int) (An Ao : List UInt8) (Ap : Int) (kn : Int → Option (List AV)) : Option (List AV) :=
  (bif (decide (v5 < (0 : Int))) then (kn (v0.length : Int)) else (kn v5))
def qrl := hull (qul)
theorem q1z : qrl = qul := qi _
def qo0 : AC (List AV) :=
  .seq (.reg [ao 9 (.mv 5),
 ao 10 (.bin .lss 9 (.c (.int .i64 0)))]) (.cond 10 (.seq (.reg [ao 11 (.mv 0),
 ao 12 (.len false 11),
 ao 5 (.mv 12)]) (.view [.sel [0, 3, 5] [0]])) (.seq (.skip) (.view [.sel [0, 3, 5] [0]])))
theorem qbg5 : AC.ok Try.prog (TIof Try.prog) 19 0 (kret [.t 4] (decF true 8)) qo0 := qm trivial
theorem qbjb (v0 : List AV) (v5 : Int) (Ai : Bool) (Aj Ak Al Am : Int) (An Ao : List UInt8) (Ap : Int) (K : Ex → Env → Mem → Option (List AV)) : den 0 (kret [.t 4] (decF true 8)) qo0 (qh [(0, (.sl 8 v0)), (3, (.ptr 0 0)), (5, (.int .i64 v5))]) (qg [(some (.box true (qd Ai Aj Ak Al Am An Ao Ap)))]) K = qrl v0 v5 Ai Aj Ak Al Am An Ao Ap (q1y v0 Ai Aj Ak Al Am An Ao Ap K) := by
  rw [q1z]; kernel_rfl
def q38 := subE (R := (List AV)) qbef fun t m K => qj (bxC (m.s 0)) (qrl (gL [t 0] 0) (gI [t 5] 0)) (q1y (gL [t 0] 0) (gB (bxC (m.s 0)) 0) (gI (bxC (m.s 0)) 1) (gI (bxC (m.s 0)) 2) (gI (bxC (m.s 0)) 3) (gI (bxC (m.s 0)) 4) (gS (bxC (m.s 0)) 5) (gS (bxC (m.s 0)) 6) (gI (bxC (m.s 0)) 7) K)
theorem qbjc : qcb Try.prog (TIof Try.prog) 19 0 (kret [.t 4] (decF true 8)) (scOf qo0) (q38) :=
  qfa tabOk follows (qbg5) (qn (by kernel_rfl)) fun t m K => qbjb _ _ _ _ _ _ _ _ _ _ K
def qbm3 : Shp := ⟨[(0, .one (.l (.sl 8))), (1, .st (lk qa))], []⟩
def q0a (v0 : List AV) (Aq : Bool) (Ar As At Ay : Int) (Az A0 : List UInt8) (A1 : Int) : Option (List AV) :=
  (qbr v0 Aq Ar As At Ay Az A0 A1 fun v4q1 b0_0q2 b0_1q3 b0_2q4 b0_3q5 b0_4q6 b0_5q7 b0_6q8 b0_7q9 => (qrl v0 v4q1 b0_0q2 b0_1q3 b0_2q4 b0_3q5 b0_4q6 b0_5q7 b0_6q8 b0_7q9 (fun v5q10 => (oB (qby v0) fun r11 => (bif hd r11 r11.length then (bif hd ([(.agg [(.bool b0_0q2), (.int .u64 b0_1q3), (.int .u64 b0_2q4), (.int .i64 b0_3q5), (.int .i64 b0_4q6), (.str b0_5q7), (.str b0_6q8), (.int .i64 b0_7q9)])] : List AV) (([(.agg [(.bool b0_0q2), (.int .u64 b0_1q3), (.int .u64 b0_2q4), (.int .i64 b0_3q5), (.int .i64 b0_4q6), (.str b0_5q7), (.str b0_6q8), (.int .i64 b0_7q9)])] : List AV).length) then (oB (q3a 80 r11 v5q10 ([(.agg [(.bool b0_0q2), (.int .u64 b0_1q3), (.int .u64 b0_2q4), (.int .i64 b0_3q5), (.int .i64 b0_4q6), (.str b0_5q7), (.str b0_6q8), (.int .i64 b0_7q9)])] : List AV)) fun r12 => (bif hd r12 r12.length then (some r12) else none)) else none) else none)))))
def qg9 := hull q0a
theorem q7x : qg9 = q0a := qi _
def q0b : AC (List AV) :=
  .seq (.reg [ao 3 (.box 1),
 ao 4 (.mv (.c .nils))]) (.seq (.reg [ao 6 (.mv 0),
 ao 7 (.mkf 91 [3]),
 .st (.sel [0, 3, 6, 7] [0]),
 .callr (po 8 (.call 88 [6, 7])) 88 qe7,
 ao 5 (.mv 8)]) (.seq (.seq (.view [.sel [0, 3, 5] [0]]) (.sub (scOf qo0) q38)) (.seq (.draw3 [] [14, 17] [ao 13 (.mv 0),
 .call (po 14 (.call 93 [13])) 93 qfq,
 ao 15 (.mv 5),
 ao 16 (.load true 8 3),
 ao 17 (.bsl 8 [16])] [.callr (po 18 (.call 92 [14, 15, 17])) 92 qbja,
 ao 4 (.mv 18)]) (.ret))))
theorem qbqe : AC.ok Try.prog (TIof Try.prog) 19 0 (kret [.t 4] (decF true 8)) q0b := qm (zA qlf (zA qbjc (zA (qc.ok qlu) (zA qbzh (zA rfl trivial)))))
theorem qbsj (v0 : List AV) (Aq : Bool) (Ar As At Ay : Int) (Az A0 : List UInt8) (A1 : Int) : den 0 (kret [.t 4] (decF true 8)) q0b (qh [(0, (.sl 8 v0)), (1, .agg (qd Aq Ar As At Ay Az A0 A1))]) (qg []) (kend (kret [.t 4] (decF true 8))) = qg9 v0 Aq Ar As At Ay Az A0 A1 := by
  rw [q7x]; kernel_rfl
theorem qbsk : cFn (TIof Try.prog) Try.f53 = some ⟨19, [.t 4], scOf q0b⟩ := by kernel_rfl
def qbsl (xs : List AV) : Option (List AV) := qj ((qk xs) 1).cells (qg9 (gL [(qk xs) 0] 0))
def qmo {R : Type} : List AV → (AV → Option R) → Option R := entF qbm3 qbsl (AV.fr true 8)
theorem qtl {R : Type} : qc Try.prog 53 (qmo (R := R)) :=
  qba tabOk follows Try.func53 (by kernel_rfl) qbsk hdeF qbqe (qn (by kernel_rfl)) fun xs => qbsj _ _ _ _ _ _ _ _ _
def qnl (z : AV) : Option ((List AV) × Int) := cond (qhy [(.one (.sl 8)), (.one (.i .i64))] z) (some (aL (gC (tpL z) 0), aI (gC (tpL z) 1))) none
def qbvr (r : (List AV) × Int) : AV := .tup [.sl 8 r.1, .int .i64 r.2]
def q56  (v0 : List AV) (Ai : Bool) (Aj Ak Al Am : Int) (An Ao : List UInt8) (Ap : Int) (K : Ex → Env → Mem → Option ((List AV) × Int)) := (fun z_v25 => K .norm (qh [(0, (.sl 8 v0)), (3, (.ptr 0 0)), (25, (.bool z_v25))]) (qg [(some (.box true (qd Ai Aj Ak Al Am An Ao Ap)))]))
def qbjd : Shp := ⟨[(0, .one (.l (.sl 8))), (3, .one (.ptr 0 0))], [.box true (lk qa)]⟩
def qx9  (v0 : List AV) (Ai : Bool) (Aj Ak Al Am : Int) (An Ao : List UInt8) (Ap : Int) (kn : Bool → Option ((List AV) × Int)) : Option ((List AV) × Int) :=
  (oB (qhc v0 Ai Aj Ak Al Am An Ao Ap) fun r1 => (bif r1 then (kn true) else (oB (qix v0 Ai Aj Ak Al) fun r2 => (kn r2))))
def qu9 := hull (qx9)
theorem q57 : qu9 = qx9 := qi _
def qrm : AC ((List AV) × Int) :=
  .seq (.reg [ao 17 (.mv 0),
 ao 18 (.load true 8 3),
 .call (po 19 (.call 44 [17, 18])) 44 qrb,
 ao 20 (.mv 19),
 ag 21 20 false (.mv 0),
 ag 22 20 false (.fa 0 3),
 ag 23 20 false (.load true 4 22),
 .call (pg 24 20 false (.call 52 [21, 23])) 52 qob,
 ao 25 (.pick 20 (.c (.bool true)) 24)]) (.view [.sel [0, 3, 25] [0]])
theorem qbm4 : AC.ok Try.prog (TIof Try.prog) 32 0 (kret [.t 4, .t 5] qnl) qrm := qm (zA (qc.ok q3v) (zA (qc.ok qvz) trivial))
theorem qbqf (v0 : List AV) (Ai : Bool) (Aj Ak Al Am : Int) (An Ao : List UInt8) (Ap : Int) (K : Ex → Env → Mem → Option ((List AV) × Int)) : den 0 (kret [.t 4, .t 5] qnl) qrm (qh [(0, (.sl 8 v0)), (3, (.ptr 0 0))]) (qg [(some (.box true (qd Ai Aj Ak Al Am An Ao Ap)))]) K = qu9 v0 Ai Aj Ak Al Am An Ao Ap (q56 v0 Ai Aj Ak Al Am An Ao Ap K) := by
  rw [q57]; kernel_rfl
def q7y := subE (R := (List AV) × Int) qbjd fun t m K => qj (bxC (m.s 0)) (qu9 (gL [t 0] 0)) (q56 (gL [t 0] 0) (gB (bxC (m.s 0)) 0) (gI (bxC (m.s 0)) 1) (gI (bxC (m.s 0)) 2) (gI (bxC (m.s 0)) 3) (gI (bxC (m.s 0)) 4) (gS (bxC (m.s 0)) 5) (gS (bxC (m.s 0)) 6) (gI (bxC (m.s 0)) 7) K)
theorem qbqg : qcb Try.prog (TIof Try.prog) 32 0 (kret [.t 4, .t 5] qnl) (scOf qrm) (q7y) :=
  qfa tabOk follows (qbm4) (qn (by kernel_rfl)) fun t m K => qbqf _ _ _ _ _ _ _ _ _ K
def qbvs : Shp := ⟨[(0, .one (.l (.sl 8))), (1, .st (lk qa))], []⟩
def q7z (v0 : List AV) (Aq : Bool) (Ar As At Ay : Int) (Az A0 : List UInt8) (A1 : Int) : Option ((List AV) × Int) :=
  (oB (qnq Aq Ar As At Ay Az A0 A1) fun r1 => (bif (r1 != (0 : Int)) then (some (([] : List AV), r1)) else (oB (qf1 v0 Aq Ar As At) fun r2 => (bif (decide (r2 ≥ (0 : Int))) then (some (([] : List AV), (12 : Int))) else (qu9 v0 Aq Ar As At Ay Az A0 A1 (fun v25q3 => (bif v25q3 then (some (([] : List AV), (24 : Int))) else (bif (decide ((v0.length : Int) ≥ (512 : Int))) then (some (([] : List AV), (9 : Int))) else (oB (qg9 v0 Aq Ar As At Ay Az A0 A1) fun r4 => (some (r4, (0 : Int))))))))))))
def qva := hull q7z
theorem qbf6 : qva = q7z := qi _
def q70 : AC ((List AV) × Int) :=
  .seq (.reg [ao 3 (.box 1),
 ao 4 (.mv (.c .nils)),
 ao 5 (.mv (.c (.int .i64 0)))]) (.seq (.seq (.reg [ao 7 (.load true 8 3),
 .call (po 8 (.call 43 [7])) 43 qxs,
 ao 6 (.mv 8)]) (.seq (.reg [ao 9 (.mv 6),
 ao 10 (.bin .neq 9 (.c (.int .i64 0)))]) (.cond 10 (.seq (.reg [ao 11 (.mv 6),
 ao 4 (.mv (.c .nils)),
 ao 5 (.mv 11)]) (.seq (.view [.eta 4 (.one (.sl 8))]) (.ret))) (.skip)))) (.seq (.seq (.reg [ao 12 (.mv 0),
 ao 13 (.fa 0 3),
 ao 14 (.load true 4 13),
 .call (po 15 (.call 51 [12, 14])) 51 qf2,
 ao 16 (.bin .geq 15 (.c (.int .i64 0)))]) (.cond 16 (.seq (.reg [ao 4 (.mv (.c .nils)),
 ao 5 (.mv (.c (.int .i64 12)))]) (.seq (.view [.eta 4 (.one (.sl 8))]) (.ret))) (.skip))) (.seq (.seq (.seq (.view [.sel [0, 3] [0]]) (.sub (scOf qrm) q7y)) (.cond 25 (.seq (.reg [ao 4 (.mv (.c .nils)),
 ao 5 (.mv (.c (.int .i64 24)))]) (.seq (.view [.eta 4 (.one (.sl 8))]) (.ret))) (.skip))) (.seq (.seq (.reg [ao 26 (.mv 0),
 ao 27 (.len false 26),
 ao 28 (.bin .geq 27 (.c (.int .i64 512)))]) (.cond 28 (.seq (.reg [ao 4 (.mv (.c .nils)),
 ao 5 (.mv (.c (.int .i64 9)))]) (.seq (.view [.eta 4 (.one (.sl 8))]) (.ret))) (.skip))) (.seq (.reg [ao 29 (.mv 0),
 ao 30 (.load true 8 3),
 .callc (po 31 (.call 53 [29, 30])) 53 qmo,
 ao 4 (.mv 31),
 ao 5 (.mv (.c (.int .i64 0)))]) (.ret))))))
theorem qbyd : AC.ok Try.prog (TIof Try.prog) 32 0 (kret [.t 4, .t 5] qnl) q70 := qm (zA (qc.ok qbbr) (zA (qc.ok qkx) (zA qbqg (zA (qc.ok qtl) trivial))))
theorem qbzi (v0 : List AV) (Aq : Bool) (Ar As At Ay : Int) (Az A0 : List UInt8) (A1 : Int) : den 0 (kret [.t 4, .t 5] qnl) q70 (qh [(0, (.sl 8 v0)), (1, .agg (qd Aq Ar As At Ay Az A0 A1))]) (qg []) (kend (kret [.t 4, .t 5] qnl)) = qva v0 Aq Ar As At Ay Az A0 A1 := by
  rw [qbf6]; kernel_rfl
theorem qbzj : cFn (TIof Try.prog) Try.f15 = some ⟨32, [.t 4, .t 5], scOf q70⟩ := by kernel_rfl
def qbzk (xs : List AV) : Option ((List AV) × Int) := qj ((qk xs) 1).cells (qva (gL [(qk xs) 0] 0))
def qbb8 {R : Type} : List AV → (AV → Option R) → Option R := entF qbvs qbzk qbvr
theorem qbzl {R : Type} : qc Try.prog 15 (qbb8 (R := R)) :=
  qba tabOk follows Try.func15 (by kernel_rfl) qbzj (fun z r h => by
 obtain ⟨h1, h2⟩ := qo h
 cases h2
 exact (qez h1).symm) qbyd (qn (by kernel_rfl)) fun xs => qbzi _ _ _ _ _ _ _ _ _
end
end Go.Proofs.Ytmjdngnagiloeaa.Dn
