import Derived.Test.YtmjdngnagiloeaaProg
import Derived.Test.YtmjdngnagiloeaaBgLibD
set_option linter.all false
namespace Go.Proofs.Ytmjdngnagiloeaa.Dn
open Go Go.Pev
set_option linter.unusedVariables false
set_option linter.unusedSimpArgs false
set_option maxRecDepth 100000
set_option maxHeartbeats 4000000
theorem zT : True := True.intro
theorem zA {a b : Prop} (x : a) (y : b) : a ∧ b := ⟨x, y⟩
theorem tabOk : Tab.ok (TIof Try.prog) Try.prog := fun _ _ h => h
theorem follows : Try.prog.follows .mixedOrders = true := by kernel_rfl
def qb : List LT := [.b, (.i .u64), (.i .u64), (.i .i64), (.i .i64), .s, .s, (.i .i64)]
def qc (x0 : Bool) (x1 x2 x3 x4 : Int) (x5 x6 : List UInt8) (x7 : Int) : List AV := [.bool x0, .int .u64 x1, .int .u64 x2, .int .i64 x3, .int .i64 x4, .str x5, .str x6, .int .i64 x7]
def qi {β : Type} (cs : List AV) (f : Bool → Int → Int → Int → Int → List UInt8 → List UInt8 → Int → β) : β := f (gB cs 0) (gI cs 1) (gI cs 2) (gI cs 3) (gI cs 4) (gS cs 5) (gS cs 6) (gI cs 7)
def qbhs : Shp := ⟨[(0, .st (lk qb))], []⟩
noncomputable section
def qw2 (Aa : Bool) (Ab Ac Ad Ae : Int) (Af Ag : List UInt8) (Ah : Int) : Option AV :=
  (oB (cutI Af none (some (if (100 : Int) < (Af.length : Int) then (100 : Int) else (Af.length : Int)))) fun s1 => (oB (cutI Ag none (some (if (100 : Int) < (Ag.length : Int) then (100 : Int) else (Ag.length : Int)))) fun s2 => (some (.agg [(.bool Aa), (.int .u64 Ab), (.int .u64 Ac), (.int .i64 Ad), (.int .i64 Ae), (.str s1), (.str s2), (.int .i64 Ah)]))))
def qp4 := hull qw2
theorem q5w : qp4 = qw2 := qj _
def qw3 : AC AV :=
  .seq (.reg [ao 1 (.box 0),
 ao 2 (.alloc [(.bool false), (.int .u64 0), (.int .u64 0), (.int .i64 0), (.int .i64 0), (.str []), (.str []), (.int .i64 0)])]) (.seq (.reg [ao 3 (.fa 5 1),
 ao 4 (.load false 1 3),
 ao 5 (.fa 5 1),
 ao 6 (.load false 1 5),
 ao 7 (.len true 6),
 ao 8 (.mm false 7 [(.c (.int .i64 100))]),
 ao 9 (.slcs 4 none (some 8)),
 ao 10 (.fa 5 1),
 an (.store 1 10 9)]) (.seq (.reg [ao 11 (.fa 6 1),
 ao 12 (.load false 1 11),
 ao 13 (.fa 6 1),
 ao 14 (.load false 1 13),
 ao 15 (.len true 14),
 ao 16 (.mm false 15 [(.c (.int .i64 100))]),
 ao 17 (.slcs 12 none (some 16)),
 ao 18 (.fa 6 1),
 an (.store 1 18 17)]) (.seq (.reg [ao 19 (.load true 8 1),
 an (.store 8 2 19)]) (.ret))))
theorem qblu : AC.ok Try.prog (TIof Try.prog) 20 0 (kret [(.cell 2 true 8)] (decT [.b, (.i .u64), (.i .u64), (.i .i64), (.i .i64), .s, .s, (.i .i64)])) qw3 := qm trivial
theorem qbos (Aa : Bool) (Ab Ac Ad Ae : Int) (Af Ag : List UInt8) (Ah : Int) : den 0 (kret [(.cell 2 true 8)] (decT [.b, (.i .u64), (.i .u64), (.i .i64), (.i .i64), .s, .s, (.i .i64)])) qw3 (qh [(0, .agg (qc Aa Ab Ac Ad Ae Af Ag Ah))]) (qg []) (kend (kret [(.cell 2 true 8)] (decT [.b, (.i .u64), (.i .u64), (.i .i64), (.i .i64), .s, .s, (.i .i64)]))) = qp4 Aa Ab Ac Ad Ae Af Ag Ah := by
  rw [q5w]; kernel_rfl
theorem qbot : cFn (TIof Try.prog) Try.f42 = some ⟨20, [(.cell 2 true 8)], scOf qw3⟩ := by kernel_rfl
def qbou (xs : List AV) : Option AV := qi ((qk xs) 0).cells (qp4)
def q3r {R : Type} : List AV → (AV → Option R) → Option R := entF qbhs qbou (ql5 (.st [.b, (.i .u64), (.i .u64), (.i .i64), (.i .i64), .s, .s, (.i .i64)]))
theorem qbov {R : Type} : qd Try.prog 42 (q3r (R := R)) :=
  qz tabOk follows Try.func42 (by kernel_rfl) qbot hdeT qblu (qn (by kernel_rfl)) fun xs => qbos _ _ _ _ _ _ _ _
def qnz  (K : Ex → Env → Mem → Option (List AV)) := (fun z_a0 => K (.exit 0) (qh [(3, (.own 0 z_a0.length))]) (qg [(some (.arr true 8 z_a0))]))
def qbf5 : Shp := ⟨[(0, .one (.l (.sl 8))), (3, .one (.own 0)), (4, .one (.l (.i .i64)))], [.arr true 8]⟩
def qtt (v0 : List AV) (v4 : Int) (a0 : List AV) : Env := qh [(0, (.sl 8 v0)), (3, (.own 0 a0.length)), (4, (.int .i64 v4))]
def qtu (v0 : List AV) (v4 : Int) (a0 : List AV) : Mem := qg [(some (.arr true 8 a0))]
def qi3  (v0 : List AV) (v4 : Int) (a0 : List AV) (next : Int → (List AV) → Option (List AV)) (kx0 : (List AV) → Option (List AV)) : Option (List AV) :=
  (bif ((decide (v4 < (v0.length : Int))) && (decide (v4 < (30 : Int)))) then (oB (ixB v0 v4) fun y1 => (bif fitC qb y1.cells then (oB (qp4 (gB y1.cells 0) (gI y1.cells 1) (gI y1.cells 2) (gI y1.cells 3) (gI y1.cells 4) (gS y1.cells 5) (gS y1.cells 6) (gI y1.cells 7)) fun r2 => (bif hd a0 a0.length then (bif hd ([(.agg [(.bool (gB r2.cells 0)), (.int .u64 (gI r2.cells 1)), (.int .u64 (gI r2.cells 2)), (.int .i64 (gI r2.cells 3)), (.int .i64 (gI r2.cells 4)), (.str (gS r2.cells 5)), (.str (gS r2.cells 6)), (.int .i64 (gI r2.cells 7))])] : List AV) (([(.agg [(.bool (gB r2.cells 0)), (.int .u64 (gI r2.cells 1)), (.int .u64 (gI r2.cells 2)), (.int .i64 (gI r2.cells 3)), (.int .i64 (gI r2.cells 4)), (.str (gS r2.cells 5)), (.str (gS r2.cells 6)), (.int .i64 (gI r2.cells 7))])] : List AV).length) then (bif decide ((a0.length + ([(.agg [(.bool (gB r2.cells 0)), (.int .u64 (gI r2.cells 1)), (.int .u64 (gI r2.cells 2)), (.int .i64 (gI r2.cells 3)), (.int .i64 (gI r2.cells 4)), (.str (gS r2.cells 5)), (.str (gS r2.cells 6)), (.int .i64 (gI r2.cells 7))])] : List AV).length) * 80 ≤ 140737488355328) then (next (IntKind.i64.wrap (v4 + (1 : Int))) (a0 ++ ([(.agg [(.bool (gB r2.cells 0)), (.int .u64 (gI r2.cells 1)), (.int .u64 (gI r2.cells 2)), (.int .i64 (gI r2.cells 3)), (.int .i64 (gI r2.cells 4)), (.str (gS r2.cells 5)), (.str (gS r2.cells 6)), (.int .i64 (gI r2.cells 7))])] : List AV))) else none) else none) else none)) else none)) else (kx0 a0))
def qpm  (v0 : List AV) (kx0 : (List AV) → Option (List AV)) : Nat → Int → (List AV) → Option (List AV)
  | 0 => (fun _ _ => none)
  | n + 1 => (fun v4 a0 => qi3 v0 v4 a0 (qpm v0 kx0 n) kx0)
def qs5 := hull (qpm)
theorem q3s : qs5 = qpm := qj _
def qi4 : AC (List AV) :=
  .seq (.seq (.reg [ao 5 (.mv 4),
 ao 6 (.mv 0),
 ao 7 (.len false 6),
 ao 8 (.bin .lss 5 7),
 ao 9 (.mv 8),
 .grp 9 true [(pg 10 9 true (.mv 4)), (pg 11 9 true (.bin .lss 10 (.c (.int .i64 30))))] 12 11]) (.cond 12 (.skip) (.seq (.view [.sel [3] [0]]) (.exit 0)))) (.seq (.block 1 (.reg [ao 15 (.mv 3),
 ao 16 (.mv 0),
 ao 17 (.mv 4),
 ao 18 (.ia 8 16 17),
 .st (.etac 18 qb),
 ao 19 (.load true 8 18),
 .call (po 20 (.call 42 [19])) 42 q3r,
 ao 21 (.bsl 8 [20]),
 ao 22 (.app 8 80 15 21),
 ao 3 (.mv 22)])) (.seq (.reg [ao 13 (.mv 4),
 ao 14 (.bin .add 13 (.c (.int .i64 1))),
 ao 4 (.mv 14)]) (.view [.sel [0, 3, 4] [0]])))
theorem qbht : AC.ok Try.prog (TIof Try.prog) 24 0 (kret [.t 2] (decF true 8)) qi4 := qm (zA (qd.ok qbov) trivial)
theorem qbf6 (v0 : List AV) (v4 : Int) (a0 : List AV) (K : Ex → Env → Mem → Option (List AV)) : den 0 (kret [.t 2] (decF true 8)) qi4 (qtt v0 v4 a0) (qtu v0 v4 a0) K = qi3 v0 v4 a0 (fun z_v4 z_a0 => K .norm (qtt v0 z_v4 z_a0) (qtu v0 z_v4 z_a0)) (qnz K) := by kernel_rfl
theorem qblv (v0 : List AV) (K : Ex → Env → Mem → Option (List AV)) : ∀ (n : Nat) (v4 : Int) (a0 : List AV), qe5 (den 0 (kret [.t 2] (decF true 8)) qi4) n (qtt v0 v4 a0) (qtu v0 v4 a0) K = qs5 v0 (qnz K) n v4 a0 := by
  rw [q3s]
  intro n
  induction n with
  | zero => intros; rfl
  | succ n ih =>
 intro v4 a0
 exact (qbf6 v0 v4 a0 (itK (den 0 (kret [.t 2] (decF true 8)) qi4) n K)).trans (congrArg (fun q => qi3 v0 v4 a0 q (qnz K)) (funext fun v4 => funext fun a0 => ih v4 a0))
def q5x := subE (R := (List AV)) qbf5 fun t m K => qs5 (gL [t 0] 0) (qnz K) FU (gI [t 4] 0) (arL (m.s 0))
theorem qblw : qca Try.prog (TIof Try.prog) 24 0 (kret [.t 2] (decF true 8)) (.loop (scOf qi4)) (q5x) :=
  qen tabOk follows (qbht) (qn (by kernel_rfl)) fun t m K => qblv _ K FU _ _
def qbow : Shp := ⟨[(0, .one (.l (.sl 8)))], []⟩
def q16 (v0 : List AV) : Option (List AV) :=
  (bif (hd ([] : List AV) (([] : List AV).length) && true) then (qs5 v0 (fun a0q1 => (bif hd a0q1 a0q1.length then (some a0q1) else none)) FU (0 : Int) ([] : List AV)) else none)
def qtv := hull q16
theorem q9o : qtv = q16 := qj _
def q17 : AC (List AV) :=
  .seq (.reg [ao 2 (.mv (.c .nils))]) (.seq (.reg [ao 3 (.mv (.c .nils))]) (.seq (.seq (.reg [ao 4 (.mv (.c (.int .i64 0)))]) (.block 0 (.seq (.view [.own 3 8, .sel [0, 3, 4] [0]]) (.sub (.loop (scOf qi4)) q5x)))) (.seq (.reg [ao 23 (.mv 3),
 ao 2 (.mv 23)]) (.ret))))
theorem qbrf : AC.ok Try.prog (TIof Try.prog) 24 0 (kret [.t 2] (decF true 8)) q17 := qm (zA qblw trivial)
theorem qbul (v0 : List AV) : den 0 (kret [.t 2] (decF true 8)) q17 (qh [(0, (.sl 8 v0))]) (qg []) (kend (kret [.t 2] (decF true 8))) = qtv v0 := by
  rw [q9o]; kernel_rfl
theorem qbum : cFn (TIof Try.prog) Try.f10 = some ⟨24, [.t 2], scOf q17⟩ := by kernel_rfl
def qbun (xs : List AV) : Option (List AV) := qtv (gL [(qk xs) 0] 0)
def q7l {R : Type} : List AV → (AV → Option R) → Option R := entF qbow qbun (AV.fr true 8)
theorem qbuo {R : Type} : qd Try.prog 10 (q7l (R := R)) :=
  qz tabOk follows Try.func10 (by kernel_rfl) qbum hdeF qbrf (qn (by kernel_rfl)) fun xs => qbul _
def qdl : List LT := [.b, (.i .u64), (.i .u64)]
def qbp (x0 : Bool) (x1 x2 : Int) : List AV := [.bool x0, .int .u64 x1, .int .u64 x2]
def qcj {β : Type} (cs : List AV) (f : Bool → Int → Int → β) : β := f (gB cs 0) (gI cs 1) (gI cs 2)
def qbup : Shp := ⟨[(0, .st (lk qdl))], []⟩
def q7m (Aa : Bool) (Ab Ac : Int) : Option Bool :=
  (bif Aa then (some true) else (bif (Ab == (0 : Int)) then (some (decide (Ac ≤ (4294967295 : Int)))) else (some false)))
def qux := hull q7m
theorem qbfr : qux = q7m := qj _
def q7n : AC Bool :=
  .seq (.reg [ao 1 (.box 0),
 ao 2 (.mv (.c (.bool false)))]) (.seq (.reg [ao 3 (.fa 0 1),
 ao 4 (.load false 1 3),
 ao 5 (.mv 4),
 ag 6 5 false (.fa 1 1),
 ag 7 5 false (.load false 1 6),
 ag 8 5 false (.bin .eql 7 (.c (.int .u64 0))),
 ag 9 5 false (.mv 8),
 ag 10 9 true (.fa 2 1),
 ag 11 9 true (.load false 1 10),
 ag 12 9 true (.bin .leq 11 (.c (.int .u64 4294967295))),
 ag 13 5 false (.pick 9 12 (.c (.bool false))),
 ao 14 (.pick 5 (.c (.bool true)) 13),
 ao 2 (.mv 14)]) (.ret))
theorem qbxv : AC.ok Try.prog (TIof Try.prog) 15 0 (kret [.t 2] decB) q7n := qm trivial
theorem qbzd (Aa : Bool) (Ab Ac : Int) : den 0 (kret [.t 2] decB) q7n (qh [(0, .agg (qbp Aa Ab Ac))]) (qg []) (kend (kret [.t 2] decB)) = qux Aa Ab Ac := by
  rw [qbfr]; kernel_rfl
theorem qbze : cFn (TIof Try.prog) Try.f73 = some ⟨15, [.t 2], scOf q7n⟩ := by kernel_rfl
def qbzf (xs : List AV) : Option Bool := qcj ((qk xs) 0).cells (qux)
def q18 {R : Type} : List AV → (AV → Option R) → Option R := entF qbup qbzf AV.bool
theorem qbhu {R : Type} : qd Try.prog 73 (q18 (R := R)) :=
  qz tabOk follows Try.func73 (by kernel_rfl) qbze hdeB qbxv (qn (by kernel_rfl)) fun xs => qbzd _ _ _
def qblx : Shp := ⟨[(0, .st (lk qdl))], []⟩
def qyz (Aa : Bool) (Ab Ac : Int) : Option Int :=
  (bif Aa then (some (128 : Int)) else (some (32 : Int)))
def qjn := hull qyz
theorem q7o : qjn = qyz := qj _
def qy0 : AC Int :=
  .seq (.reg [ao 1 (.box 0),
 ao 2 (.mv (.c (.int .i64 0)))]) (.seq (.seq (.reg [ao 3 (.fa 0 1),
 ao 4 (.load false 1 3)]) (.cond 4 (.seq (.reg [ao 2 (.mv (.c (.int .i64 128)))]) (.ret)) (.skip))) (.seq (.reg [ao 2 (.mv (.c (.int .i64 32)))]) (.ret)))
theorem qbox : AC.ok Try.prog (TIof Try.prog) 5 0 (kret [.t 2] (decI .i64)) qy0 := qm trivial
theorem qbrg (Aa : Bool) (Ab Ac : Int) : den 0 (kret [.t 2] (decI .i64)) qy0 (qh [(0, .agg (qbp Aa Ab Ac))]) (qg []) (kend (kret [.t 2] (decI .i64))) = qjn Aa Ab Ac := by
  rw [q7o]; kernel_rfl
theorem qbrh : cFn (TIof Try.prog) Try.f76 = some ⟨5, [.t 2], scOf qy0⟩ := by kernel_rfl
def qbri (xs : List AV) : Option Int := qcj ((qk xs) 0).cells (qjn)
def qmd {R : Type} : List AV → (AV → Option R) → Option R := entF qblx qbri (AV.int .i64)
theorem qs6 {R : Type} : qd Try.prog 76 (qmd (R := R)) :=
  qz tabOk follows Try.func76 (by kernel_rfl) qbrh hdeI qbox (qn (by kernel_rfl)) fun xs => qbrg _ _ _
def qw4 (z : AV) : Option (Int × Int) := cond (qgm [(.one (.i .u64)), (.one (.i .u64))] z) (some (aI (gC (tpL z) 0), aI (gC (tpL z) 1))) none
def qboy (r : Int × Int) : AV := .tup [.int .u64 r.1, .int .u64 r.2]
def qboz : Shp := ⟨[(0, .one (.l .b)), (1, .one (.l (.i .i64)))], []⟩
def quy (v0 : Bool) (v1 : Int) : Option (Int × Int) :=
  (bif (!v0) then (bif decide ((IntKind.u64.wrap (IntKind.i64.wrap ((32 : Int) - v1))) < 0) then none else (some ((0 : Int), (IntKind.u64.wrap ((IntKind.u64.wrap ((1 : Int) * 2 ^ min (IntKind.u64.wrap (IntKind.i64.wrap ((32 : Int) - v1))).toNat IntKind.u64.bits)) - (1 : Int)))))) else (bif (decide (v1 ≥ (64 : Int))) then (bif decide ((IntKind.u64.wrap (IntKind.i64.wrap ((128 : Int) - v1))) < 0) then none else (some ((0 : Int), (IntKind.u64.wrap ((IntKind.u64.wrap ((1 : Int) * 2 ^ min (IntKind.u64.wrap (IntKind.i64.wrap ((128 : Int) - v1))).toNat IntKind.u64.bits)) - (1 : Int)))))) else (bif decide ((IntKind.u64.wrap (IntKind.i64.wrap ((64 : Int) - v1))) < 0) then none else (some ((IntKind.u64.wrap ((IntKind.u64.wrap ((1 : Int) * 2 ^ min (IntKind.u64.wrap (IntKind.i64.wrap ((64 : Int) - v1))).toNat IntKind.u64.bits)) - (1 : Int))), (18446744073709551615 : Int))))))
def qp5 := hull quy
theorem q9p : qp5 = quy := qj _
def q19 : AC (Int × Int) :=
  .seq (.reg [ao 4 (.mv (.c (.int .u64 0))),
 ao 5 (.mv (.c (.int .u64 0)))]) (.seq (.seq (.reg [ao 6 (.mv 0),
 ao 7 (.un .not 6)]) (.cond 7 (.seq (.reg [ao 8 (.mv 1),
 ao 9 (.bin .sub (.c (.int .i64 32)) 8),
 ao 10 (.conv (.int .u64) 9),
 ao 11 (.bin .shl (.c (.int .u64 1)) 10),
 ao 12 (.bin .sub 11 (.c (.int .u64 1))),
 ao 4 (.mv (.c (.int .u64 0))),
 ao 5 (.mv 12)]) (.ret)) (.skip))) (.seq (.seq (.reg [ao 13 (.mv 1),
 ao 14 (.bin .geq 13 (.c (.int .i64 64)))]) (.cond 14 (.seq (.reg [ao 15 (.mv 1),
 ao 16 (.bin .sub (.c (.int .i64 128)) 15),
 ao 17 (.conv (.int .u64) 16),
 ao 18 (.bin .shl (.c (.int .u64 1)) 17),
 ao 19 (.bin .sub 18 (.c (.int .u64 1))),
 ao 4 (.mv (.c (.int .u64 0))),
 ao 5 (.mv 19)]) (.ret)) (.skip))) (.seq (.reg [ao 20 (.mv 1),
 ao 21 (.bin .sub (.c (.int .i64 64)) 20),
 ao 22 (.conv (.int .u64) 21),
 ao 23 (.bin .shl (.c (.int .u64 1)) 22),
 ao 24 (.bin .sub 23 (.c (.int .u64 1))),
 ao 4 (.mv 24),
 ao 5 (.mv (.c (.int .u64 18446744073709551615)))]) (.ret))))
theorem qbrj : AC.ok Try.prog (TIof Try.prog) 25 0 (kret [.t 4, .t 5] qw4) q19 := qm trivial
theorem qbuq (v0 : Bool) (v1 : Int) : den 0 (kret [.t 4, .t 5] qw4) q19 (qh [(0, (.bool v0)), (1, (.int .i64 v1))]) (qg []) (kend (kret [.t 4, .t 5] qw4)) = qp5 v0 v1 := by
  rw [q9p]; kernel_rfl
theorem qbur : cFn (TIof Try.prog) Try.f72 = some ⟨25, [.t 4, .t 5], scOf q19⟩ := by kernel_rfl
def qbus (xs : List AV) : Option (Int × Int) := qp5 (gB [(qk xs) 0] 0) (gI [(qk xs) 1] 0)
def qw5 {R : Type} : List AV → (AV → Option R) → Option R := entF qboz qbus qboy
theorem qbbg {R : Type} : qd Try.prog 72 (qw5 (R := R)) :=
  qz tabOk follows Try.func72 (by kernel_rfl) qbur (fun z r h => by
 obtain ⟨h1, h2⟩ := qo h
 cases h2
 exact (qds h1).symm) qbrj (qn (by kernel_rfl)) fun xs => qbuq _ _
def qf : List LT := [.b, (.i .u64), (.i .u64), (.i .i64)]
def qa (x0 : Bool) (x1 x2 x3 : Int) : List AV := [.bool x0, .int .u64 x1, .int .u64 x2, .int .i64 x3]
def qe {β : Type} (cs : List AV) (f : Bool → Int → Int → Int → β) : β := f (gB cs 0) (gI cs 1) (gI cs 2) (gI cs 3)
def q3t  (Ai : Bool) (Aj Ak Al : Int) (K : Ex → Env → Mem → Option Bool) := (fun z_v21 => K .norm (qh [(1, (.ptr 0 0)), (21, (.bool z_v21))]) (qg [(some (.box true (qa Ai Aj Ak Al)))]))
def qbf7 : Shp := ⟨[(1, .one (.ptr 0 0))], [.box true (lk qf)]⟩
def qvh  (Ai : Bool) (Aj Ak Al : Int) (kn : Bool → Option Bool) : Option Bool :=
  (oB (qux Ai Aj Ak) fun r1 => (bif (!r1) then (kn true) else (bif (decide (Al < (0 : Int))) then (kn true) else (oB (qjn Ai Aj Ak) fun r2 => (kn (decide (Al > r2)))))))
def qs7 := hull (qvh)
theorem q3u : qs7 = qvh := qj _
def qpn : AC Bool :=
  .seq (.draw [] [ao 5 (.fa 0 1),
 ao 6 (.load true 3 5),
 .call (po 7 (.call 73 [6])) 73 q18,
 ao 8 (.un .not 7),
 ao 9 (.mv 8),
 ag 10 9 false (.fa 3 1),
 ag 11 9 false (.load false 1 10),
 ag 12 9 false (.bin .lss 11 (.c (.int .i64 0))),
 ao 13 (.pick 9 (.c (.bool true)) 12),
 ao 14 (.mv 13),
 ag 15 14 false (.fa 3 1),
 ag 16 14 false (.load false 1 15),
 ag 17 14 false (.fa 0 1),
 ag 18 14 false (.load true 3 17),
 .call (pg 19 14 false (.call 76 [18])) 76 qmd] [ag 20 14 false (.bin .gtr 16 19),
 ao 21 (.pick 14 (.c (.bool true)) 20)]) (.view [.sel [1, 21] [0]])
theorem qbhv : AC.ok Try.prog (TIof Try.prog) 45 0 (kret [.t 2] decB) qpn := qm (zA (qd.ok qbhu) (zA (qd.ok qs6) (zA rfl trivial)))
theorem qbly (Ai : Bool) (Aj Ak Al : Int) (K : Ex → Env → Mem → Option Bool) : den 0 (kret [.t 2] decB) qpn (qh [(1, (.ptr 0 0))]) (qg [(some (.box true (qa Ai Aj Ak Al)))]) K = qs7 Ai Aj Ak Al (q3t Ai Aj Ak Al K) := by
  rw [q3u]; kernel_rfl
def q5y := subE (R := Bool) qbf7 fun t m K => qe (bxC (m.s 0)) (qs7) (q3t (gB (bxC (m.s 0)) 0) (gI (bxC (m.s 0)) 1) (gI (bxC (m.s 0)) 2) (gI (bxC (m.s 0)) 3) K)
theorem qblz : qca Try.prog (TIof Try.prog) 45 0 (kret [.t 2] decB) (scOf qpn) (q5y) :=
  qet tabOk follows (qbhv) (qn (by kernel_rfl)) fun t m K => qbly _ _ _ _ K
def qbo0 : Shp := ⟨[(0, .st (lk qf))], []⟩
def q2a (Aa : Bool) (Ab Ac Ad : Int) : Option Bool :=
  (qs7 Aa Ab Ac Ad (fun v21q1 => (bif v21q1 then (some false) else (oB (qp5 Aa Ad) fun r2 => (some (((qb4 .and .u64 Ab r2.1) == (0 : Int)) && ((qb4 .and .u64 Ac r2.2) == (0 : Int))))))))
def qg2 := hull q2a
theorem q9q : qg2 = q2a := qj _
def q2b : AC Bool :=
  .seq (.reg [ao 1 (.box 0),
 ao 2 (.mv (.c (.bool false)))]) (.seq (.seq (.seq (.view [.sel [1] [0]]) (.sub (scOf qpn) q5y)) (.cond 21 (.seq (.reg [ao 2 (.mv (.c (.bool false)))]) (.ret)) (.skip))) (.seq (.reg [ao 23 (.fa 0 1),
 ao 24 (.fa 0 23),
 ao 25 (.load false 1 24),
 ao 26 (.fa 3 1),
 ao 27 (.load false 1 26),
 .call (po 28 (.call 72 [25, 27])) 72 qw5,
 ao 22 (.mv 28),
 ao 29 (.ext 22 0),
 ao 30 (.ext 22 1),
 ao 3 (.mv 29),
 ao 4 (.mv 30)]) (.seq (.reg [ao 31 (.fa 0 1),
 ao 32 (.fa 1 31),
 ao 33 (.load false 1 32),
 ao 34 (.mv 3),
 ao 35 (.bin .and 33 34),
 ao 36 (.bin .eql 35 (.c (.int .u64 0))),
 ao 37 (.mv 36),
 .grp 37 true [(pg 38 37 true (.fa 0 1)), (pg 39 37 true (.fa 2 38)), (pg 40 37 true (.load false 1 39)), (pg 41 37 true (.mv 4)), (pg 42 37 true (.bin .and 40 41)), (pg 43 37 true (.bin .eql 42 (.c (.int .u64 0))))] 44 43,
 ao 2 (.mv 44)]) (.ret))))
theorem qbrk : AC.ok Try.prog (TIof Try.prog) 45 0 (kret [.t 2] decB) q2b := qm (zA qblz (zA (qd.ok qbbg) trivial))
theorem qbut (Aa : Bool) (Ab Ac Ad : Int) : den 0 (kret [.t 2] decB) q2b (qh [(0, .agg (qa Aa Ab Ac Ad))]) (qg []) (kend (kret [.t 2] decB)) = qg2 Aa Ab Ac Ad := by
  rw [q9q]; kernel_rfl
theorem qbuu : cFn (TIof Try.prog) Try.f71 = some ⟨45, [.t 2], scOf q2b⟩ := by kernel_rfl
def qbuv (xs : List AV) : Option Bool := qe ((qk xs) 0).cells (qg2)
def qha {R : Type} : List AV → (AV → Option R) → Option R := entF qbo0 qbuv AV.bool
theorem qm8 {R : Type} : qd Try.prog 71 (qha (R := R)) :=
  qz tabOk follows Try.func71 (by kernel_rfl) qbuu hdeB qbrk (qn (by kernel_rfl)) fun xs => qbut _ _ _ _
def qbo1 : Shp := ⟨[(0, .st (lk qf))], []⟩
def q2c (Aa : Bool) (Ab Ac Ad : Int) : Option Int :=
  (bif Aa then (some (128 : Int)) else (some (32 : Int)))
def qtw := hull q2c
theorem q9r : qtw = q2c := qj _
def q2d : AC Int :=
  .seq (.reg [ao 1 (.box 0),
 ao 2 (.mv (.c (.int .i64 0)))]) (.seq (.seq (.reg [ao 3 (.fa 0 1),
 ao 4 (.fa 0 3),
 ao 5 (.load false 1 4)]) (.cond 5 (.seq (.reg [ao 2 (.mv (.c (.int .i64 128)))]) (.ret)) (.skip))) (.seq (.reg [ao 2 (.mv (.c (.int .i64 32)))]) (.ret)))
theorem qbrl : AC.ok Try.prog (TIof Try.prog) 6 0 (kret [.t 2] (decI .i64)) q2d := qm trivial
theorem qbuw (Aa : Bool) (Ab Ac Ad : Int) : den 0 (kret [.t 2] (decI .i64)) q2d (qh [(0, .agg (qa Aa Ab Ac Ad))]) (qg []) (kend (kret [.t 2] (decI .i64))) = qtw Aa Ab Ac Ad := by
  rw [q9r]; kernel_rfl
theorem qbux : cFn (TIof Try.prog) Try.f77 = some ⟨6, [.t 2], scOf q2d⟩ := by kernel_rfl
def qbuy (xs : List AV) : Option Int := qe ((qk xs) 0).cells (qtw)
def q7p {R : Type} : List AV → (AV → Option R) → Option R := entF qbo1 qbuy (AV.int .i64)
theorem qbuz {R : Type} : qd Try.prog 77 (q7p (R := R)) :=
  qz tabOk follows Try.func77 (by kernel_rfl) qbux hdeI qbrl (qn (by kernel_rfl)) fun xs => qbuw _ _ _ _
def qkx  (K : Ex → Env → Mem → Option Bool) := (fun (_ : Unit) => K (.exit 0) (qh []) (qg []))
def qbap : Shp := ⟨[(0, .one (.l .s)), (19, .one (.l (.i .i64))), (20, .one (.l (.i .i64)))], []⟩
def qp6 (v0 : List UInt8) (v19 v20 : Int) : Env := qh [(0, (.str v0)), (19, (.int .i64 v19)), (20, (.int .i64 v20))]
def qp7 (v0 : List UInt8) (v19 v20 : Int) : Mem := qg []
def qf8  (v0 : List UInt8) (v19 v20 : Int) (next : Int → Option Bool) (kx0 : Unit → Option Bool) : Option Bool :=
  (bif (decide (v20 < v19)) then (oB (ixB v0 v20) fun c1 => (bif (decide ((c1.toNat : Int) < (33 : Int))) then (some false) else (oB (ixB v0 v20) fun c2 => (bif (decide ((c2.toNat : Int) > (126 : Int))) then (some false) else (next (IntKind.i64.wrap (v20 + (1 : Int)))))))) else (kx0 ()))
def qmn  (v0 : List UInt8) (v19 : Int) (kx0 : Unit → Option Bool) : Nat → Int → Option Bool
  | 0 => (fun _ => none)
  | n + 1 => (fun v20 => qf8 v0 v19 v20 (qmn v0 v19 kx0 n) kx0)
def qk8 := hull (qmn)
theorem qx6 : qk8 = qmn := qj _
def qf9 : AC Bool :=
  .seq (.reg [ao 21 (.bin .lss 20 19)]) (.seq (.cond 21 (.skip) (.seq (.view [.sel [] []]) (.exit 0))) (.seq (.block 1 (.seq (.reg [ao 22 (.mv 20),
 ao 7 (.mv 22)]) (.seq (.reg [ao 23 (.mv 0),
 ao 24 (.mv 7),
 ao 25 (.ixs 23 24),
 ao 26 (.bin .lss 25 (.c (.int .u8 33))),
 ao 27 (.mv 26),
 ag 28 27 false (.mv 0),
 ag 29 27 false (.mv 7),
 ag 30 27 false (.ixs 28 29),
 ag 31 27 false (.bin .gtr 30 (.c (.int .u8 126))),
 ao 32 (.pick 27 (.c (.bool true)) 31)]) (.cond 32 (.seq (.reg [ao 6 (.mv (.c (.bool false)))]) (.ret)) (.skip))))) (.seq (.reg [ao 33 (.bin .add 20 (.c (.int .i64 1))),
 ao 20 (.mv 33)]) (.view [.sel [0, 19, 20] []]))))
theorem qbbh : AC.ok Try.prog (TIof Try.prog) 34 0 (kret [.t 6] decB) qf9 := qm trivial
theorem qbaq (v0 : List UInt8) (v19 v20 : Int) (K : Ex → Env → Mem → Option Bool) : den 0 (kret [.t 6] decB) qf9 (qp6 v0 v19 v20) (qp7 v0 v19 v20) K = qf8 v0 v19 v20 (fun z_v20 => K .norm (qp6 v0 v19 z_v20) (qp7 v0 v19 z_v20)) (qkx K) := by kernel_rfl
theorem qbdb (v0 : List UInt8) (v19 : Int) (K : Ex → Env → Mem → Option Bool) : ∀ (n : Nat) (v20 : Int), qe5 (den 0 (kret [.t 6] decB) qf9) n (qp6 v0 v19 v20) (qp7 v0 v19 v20) K = qk8 v0 v19 (qkx K) n v20 := by
  rw [qx6]
  intro n
  induction n with
  | zero => intros; rfl
  | succ n ih =>
 intro v20
 exact (qbaq v0 v19 v20 (itK (den 0 (kret [.t 6] decB) qf9) n K)).trans (congrArg (fun q => qf8 v0 v19 v20 q (qkx K)) (funext fun v20 => ih v20))
def qy1 := subE (R := Bool) qbap fun t m K => qk8 (gS [t 0] 0) (gI [t 19] 0) (qkx K) FU (gI [t 20] 0)
theorem qbdc : qca Try.prog (TIof Try.prog) 34 0 (kret [.t 6] decB) (.loop (scOf qf9)) (qy1) :=
  qen tabOk follows (qbbh) (qn (by kernel_rfl)) fun t m K => qbdb _ _ K FU _
def qbhw : Shp := ⟨[(0, .one (.l .s)), (1, .one (.l (.i .i64))), (2, .one (.l (.i .i64)))], []⟩
def qw6 (v0 : List UInt8) (v1 v2 : Int) : Option Bool :=
  (bif ((decide ((v0.length : Int) < v1)) || (decide ((v0.length : Int) > v2))) then (some false) else (qk8 v0 (v0.length : Int) (fun (_ : Unit) => (some true)) FU (0 : Int)))
def qm9 := hull qw6
theorem q5z : qm9 = qw6 := qj _
def qw7 : AC Bool :=
  .seq (.reg [ao 6 (.mv (.c (.bool false)))]) (.seq (.seq (.reg [ao 8 (.mv 0),
 ao 9 (.len true 8),
 ao 10 (.mv 1),
 ao 11 (.bin .lss 9 10),
 ao 12 (.mv 11),
 .grp 12 false [(pg 13 12 false (.mv 0)), (pg 14 12 false (.len true 13)), (pg 15 12 false (.mv 2)), (pg 16 12 false (.bin .gtr 14 15))] 17 16]) (.cond 17 (.seq (.reg [ao 6 (.mv (.c (.bool false)))]) (.ret)) (.skip))) (.seq (.seq (.reg [ao 18 (.mv 0),
 ao 19 (.len true 18),
 ao 20 (.mv (.c (.int .i64 0)))]) (.block 0 (.seq (.view [.sel [0, 19, 20] []]) (.sub (.loop (scOf qf9)) qy1)))) (.seq (.reg [ao 6 (.mv (.c (.bool true)))]) (.ret))))
theorem qbl0 : AC.ok Try.prog (TIof Try.prog) 34 0 (kret [.t 6] decB) qw7 := qm (zA qbdc trivial)
theorem qbo2 (v0 : List UInt8) (v1 v2 : Int) : den 0 (kret [.t 6] decB) qw7 (qh [(0, (.str v0)), (1, (.int .i64 v1)), (2, (.int .i64 v2))]) (qg []) (kend (kret [.t 6] decB)) = qm9 v0 v1 v2 := by
  rw [q5z]; kernel_rfl
theorem qbo3 : cFn (TIof Try.prog) Try.f78 = some ⟨34, [.t 6], scOf qw7⟩ := by kernel_rfl
def qbo4 (xs : List AV) : Option Bool := qm9 (gS [(qk xs) 0] 0) (gI [(qk xs) 1] 0) (gI [(qk xs) 2] 0)
def qtx {R : Type} : List AV → (AV → Option R) → Option R := entF qbhw qbo4 AV.bool
theorem q7q {R : Type} : qd Try.prog 78 (qtx (R := R)) :=
  qz tabOk follows Try.func78 (by kernel_rfl) qbo3 hdeB qbl0 (qn (by kernel_rfl)) fun xs => qbo2 _ _ _
def q08  (Ai : Bool) (Aj Ak Al Am : Int) (An Ao : List UInt8) (Ap : Int) (K : Ex → Env → Mem → Option Int) := (fun z_v28 => K .norm (qh [(1, (.ptr 0 0)), (28, (.bool z_v28))]) (qg [(some (.box true (qc Ai Aj Ak Al Am An Ao Ap)))]))
def qbdd : Shp := ⟨[(1, .one (.ptr 0 0))], [.box true (lk qb)]⟩
def qty  (Ai : Bool) (Aj Ak Al Am : Int) (An Ao : List UInt8) (Ap : Int) (kn : Bool → Option Int) : Option Int :=
  (bif (decide (Am < (1 : Int))) then (kn true) else (bif (decide (Am > (3 : Int))) then (kn true) else (bif (Am == (3 : Int)) then (oB (qtw Ai Aj Ak Al) fun r1 => (kn (Al != r1))) else (kn false))))
def qqw := hull (qty)
theorem q09 : qqw = qty := qj _
def qof : AC Int :=
  .seq (.draw [] [ao 7 (.fa 4 1),
 ao 8 (.load false 1 7),
 ao 9 (.bin .lss 8 (.c (.int .i64 1))),
 ao 10 (.mv 9),
 ag 11 10 false (.fa 4 1),
 ag 12 10 false (.load false 1 11),
 ag 13 10 false (.bin .gtr 12 (.c (.int .i64 3))),
 ao 14 (.pick 10 (.c (.bool true)) 13),
 ao 15 (.mv 14),
 ag 16 15 false (.fa 4 1),
 ag 17 15 false (.load false 1 16),
 ag 18 15 false (.bin .eql 17 (.c (.int .i64 3))),
 ag 19 15 false (.mv 18),
 ag 20 19 true (.fa 0 1),
 ag 21 19 true (.fa 3 20),
 ag 22 19 true (.load false 1 21),
 ag 23 19 true (.fa 0 1),
 ag 24 19 true (.load true 4 23),
 .call (pg 25 19 true (.call 77 [24])) 77 q7p] [ag 26 19 true (.bin .neq 22 25),
 ag 27 15 false (.pick 19 26 (.c (.bool false))),
 ao 28 (.pick 15 (.c (.bool true)) 27)]) (.view [.sel [1, 28] [0]])
theorem qbf8 : AC.ok Try.prog (TIof Try.prog) 49 0 (kret [.t 2] (decI .i64)) qof := qm (zA (qd.ok qbuz) (zA rfl trivial))
theorem qbhx (Ai : Bool) (Aj Ak Al Am : Int) (An Ao : List UInt8) (Ap : Int) (K : Ex → Env → Mem → Option Int) : den 0 (kret [.t 2] (decI .i64)) qof (qh [(1, (.ptr 0 0))]) (qg [(some (.box true (qc Ai Aj Ak Al Am An Ao Ap)))]) K = qqw Ai Aj Ak Al Am An Ao Ap (q08 Ai Aj Ak Al Am An Ao Ap K) := by
  rw [q09]; kernel_rfl
def q3v := subE (R := Int) qbdd fun t m K => qi (bxC (m.s 0)) (qqw) (q08 (gB (bxC (m.s 0)) 0) (gI (bxC (m.s 0)) 1) (gI (bxC (m.s 0)) 2) (gI (bxC (m.s 0)) 3) (gI (bxC (m.s 0)) 4) (gS (bxC (m.s 0)) 5) (gS (bxC (m.s 0)) 6) (gI (bxC (m.s 0)) 7) K)
theorem qbhy : qca Try.prog (TIof Try.prog) 49 0 (kret [.t 2] (decI .i64)) (scOf qof) (q3v) :=
  qet tabOk follows (qbf8) (qn (by kernel_rfl)) fun t m K => qbhx _ _ _ _ _ _ _ _ K
def qbo5 : Shp := ⟨[(0, .st (lk qb))], []⟩
def q2e (Aa : Bool) (Ab Ac Ad Ae : Int) (Af Ag : List UInt8) (Ah : Int) : Option Int :=
  (oB (qg2 Aa Ab Ac Ad) fun r1 => (bif (!r1) then (some (3 : Int)) else (qqw Aa Ab Ac Ad Ae Af Ag Ah (fun v28q2 => (bif v28q2 then (some (1 : Int)) else (oB (qm9 Af (1 : Int) (63 : Int)) fun r3 => (bif (!r3) then (some (1 : Int)) else (oB (qm9 Ag (0 : Int) (32 : Int)) fun r4 => (bif (((!r4) || (decide (Ah < (0 : Int)))) || (decide (Ah > (4294967295 : Int)))) then (some (1 : Int)) else (some (0 : Int)))))))))))
def qng := hull q2e
theorem q9s : qng = q2e := qj _
def q2f : AC Int :=
  .seq (.reg [ao 1 (.box 0),
 ao 2 (.mv (.c (.int .i64 0)))]) (.seq (.seq (.reg [ao 3 (.fa 0 1),
 ao 4 (.load true 4 3),
 .call (po 5 (.call 71 [4])) 71 qha,
 ao 6 (.un .not 5)]) (.cond 6 (.seq (.reg [ao 2 (.mv (.c (.int .i64 3)))]) (.ret)) (.skip))) (.seq (.seq (.seq (.view [.sel [1] [0]]) (.sub (scOf qof) q3v)) (.cond 28 (.seq (.reg [ao 2 (.mv (.c (.int .i64 1)))]) (.ret)) (.skip))) (.seq (.seq (.reg [ao 29 (.fa 5 1),
 ao 30 (.load false 1 29),
 .call (po 31 (.call 78 [30, (.c (.int .i64 1)), (.c (.int .i64 63))])) 78 qtx,
 ao 32 (.un .not 31),
 ao 33 (.mv 32),
 ag 34 33 false (.fa 6 1),
 ag 35 33 false (.load false 1 34),
 .call (pg 36 33 false (.call 78 [35, (.c (.int .i64 0)), (.c (.int .i64 32))])) 78 qtx,
 ag 37 33 false (.un .not 36),
 ao 38 (.pick 33 (.c (.bool true)) 37),
 ao 39 (.mv 38),
 .grp 39 false [(pg 40 39 false (.fa 7 1)), (pg 41 39 false (.load false 1 40)), (pg 42 39 false (.bin .lss 41 (.c (.int .i64 0))))] 43 42,
 ao 44 (.mv 43),
 .grp 44 false [(pg 45 44 false (.fa 7 1)), (pg 46 44 false (.load false 1 45)), (pg 47 44 false (.bin .gtr 46 (.c (.int .i64 4294967295))))] 48 47]) (.cond 48 (.seq (.reg [ao 2 (.mv (.c (.int .i64 1)))]) (.ret)) (.skip))) (.seq (.reg [ao 2 (.mv (.c (.int .i64 0)))]) (.ret)))))
theorem qbrm : AC.ok Try.prog (TIof Try.prog) 49 0 (kret [.t 2] (decI .i64)) q2f := qm (zA (qd.ok qm8) (zA qbhy (zA (qd.ok q7q) (zA (qd.ok q7q) trivial))))
theorem qbu0 (Aa : Bool) (Ab Ac Ad Ae : Int) (Af Ag : List UInt8) (Ah : Int) : den 0 (kret [.t 2] (decI .i64)) q2f (qh [(0, .agg (qc Aa Ab Ac Ad Ae Af Ag Ah))]) (qg []) (kend (kret [.t 2] (decI .i64))) = qng Aa Ab Ac Ad Ae Af Ag Ah := by
  rw [q9s]; kernel_rfl
theorem qbu1 : cFn (TIof Try.prog) Try.f43 = some ⟨49, [.t 2], scOf q2f⟩ := by kernel_rfl
def qbu2 (xs : List AV) : Option Int := qi ((qk xs) 0).cells (qng)
def qw8 {R : Type} : List AV → (AV → Option R) → Option R := entF qbo5 qbu2 (AV.int .i64)
theorem qbbi {R : Type} : qd Try.prog 43 (qw8 (R := R)) :=
  qz tabOk follows Try.func43 (by kernel_rfl) qbu1 hdeI qbrm (qn (by kernel_rfl)) fun xs => qbu0 _ _ _ _ _ _ _ _
def qbrn : Shp := ⟨[(0, .one (.l (.i .u64))), (1, .one (.l (.i .u64)))], []⟩
def q5a (v0 v1 : Int) : Option Int :=
  (bif (decide (v0 < v1)) then (some (-1 : Int)) else (bif (decide (v0 > v1)) then (some (1 : Int)) else (some (0 : Int))))
def qwb := hull q5a
theorem qbbj : qwb = q5a := qj _
def q5b : AC Int :=
  .seq (.reg [ao 4 (.mv (.c (.int .i64 0)))]) (.seq (.block 0 (.seq (.reg [ao 6 (.mv 0),
 ao 7 (.mv 1),
 ao 8 (.bin .lss 6 7),
 ao 5 (.mv 8)]) (.cond 5 (.seq (.reg [ao 4 (.mv (.c (.int .i64 (-1))))]) (.ret)) (.seq (.reg [ao 10 (.mv 0),
 ao 11 (.mv 1),
 ao 12 (.bin .gtr 10 11),
 ao 9 (.mv 12)]) (.cond 9 (.seq (.reg [ao 4 (.mv (.c (.int .i64 1)))]) (.ret)) (.skip)))))) (.seq (.reg [ao 4 (.mv (.c (.int .i64 0)))]) (.ret)))
theorem qbu3 : AC.ok Try.prog (TIof Try.prog) 13 0 (kret [.t 4] (decI .i64)) q5b := qm trivial
theorem qbxw (v0 v1 : Int) : den 0 (kret [.t 4] (decI .i64)) q5b (qh [(0, (.int .u64 v0)), (1, (.int .u64 v1))]) (qg []) (kend (kret [.t 4] (decI .i64))) = qwb v0 v1 := by
  rw [qbbj]; kernel_rfl
theorem qbxx : cFn (TIof Try.prog) Try.f101 = some ⟨13, [.t 4], scOf q5b⟩ := by kernel_rfl
def qbxy (xs : List AV) : Option Int := qwb (gI [(qk xs) 0] 0) (gI [(qk xs) 1] 0)
def qy2 {R : Type} : List AV → (AV → Option R) → Option R := entF qbrn qbxy (AV.int .i64)
theorem qbfs {R : Type} : qd Try.prog 101 (qy2 (R := R)) :=
  qz tabOk follows Try.func101 (by kernel_rfl) qbxx hdeI qbu3 (qn (by kernel_rfl)) fun xs => qbxw _ _
def qbo6 : Shp := ⟨[(0, .st (lk qdl)), (1, .st (lk qdl))], []⟩
def q2g (Aa : Bool) (Ab Ac : Int) (Aq : Bool) (Ar As : Int) : Option Int :=
  (bif ((!((Aa == Aq) && true)) && Aq) then (some (-1 : Int)) else (bif (!((Aa == Aq) && true)) then (some (1 : Int)) else (bif (Ab != Ar) then (oB (qwb Ab Ar) fun r1 => (some r1)) else (oB (qwb Ac As) fun r2 => (some r2)))))
def qtz := hull q2g
theorem q9t : qtz = q2g := qj _
def q2h : AC Int :=
  .seq (.reg [ao 2 (.box 0),
 ao 3 (.box 1),
 ao 4 (.mv (.c (.int .i64 0)))]) (.seq (.block 0 (.seq (.reg [ao 6 (.fa 0 2),
 ao 7 (.load false 1 6),
 ao 8 (.fa 0 3),
 ao 9 (.load false 1 8),
 ao 10 (.eq true false [.b] 7 9),
 ao 11 (.mv 10),
 .grp 11 true [(pg 12 11 true (.fa 0 3)), (pg 13 11 true (.load false 1 12))] 14 13,
 ao 5 (.mv 14)]) (.cond 5 (.seq (.reg [ao 4 (.mv (.c (.int .i64 (-1))))]) (.ret)) (.seq (.reg [ao 16 (.fa 0 2),
 ao 17 (.load false 1 16),
 ao 18 (.fa 0 3),
 ao 19 (.load false 1 18),
 ao 20 (.eq true false [.b] 17 19),
 ao 15 (.mv 20)]) (.cond 15 (.seq (.reg [ao 4 (.mv (.c (.int .i64 1)))]) (.ret)) (.seq (.reg [ao 22 (.fa 1 2),
 ao 23 (.load false 1 22),
 ao 24 (.fa 1 3),
 ao 25 (.load false 1 24),
 ao 26 (.bin .neq 23 25),
 ao 21 (.mv 26)]) (.cond 21 (.seq (.reg [ao 27 (.fa 1 2),
 ao 28 (.load false 1 27),
 ao 29 (.fa 1 3),
 ao 30 (.load false 1 29),
 .call (po 31 (.call 101 [28, 30])) 101 qy2,
 ao 4 (.mv 31)]) (.ret)) (.skip)))))))) (.seq (.reg [ao 32 (.fa 2 2),
 ao 33 (.load false 1 32),
 ao 34 (.fa 2 3),
 ao 35 (.load false 1 34),
 .call (po 36 (.call 101 [33, 35])) 101 qy2,
 ao 4 (.mv 36)]) (.ret)))
theorem qbro : AC.ok Try.prog (TIof Try.prog) 37 0 (kret [.t 4] (decI .i64)) q2h := qm (zA (qd.ok qbfs) (zA (qd.ok qbfs) trivial))
theorem qbu4 (Aa : Bool) (Ab Ac : Int) (Aq : Bool) (Ar As : Int) : den 0 (kret [.t 4] (decI .i64)) q2h (qh [(0, .agg (qbp Aa Ab Ac)), (1, .agg (qbp Aq Ar As))]) (qg []) (kend (kret [.t 4] (decI .i64))) = qtz Aa Ab Ac Aq Ar As := by
  rw [q9t]; kernel_rfl
theorem qbu5 : cFn (TIof Try.prog) Try.f75 = some ⟨37, [.t 4], scOf q2h⟩ := by kernel_rfl
def qbu6 (xs : List AV) : Option Int := qcj ((qk xs) 1).cells (qcj ((qk xs) 0).cells (qtz))
def q7r {R : Type} : List AV → (AV → Option R) → Option R := entF qbo6 qbu6 (AV.int .i64)
theorem qbu7 {R : Type} : qd Try.prog 75 (q7r (R := R)) :=
  qz tabOk follows Try.func75 (by kernel_rfl) qbu5 hdeI qbro (qn (by kernel_rfl)) fun xs => qbu4 _ _ _ _ _ _
def qbhz : Shp := ⟨[(0, .st (lk qf)), (1, .st (lk qf))], []⟩
def qw9 (Aa : Bool) (Ab Ac Ad : Int) (Aq : Bool) (Ar As At : Int) : Option Int :=
  (oB (qtz Aa Ab Ac Aq Ar As) fun r1 => (bif (r1 != (0 : Int)) then (some r1) else (bif (decide (Ad < At)) then (some (-1 : Int)) else (bif (decide (Ad > At)) then (some (1 : Int)) else (some (0 : Int))))))
def qna := hull qw9
theorem q50 : qna = qw9 := qj _
def qxa : AC Int :=
  .seq (.reg [ao 2 (.box 0),
 ao 3 (.box 1),
 ao 4 (.mv (.c (.int .i64 0)))]) (.seq (.seq (.reg [ao 6 (.fa 0 2),
 ao 7 (.load true 3 6),
 ao 8 (.fa 0 3),
 ao 9 (.load true 3 8),
 .call (po 10 (.call 75 [7, 9])) 75 q7r,
 ao 5 (.mv 10)]) (.seq (.reg [ao 11 (.mv 5),
 ao 12 (.bin .neq 11 (.c (.int .i64 0)))]) (.cond 12 (.seq (.reg [ao 13 (.mv 5),
 ao 4 (.mv 13)]) (.ret)) (.skip)))) (.seq (.block 0 (.seq (.reg [ao 15 (.fa 3 2),
 ao 16 (.load false 1 15),
 ao 17 (.fa 3 3),
 ao 18 (.load false 1 17),
 ao 19 (.bin .lss 16 18),
 ao 14 (.mv 19)]) (.cond 14 (.seq (.reg [ao 4 (.mv (.c (.int .i64 (-1))))]) (.ret)) (.seq (.reg [ao 21 (.fa 3 2),
 ao 22 (.load false 1 21),
 ao 23 (.fa 3 3),
 ao 24 (.load false 1 23),
 ao 25 (.bin .gtr 22 24),
 ao 20 (.mv 25)]) (.cond 20 (.seq (.reg [ao 4 (.mv (.c (.int .i64 1)))]) (.ret)) (.skip)))))) (.seq (.reg [ao 4 (.mv (.c (.int .i64 0)))]) (.ret))))
theorem qbl1 : AC.ok Try.prog (TIof Try.prog) 26 0 (kret [.t 4] (decI .i64)) qxa := qm (zA (qd.ok qbu7) trivial)
theorem qbo7 (Aa : Bool) (Ab Ac Ad : Int) (Aq : Bool) (Ar As At : Int) : den 0 (kret [.t 4] (decI .i64)) qxa (qh [(0, .agg (qa Aa Ab Ac Ad)), (1, .agg (qa Aq Ar As At))]) (qg []) (kend (kret [.t 4] (decI .i64))) = qna Aa Ab Ac Ad Aq Ar As At := by
  rw [q50]; kernel_rfl
theorem qbo8 : cFn (TIof Try.prog) Try.f40 = some ⟨26, [.t 4], scOf qxa⟩ := by kernel_rfl
def qbo9 (xs : List AV) : Option Int := qe ((qk xs) 1).cells (qe ((qk xs) 0).cells (qna))
def qt0 {R : Type} : List AV → (AV → Option R) → Option R := entF qbhz qbo9 (AV.int .i64)
theorem q7s {R : Type} : qd Try.prog 40 (qt0 (R := R)) :=
  qz tabOk follows Try.func40 (by kernel_rfl) qbo8 hdeI qbl1 (qn (by kernel_rfl)) fun xs => qbo7 _ _ _ _ _ _ _ _
def qob (z : AV) : Option (AV × Bool) := cond (qgm [(.st [.b, (.i .u64), (.i .u64), (.i .i64)]), (.one .b)] z) (some ((gC (tpL z) 0), aB (gC (tpL z) 1))) none
def qbxz (r : AV × Bool) : AV := .tup [ql5 (.st [.b, (.i .u64), (.i .u64), (.i .i64)]) r.1, .bool r.2]
def q9u  (v1 : Int) (Ai : Bool) (Aj Ak : Int) (Au : Bool) (Av Aw Ax : Int) (K : Ex → Env → Mem → Option (AV × Bool)) := (fun z_v20 => K .norm (qh [(1, (.int .i64 v1)), (2, (.ptr 0 0)), (4, (.ptr 1 0)), (20, (.bool z_v20))]) (qg [(some (.box true (qbp Ai Aj Ak))), (some (.box true (qa Au Av Aw Ax)))]))
def qbpa : Shp := ⟨[(1, .one (.l (.i .i64))), (2, .one (.ptr 0 0)), (4, .one (.ptr 1 0))], [.box true (lk qdl), .box true (lk qf)]⟩
def q2i  (v1 : Int) (Ai : Bool) (Aj Ak : Int) (Au : Bool) (Av Aw Ax : Int) (kn : Bool → Option (AV × Bool)) : Option (AV × Bool) :=
  (oB (qux Ai Aj Ak) fun r1 => (bif ((!r1) || (decide (v1 < (0 : Int)))) then (kn true) else (oB (qjn Ai Aj Ak) fun r2 => (kn (decide (v1 > r2))))))
def qy3 := hull (q2i)
theorem q9v : qy3 = q2i := qj _
def quz : AC (AV × Bool) :=
  .seq (.reg [ao 8 (.load true 3 2),
 .call (po 9 (.call 73 [8])) 73 q18,
 ao 10 (.un .not 9),
 ao 11 (.mv 10),
 .grp 11 false [(pg 12 11 false (.mv 1)), (pg 13 11 false (.bin .lss 12 (.c (.int .i64 0))))] 14 13,
 ao 15 (.mv 14),
 ag 16 15 false (.mv 1),
 ag 17 15 false (.load true 3 2),
 .call (pg 18 15 false (.call 76 [17])) 76 qmd,
 ag 19 15 false (.bin .gtr 16 18),
 ao 20 (.pick 15 (.c (.bool true)) 19)]) (.view [.sel [1, 2, 4, 20] [0, 1]])
theorem qbrp : AC.ok Try.prog (TIof Try.prog) 42 0 (kret [(.cell 4 true 4), .t 5] qob) quz := qm (zA (qd.ok qbhu) (zA (qd.ok qs6) trivial))
theorem qbu8 (v1 : Int) (Ai : Bool) (Aj Ak : Int) (Au : Bool) (Av Aw Ax : Int) (K : Ex → Env → Mem → Option (AV × Bool)) : den 0 (kret [(.cell 4 true 4), .t 5] qob) quz (qh [(1, (.int .i64 v1)), (2, (.ptr 0 0)), (4, (.ptr 1 0))]) (qg [(some (.box true (qbp Ai Aj Ak))), (some (.box true (qa Au Av Aw Ax)))]) K = qy3 v1 Ai Aj Ak Au Av Aw Ax (q9u v1 Ai Aj Ak Au Av Aw Ax K) := by
  rw [q9v]; kernel_rfl
def qbbk := subE (R := AV × Bool) qbpa fun t m K => qe (bxC (m.s 1)) (qcj (bxC (m.s 0)) (qy3 (gI [t 1] 0))) (q9u (gI [t 1] 0) (gB (bxC (m.s 0)) 0) (gI (bxC (m.s 0)) 1) (gI (bxC (m.s 0)) 2) (gB (bxC (m.s 1)) 0) (gI (bxC (m.s 1)) 1) (gI (bxC (m.s 1)) 2) (gI (bxC (m.s 1)) 3) K)
theorem qbu9 : qca Try.prog (TIof Try.prog) 42 0 (kret [(.cell 4 true 4), .t 5] qob) (scOf quz) (qbbk) :=
  qet tabOk follows (qbrp) (qn (by kernel_rfl)) fun t m K => qbu8 _ _ _ _ _ _ _ _ K
def qbx0 : Shp := ⟨[(0, .st (lk qdl)), (1, .one (.l (.i .i64)))], []⟩
def qbar (Aa : Bool) (Ab Ac v1 : Int) : Option (AV × Bool) :=
  (qy3 v1 Aa Ab Ac false (0 : Int) (0 : Int) (0 : Int) (fun v20q1 => (bif v20q1 then (some ((.agg [(.bool false), (.int .u64 (0 : Int)), (.int .u64 (0 : Int)), (.int .i64 (0 : Int))]), false)) else (oB (qp5 Aa v1) fun r2 => (some ((.agg [(.bool Aa), (.int .u64 (qb4 .andNot .u64 Ab r2.1)), (.int .u64 (qb4 .andNot .u64 Ac r2.2)), (.int .i64 v1)]), true))))))
def q3w := hull qbar
theorem qbh0 : q3w = qbar := qj _
def qbas : AC (AV × Bool) :=
  .seq (.reg [ao 2 (.box 0),
 ao 4 (.alloc [(.bool false), (.int .u64 0), (.int .u64 0), (.int .i64 0)]),
 ao 5 (.mv (.c (.bool false)))]) (.seq (.seq (.seq (.view [.sel [1, 2, 4] [0, 1]]) (.sub (scOf quz) qbbk)) (.cond 20 (.seq (.reg [ao 21 (.build [(.bool false), (.int .u64 0), (.int .u64 0), (.int .i64 0)] []),
 an (.store 4 4 21),
 ao 5 (.mv (.c (.bool false)))]) (.ret)) (.skip))) (.seq (.reg [ao 23 (.fa 0 2),
 ao 24 (.load false 1 23),
 ao 25 (.mv 1),
 .call (po 26 (.call 72 [24, 25])) 72 qw5,
 ao 22 (.mv 26),
 ao 27 (.ext 22 0),
 ao 28 (.ext 22 1),
 ao 6 (.mv 27),
 ao 7 (.mv 28)]) (.seq (.reg [ao 29 (.fa 1 2),
 ao 30 (.load false 1 29),
 ao 31 (.mv 6),
 ao 32 (.bin .andNot 30 31),
 ao 33 (.fa 1 2),
 an (.store 1 33 32)]) (.seq (.reg [ao 34 (.fa 2 2),
 ao 35 (.load false 1 34),
 ao 36 (.mv 7),
 ao 37 (.bin .andNot 35 36),
 ao 38 (.fa 2 2),
 an (.store 1 38 37)]) (.seq (.reg [ao 39 (.load true 3 2),
 ao 40 (.mv 1),
 ao 41 (.build [(.bool false), (.int .u64 0), (.int .u64 0), (.int .i64 0)] [(0, (3, 39)), (3, (1, 40))]),
 an (.store 4 4 41),
 ao 5 (.mv (.c (.bool true)))]) (.ret))))))
theorem qbzg : AC.ok Try.prog (TIof Try.prog) 42 0 (kret [(.cell 4 true 4), .t 5] qob) qbas := qm (zA qbu9 (zA (qd.ok qbbg) trivial))
theorem qb1b (Aa : Bool) (Ab Ac v1 : Int) : den 0 (kret [(.cell 4 true 4), .t 5] qob) qbas (qh [(0, .agg (qbp Aa Ab Ac)), (1, (.int .i64 v1))]) (qg []) (kend (kret [(.cell 4 true 4), .t 5] qob)) = q3w Aa Ab Ac v1 := by
  rw [qbh0]; kernel_rfl
theorem qb1c : cFn (TIof Try.prog) Try.f41 = some ⟨42, [(.cell 4 true 4), .t 5], scOf qbas⟩ := by kernel_rfl
def qb1d (xs : List AV) : Option (AV × Bool) := qcj ((qk xs) 0).cells (q3w) (gI [(qk xs) 1] 0)
def qbft {R : Type} : List AV → (AV → Option R) → Option R := entF qbx0 qb1d qbxz
theorem qb1e {R : Type} : qd Try.prog 41 (qbft (R := R)) :=
  qz tabOk follows Try.func41 (by kernel_rfl) qb1c (fun z r h => by
 obtain ⟨h1, h2⟩ := qo h
 cases h2
 exact (qds h1).symm) qbzg (qn (by kernel_rfl)) fun xs => qb1b _ _ _ _
def qbf9 : Shp := ⟨[(0, .st (lk qf)), (1, .st (lk qdl))], []⟩
def qvi (Aa : Bool) (Ab Ac Ad : Int) (Aq : Bool) (Ar As : Int) : Option Bool :=
  (oB (qg2 Aa Ab Ac Ad) fun r1 => (bif ((!r1) || (!((Aa == Aq) && true))) then (some false) else (oB (q3w Aq Ar As Ad) fun r2 => (some (r2.2 && (((gB r2.1.cells 0) == Aa) && (((gI r2.1.cells 1) == Ab) && (((gI r2.1.cells 2) == Ac) && (((gI r2.1.cells 3) == Ad) && true)))))))))
def qlp := hull qvi
theorem q3x : qlp = qvi := qj _
def qvj : AC Bool :=
  .seq (.reg [ao 2 (.box 0),
 ao 3 (.box 1),
 ao 4 (.mv (.c (.bool false)))]) (.seq (.seq (.reg [ao 7 (.load true 4 2),
 .call (po 8 (.call 71 [7])) 71 qha,
 ao 9 (.un .not 8),
 ao 10 (.mv 9),
 .grp 10 false [(pg 11 10 false (.fa 0 2)), (pg 12 10 false (.fa 0 11)), (pg 13 10 false (.load false 1 12)), (pg 14 10 false (.fa 0 3)), (pg 15 10 false (.load false 1 14)), (pg 16 10 false (.eq true false [.b] 13 15))] 17 16]) (.cond 17 (.seq (.reg [ao 4 (.mv (.c (.bool false)))]) (.ret)) (.skip))) (.seq (.reg [ao 19 (.load true 3 3),
 ao 20 (.fa 3 2),
 ao 21 (.load false 1 20),
 .call (po 22 (.call 41 [19, 21])) 41 qbft,
 ao 18 (.mv 22),
 ao 23 (.ext 18 0),
 ao 24 (.ext 18 1),
 ao 5 (.alloc [(.bool false), (.int .u64 0), (.int .u64 0), (.int .i64 0)]),
 an (.store 4 5 23),
 ao 6 (.mv 24)]) (.seq (.reg [ao 25 (.mv 6),
 ao 26 (.mv 25),
 .grp 26 true [(pg 27 26 true (.load true 4 5)), (pg 28 26 true (.load true 4 2)), (pg 29 26 true (.eq false true [.b, (.i .u64), (.i .u64), (.i .i64)] 27 28))] 30 29,
 ao 4 (.mv 30)]) (.ret))))
theorem qbh1 : AC.ok Try.prog (TIof Try.prog) 31 0 (kret [.t 4] decB) qvj := qm (zA (qd.ok qm8) (zA (qd.ok qb1e) trivial))
theorem qbl2 (Aa : Bool) (Ab Ac Ad : Int) (Aq : Bool) (Ar As : Int) : den 0 (kret [.t 4] decB) qvj (qh [(0, .agg (qa Aa Ab Ac Ad)), (1, .agg (qbp Aq Ar As))]) (qg []) (kend (kret [.t 4] decB)) = qlp Aa Ab Ac Ad Aq Ar As := by
  rw [q3x]; kernel_rfl
theorem qbl3 : cFn (TIof Try.prog) Try.f35 = some ⟨31, [.t 4], scOf qvj⟩ := by kernel_rfl
def qbl4 (xs : List AV) : Option Bool := qcj ((qk xs) 1).cells (qe ((qk xs) 0).cells (qlp))
def qsg {R : Type} : List AV → (AV → Option R) → Option R := entF qbf9 qbl4 AV.bool
theorem q51 {R : Type} : qd Try.prog 35 (qsg (R := R)) :=
  qz tabOk follows Try.func35 (by kernel_rfl) qbl3 hdeB qbh1 (qn (by kernel_rfl)) fun xs => qbl2 _ _ _ _ _ _ _
def qbl5 : Shp := ⟨[(0, .st (lk qf)), (1, .st (lk qf))], []⟩
def qy4 (Aa : Bool) (Ab Ac Ad : Int) (Aq : Bool) (Ar As At : Int) : Option Bool :=
  (oB (qg2 Aa Ab Ac Ad) fun r1 => (bif r1 then (oB (qg2 Aq Ar As At) fun r2 => (bif (r2 && (decide (Ad ≥ At))) then (oB (qlp Aq Ar As At Aa Ab Ac) fun r3 => (some r3)) else (some false))) else (some false)))
def qjo := hull qy4
theorem q7t : qjo = qy4 := qj _
def qy5 : AC Bool :=
  .seq (.reg [ao 2 (.box 0),
 ao 3 (.box 1),
 ao 4 (.mv (.c (.bool false)))]) (.seq (.reg [ao 5 (.load true 4 2),
 .call (po 6 (.call 71 [5])) 71 qha,
 ao 7 (.mv 6),
 ag 8 7 true (.load true 4 3),
 .call (pg 9 7 true (.call 71 [8])) 71 qha,
 ao 10 (.pick 7 9 (.c (.bool false))),
 ao 11 (.mv 10),
 .grp 11 true [(pg 12 11 true (.fa 3 2)), (pg 13 11 true (.load false 1 12)), (pg 14 11 true (.fa 3 3)), (pg 15 11 true (.load false 1 14)), (pg 16 11 true (.bin .geq 13 15))] 17 16,
 ao 18 (.mv 17),
 ag 19 18 true (.load true 4 3),
 ag 20 18 true (.fa 0 2),
 ag 21 18 true (.load true 3 20),
 .call (pg 22 18 true (.call 35 [19, 21])) 35 qsg,
 ao 23 (.pick 18 22 (.c (.bool false))),
 ao 4 (.mv 23)]) (.ret))
theorem qbpb : AC.ok Try.prog (TIof Try.prog) 24 0 (kret [.t 4] decB) qy5 := qm (zA (qd.ok qm8) (zA (qd.ok qm8) (zA (qd.ok q51) trivial)))
theorem qbrq (Aa : Bool) (Ab Ac Ad : Int) (Aq : Bool) (Ar As At : Int) : den 0 (kret [.t 4] decB) qy5 (qh [(0, .agg (qa Aa Ab Ac Ad)), (1, .agg (qa Aq Ar As At))]) (qg []) (kend (kret [.t 4] decB)) = qjo Aa Ab Ac Ad Aq Ar As At := by
  rw [q7t]; kernel_rfl
theorem qbrr : cFn (TIof Try.prog) Try.f37 = some ⟨24, [.t 4], scOf qy5⟩ := by kernel_rfl
def qbrs (xs : List AV) : Option Bool := qe ((qk xs) 1).cells (qe ((qk xs) 0).cells (qjo))
def qme {R : Type} : List AV → (AV → Option R) → Option R := entF qbl5 qbrs AV.bool
theorem qs8 {R : Type} : qd Try.prog 37 (qme (R := R)) :=
  qz tabOk follows Try.func37 (by kernel_rfl) qbrr hdeB qbpb (qn (by kernel_rfl)) fun xs => qbrq _ _ _ _ _ _ _ _
def qbrt : Shp := ⟨[(0, .st (lk qf)), (1, .st (lk qf))], []⟩
def q5c (Aa : Bool) (Ab Ac Ad : Int) (Aq : Bool) (Ar As At : Int) : Option Bool :=
  (bif (decide (Ad > At)) then (oB (qjo Aa Ab Ac Ad Aq Ar As At) fun r1 => (some r1)) else (some false))
def qg3 := hull q5c
theorem qbbl : qg3 = q5c := qj _
def q5d : AC Bool :=
  .seq (.reg [ao 2 (.box 0),
 ao 3 (.box 1),
 ao 4 (.mv (.c (.bool false)))]) (.seq (.reg [ao 5 (.fa 3 2),
 ao 6 (.load false 1 5),
 ao 7 (.fa 3 3),
 ao 8 (.load false 1 7),
 ao 9 (.bin .gtr 6 8),
 ao 10 (.mv 9),
 ag 11 10 true (.load true 4 2),
 ag 12 10 true (.load true 4 3),
 .call (pg 13 10 true (.call 37 [11, 12])) 37 qme,
 ao 14 (.pick 10 13 (.c (.bool false))),
 ao 4 (.mv 14)]) (.ret))
theorem qbva : AC.ok Try.prog (TIof Try.prog) 15 0 (kret [.t 4] decB) q5d := qm (zA (qd.ok qs8) trivial)
theorem qbx1 (Aa : Bool) (Ab Ac Ad : Int) (Aq : Bool) (Ar As At : Int) : den 0 (kret [.t 4] decB) q5d (qh [(0, .agg (qa Aa Ab Ac Ad)), (1, .agg (qa Aq Ar As At))]) (qg []) (kend (kret [.t 4] decB)) = qg3 Aa Ab Ac Ad Aq Ar As At := by
  rw [qbbl]; kernel_rfl
theorem qbx2 : cFn (TIof Try.prog) Try.f64 = some ⟨15, [.t 4], scOf q5d⟩ := by kernel_rfl
def qbx3 (xs : List AV) : Option Bool := qe ((qk xs) 1).cells (qe ((qk xs) 0).cells (qg3))
def qgq {R : Type} : List AV → (AV → Option R) → Option R := entF qbrt qbx3 AV.bool
theorem ql7 {R : Type} : qd Try.prog 64 (qgq (R := R)) :=
  qz tabOk follows Try.func64 (by kernel_rfl) qbx2 hdeB qbva (qn (by kernel_rfl)) fun xs => qbx1 _ _ _ _ _ _ _ _
def qbl6 : Shp := ⟨[(0, .st (lk qb)), (1, .st (lk qb))], []⟩
def qy6 (Aa : Bool) (Ab Ac Ad Ae : Int) (Af Ag : List UInt8) (Ah : Int) (Aq : Bool) (Ar As At Ay : Int) (Az A0 : List UInt8) (A1 : Int) : Option Bool :=
  (bif (Ae == (1 : Int)) then (some true) else (bif (Ae == (2 : Int)) then (some (Ay == (3 : Int))) else (some false)))
def qr0 := hull qy6
theorem q7u : qr0 = qy6 := qj _
def qy7 : AC Bool :=
  .seq (.reg [ao 2 (.box 0),
 ao 3 (.box 1),
 ao 4 (.mv (.c (.bool false)))]) (.seq (.reg [ao 5 (.fa 4 2),
 ao 6 (.load false 1 5),
 ao 7 (.bin .eql 6 (.c (.int .i64 1))),
 ao 8 (.mv 7),
 ag 9 8 false (.fa 4 2),
 ag 10 8 false (.load false 1 9),
 ag 11 8 false (.bin .eql 10 (.c (.int .i64 2))),
 ag 12 8 false (.mv 11),
 ag 13 12 true (.fa 4 3),
 ag 14 12 true (.load false 1 13),
 ag 15 12 true (.bin .eql 14 (.c (.int .i64 3))),
 ag 16 8 false (.pick 12 15 (.c (.bool false))),
 ao 17 (.pick 8 (.c (.bool true)) 16),
 ao 4 (.mv 17)]) (.ret))
theorem qbpc : AC.ok Try.prog (TIof Try.prog) 18 0 (kret [.t 4] decB) qy7 := qm trivial
theorem qbru (Aa : Bool) (Ab Ac Ad Ae : Int) (Af Ag : List UInt8) (Ah : Int) (Aq : Bool) (Ar As At Ay : Int) (Az A0 : List UInt8) (A1 : Int) : den 0 (kret [.t 4] decB) qy7 (qh [(0, .agg (qc Aa Ab Ac Ad Ae Af Ag Ah)), (1, .agg (qc Aq Ar As At Ay Az A0 A1))]) (qg []) (kend (kret [.t 4] decB)) = qr0 Aa Ab Ac Ad Ae Af Ag Ah Aq Ar As At Ay Az A0 A1 := by
  rw [q7u]; kernel_rfl
theorem qbrv : cFn (TIof Try.prog) Try.f80 = some ⟨18, [.t 4], scOf qy7⟩ := by kernel_rfl
def qbrw (xs : List AV) : Option Bool := qi ((qk xs) 1).cells (qi ((qk xs) 0).cells (qr0))
def q52 {R : Type} : List AV → (AV → Option R) → Option R := entF qbl6 qbrw AV.bool
theorem qbrx {R : Type} : qd Try.prog 80 (q52 (R := R)) :=
  qz tabOk follows Try.func80 (by kernel_rfl) qbrv hdeB qbpc (qn (by kernel_rfl)) fun xs => qbru _ _ _ _ _ _ _ _ _ _ _ _ _ _ _ _
def qbat : Shp := ⟨[(0, .st (lk qb)), (1, .one (.ptr 0 0))], [.box true (lk qb)]⟩
def qx7 {R : Type} (KK : AV → Mem → Option R) := (fun v3 Ai Aj Ak Al Am An Ao Ap => KK (.bool v3) (qg [(some (.box true [(.bool Ai), (.int .u64 Aj), (.int .u64 Ak), (.int .i64 Al), (.int .i64 Am), (.str An), (.str Ao), (.int .i64 Ap)]))]))
def qqx {R : Type}  (Aa : Bool) (Ab Ac Ad Ae : Int) (Af Ag : List UInt8) (Ah : Int) (Ai : Bool) (Aj Ak Al Am : Int) (An Ao : List UInt8) (Ap : Int) (kr : Bool → Bool → Int → Int → Int → Int → (List UInt8) → (List UInt8) → Int → Option R) : Option R :=
  (oB (qg3 Ai Aj Ak Al Aa Ab Ac Ad) fun r1 => (bif r1 then (oB (qr0 Aa Ab Ac Ad Ae Af Ag Ah Ai Aj Ak Al Am An Ao Ap) fun r2 => (kr (!r2) Ai Aj Ak Al Am An Ao Ap)) else (kr false Ai Aj Ak Al Am An Ao Ap)))
def qk9 {R : Type} := hull (qqx (R := R))
theorem qx8 {R : Type} : qk9 (R := R) = qqx := qj _
def qga {R : Type} (KK : AV → Mem → Option R) : AC R :=
  .seq (.reg [ao 2 (.box 0),
 ao 3 (.mv (.c (.bool false)))]) (.seq (.reg [ao 4 (.fa 0 1),
 ao 5 (.load true 4 4),
 ao 6 (.fa 0 2),
 ao 7 (.load true 4 6),
 .call (po 8 (.call 64 [5, 7])) 64 qgq,
 ao 9 (.mv 8),
 ag 10 9 true (.load true 8 2),
 ag 11 9 true (.load true 8 1),
 .call (pg 12 9 true (.call 80 [10, 11])) 80 q52,
 ag 13 9 true (.un .not 12),
 ao 14 (.pick 9 13 (.c (.bool false))),
 ao 3 (.mv 14)]) (.seq (.view [.sel [3] [0]]) (.ret)))
theorem qbbm {R : Type} (KK : AV → Mem → Option R) : AC.ok Try.prog (TIof Try.prog) 15 1 (qq [.t 3] KK) (qga KK) := qm (zA (qd.ok ql7) (zA (qd.ok qbrx) trivial))
theorem qbde {R : Type} (KK : AV → Mem → Option R) (Aa : Bool) (Ab Ac Ad Ae : Int) (Af Ag : List UInt8) (Ah : Int) (Ai : Bool) (Aj Ak Al Am : Int) (An Ao : List UInt8) (Ap : Int) : den 1 (qq [.t 3] KK) (qga KK) (qh [(0, .agg (qc Aa Ab Ac Ad Ae Af Ag Ah)), (1, (.ptr 0 0))]) (qg [(some (.box true (qc Ai Aj Ak Al Am An Ao Ap)))]) (kend (qq [.t 3] KK)) = qk9 Aa Ab Ac Ad Ae Af Ag Ah Ai Aj Ak Al Am An Ao Ap (qx7 KK) := by
  rw [qx8]; kernel_rfl
theorem qbdf : cFn (TIof Try.prog) Try.f79 = some ⟨15, [.t 3], scOf (qga (R := Unit) (fun _ _ => none))⟩ := by kernel_rfl
theorem qbdg {R : Type} (KK : AV → Mem → Option R) : (qga KK).er = some (scOf (qga (R := Unit) (fun _ _ => none))) := by kernel_rfl
def qy8 {R : Type} : List AV → Mem → (AV → Mem → Option R) → Option R := refE qbat fun xs m KK => qi (bxC (m.s 0)) (qi ((qk xs) 0).cells (qk9)) (qx7 KK)
theorem qbdh {R : Type} : qfn Try.prog 79 (qy8 (R := R)) :=
  qlm (ac := fun KK => qga KK) tabOk follows Try.func79 (by kernel_rfl) qbdf (fun KK => qbbm KK) (fun KK => qbdg KK) rfl fun xs m KK => qbde KK _ _ _ _ _ _ _ _ _ _ _ _ _ _ _ _
def qbs {R : Type}  (K : Ex → Env → Mem → Option R) := (fun z_b0_0 z_b0_1 z_b0_2 z_b0_3 z_b0_4 z_b0_5 z_b0_6 z_b0_7 => K (.exit 0) (qh []) (qg [(some (.box true (qc z_b0_0 z_b0_1 z_b0_2 z_b0_3 z_b0_4 z_b0_5 z_b0_6 z_b0_7)))]))
def qbu {R : Type} (KK : AV → Mem → Option R) := (fun v4 Ai Aj Ak Al Am An Ao Ap => KK (.int .i64 v4) (qg [(some (.box true [(.bool Ai), (.int .u64 Aj), (.int .u64 Ak), (.int .i64 Al), (.int .i64 Am), (.str An), (.str Ao), (.int .i64 Ap)]))]))
def qhh : Shp := ⟨[(0, .one (.l (.sl 8))), (1, .one (.fn 79 [(0, 0)])), (7, .one (.l (.i .i64))), (8, .one (.l (.i .i64)))], [.box true (lk qb)]⟩
def qcr (v0 : List AV) (v7 v8 : Int) (Ai : Bool) (Aj Ak Al Am : Int) (An Ao : List UInt8) (Ap : Int) : Env := qh [(0, (.sl 8 v0)), (1, (.func 79 [(.ptr 0 0)])), (7, (.int .i64 v7)), (8, (.int .i64 v8))]
def qcs (v0 : List AV) (v7 v8 : Int) (Ai : Bool) (Aj Ak Al Am : Int) (An Ao : List UInt8) (Ap : Int) : Mem := qg [(some (.box true (qc Ai Aj Ak Al Am An Ao Ap)))]
def qw {R : Type}  (v0 : List AV) (v7 v8 : Int) (Ai : Bool) (Aj Ak Al Am : Int) (An Ao : List UInt8) (Ap : Int) (next : Int → Bool → Int → Int → Int → Int → (List UInt8) → (List UInt8) → Int → Option R) (kx0 : Bool → Int → Int → Int → Int → (List UInt8) → (List UInt8) → Int → Option R) (kr : Int → Bool → Int → Int → Int → Int → (List UInt8) → (List UInt8) → Int → Option R) : Option R :=
  (bif (decide (v8 < v7)) then (oB (ixB v0 v8) fun y1 => (bif fitC qb y1.cells then (qk9 (gB y1.cells 0) (gI y1.cells 1) (gI y1.cells 2) (gI y1.cells 3) (gI y1.cells 4) (gS y1.cells 5) (gS y1.cells 6) (gI y1.cells 7) Ai Aj Ak Al Am An Ao Ap fun v3q2 b0_0q3 b0_1q4 b0_2q5 b0_3q6 b0_4q7 b0_5q8 b0_6q9 b0_7q10 => (bif v3q2 then (kr v8 b0_0q3 b0_1q4 b0_2q5 b0_3q6 b0_4q7 b0_5q8 b0_6q9 b0_7q10) else (next (IntKind.i64.wrap (v8 + (1 : Int))) b0_0q3 b0_1q4 b0_2q5 b0_3q6 b0_4q7 b0_5q8 b0_6q9 b0_7q10))) else none)) else (kx0 Ai Aj Ak Al Am An Ao Ap))
def qby {R : Type}  (v0 : List AV) (v7 : Int) (kx0 : Bool → Int → Int → Int → Int → (List UInt8) → (List UInt8) → Int → Option R) (kr : Int → Bool → Int → Int → Int → Int → (List UInt8) → (List UInt8) → Int → Option R) : Nat → Int → Bool → Int → Int → Int → Int → (List UInt8) → (List UInt8) → Int → Option R
  | 0 => (fun _ _ _ _ _ _ _ _ _ => none)
  | n + 1 => (fun v8 Ai Aj Ak Al Am An Ao Ap => qw v0 v7 v8 Ai Aj Ak Al Am An Ao Ap (qby v0 v7 kx0 kr n) kx0 kr)
def qb6 {R : Type} := hull (qby (R := R))
theorem qdt {R : Type} : qb6 (R := R) = qby := qj _
def qx {R : Type} (KK : AV → Mem → Option R) : AC R :=
  .seq (.reg [ao 9 (.bin .lss 8 7)]) (.seq (.cond 9 (.skip) (.seq (.view [.sel [] [0]]) (.exit 0))) (.seq (.block 1 (.seq (.reg [ao 10 (.mv 8),
 ao 5 (.mv 10)]) (.seq (.reg [ao 11 (.mv 1),
 ao 12 (.mv 0),
 ao 13 (.mv 5),
 ao 14 (.ia 8 12 13),
 .st (.etac 14 qb),
 ao 15 (.load true 8 14),
 .st (.sel [0, 1, 5, 7, 8, 11, 15] [0]),
 .callr (po 16 (.callv 11 [15])) 79 qy8]) (.cond 16 (.seq (.reg [ao 17 (.mv 5),
 ao 4 (.mv 17)]) (.seq (.view [.sel [4] [0]]) (.ret))) (.skip))))) (.seq (.reg [ao 18 (.bin .add 8 (.c (.int .i64 1))),
 ao 8 (.mv 18)]) (.view [.sel [0, 1, 7, 8] [0]]))))
theorem qh1 {R : Type} (KK : AV → Mem → Option R) : AC.ok Try.prog (TIof Try.prog) 19 1 (qq [.t 4] KK) (qx KK) := qm (zA qbdh trivial)
theorem qhi {R : Type} (KK : AV → Mem → Option R) (v0 : List AV) (v7 v8 : Int) (Ai : Bool) (Aj Ak Al Am : Int) (An Ao : List UInt8) (Ap : Int) (K : Ex → Env → Mem → Option R) : den 1 (qq [.t 4] KK) (qx KK) (qcr v0 v7 v8 Ai Aj Ak Al Am An Ao Ap) (qcs v0 v7 v8 Ai Aj Ak Al Am An Ao Ap) K = qw v0 v7 v8 Ai Aj Ak Al Am An Ao Ap (fun z_v8 z_b0_0 z_b0_1 z_b0_2 z_b0_3 z_b0_4 z_b0_5 z_b0_6 z_b0_7 => K .norm (qcr v0 v7 z_v8 z_b0_0 z_b0_1 z_b0_2 z_b0_3 z_b0_4 z_b0_5 z_b0_6 z_b0_7) (qcs v0 v7 z_v8 z_b0_0 z_b0_1 z_b0_2 z_b0_3 z_b0_4 z_b0_5 z_b0_6 z_b0_7)) (qbs K) (qbu KK) := by kernel_rfl
theorem qic {R : Type} (KK : AV → Mem → Option R) (v0 : List AV) (v7 : Int) (K : Ex → Env → Mem → Option R) : ∀ (n : Nat) (v8 : Int) (Ai : Bool) (Aj Ak Al Am : Int) (An Ao : List UInt8) (Ap : Int), qe5 (den 1 (qq [.t 4] KK) (qx KK)) n (qcr v0 v7 v8 Ai Aj Ak Al Am An Ao Ap) (qcs v0 v7 v8 Ai Aj Ak Al Am An Ao Ap) K = qb6 v0 v7 (qbs K) (qbu KK) n v8 Ai Aj Ak Al Am An Ao Ap := by
  rw [qdt]
  intro n
  induction n with
  | zero => intros; rfl
  | succ n ih =>
 intro v8 Ai Aj Ak Al Am An Ao Ap
 exact (qhi KK v0 v7 v8 Ai Aj Ak Al Am An Ao Ap (itK (den 1 (qq [.t 4] KK) (qx KK)) n K)).trans (congrArg (fun q => qw v0 v7 v8 Ai Aj Ak Al Am An Ao Ap q (qbs K) (qbu KK)) (funext fun v8 => funext fun Ai => funext fun Aj => funext fun Ak => funext fun Al => funext fun Am => funext fun An => funext fun Ao => funext fun Ap => ih v8 Ai Aj Ak Al Am An Ao Ap))
def qd2 {R : Type} (KK : AV → Mem → Option R) := subE (R := R) qhh fun t m K => qi (bxC (m.s 0)) (qb6 (gL [t 0] 0) (gI [t 7] 0) (qbs K) (qbu KK) FU (gI [t 8] 0))
theorem qid {R : Type} (KK : AV → Mem → Option R) : qca Try.prog (TIof Try.prog) 19 1 (qq [.t 4] KK) (.loop (scOf (qx KK))) (qd2 KK) :=
  qen tabOk follows (qh1 KK) (qn (by kernel_rfl)) fun t m K => qic KK _ _ K FU _ _ _ _ _ _ _ _ _
def qil : Shp := ⟨[(0, .one (.l (.sl 8))), (1, .one (.fn 79 [(0, 0)]))], [.box true (lk qb)]⟩
def qed {R : Type} (KK : AV → Mem → Option R) := (fun v4 Ai Aj Ak Al Am An Ao Ap => KK (.int .i64 v4) (qg [(some (.box true [(.bool Ai), (.int .u64 Aj), (.int .u64 Ak), (.int .i64 Al), (.int .i64 Am), (.str An), (.str Ao), (.int .i64 Ap)]))]))
def qc5 {R : Type}  (v0 : List AV) (Ai : Bool) (Aj Ak Al Am : Int) (An Ao : List UInt8) (Ap : Int) (kr : Int → Bool → Int → Int → Int → Int → (List UInt8) → (List UInt8) → Int → Option R) : Option R :=
  (qb6 v0 (v0.length : Int) (fun b0_0q1 b0_1q2 b0_2q3 b0_3q4 b0_4q5 b0_5q6 b0_6q7 b0_7q8 => (kr (-1 : Int) b0_0q1 b0_1q2 b0_2q3 b0_3q4 b0_4q5 b0_5q6 b0_6q7 b0_7q8)) kr FU (0 : Int) Ai Aj Ak Al Am An Ao Ap)
def qbm {R : Type} := hull (qc5 (R := R))
theorem qee {R : Type} : qbm (R := R) = qc5 := qj _
def qbd {R : Type} (KK : AV → Mem → Option R) : AC R :=
  .seq (.reg [ao 4 (.mv (.c (.int .i64 0)))]) (.seq (.seq (.reg [ao 6 (.mv 0),
 ao 7 (.len false 6),
 ao 8 (.mv (.c (.int .i64 0)))]) (.block 0 (.seq (.view [.sel [0, 1, 7, 8] [0]]) (.sub (.loop (scOf (qx KK))) (qd2 KK))))) (.seq (.reg [ao 4 (.mv (.c (.int .i64 (-1))))]) (.seq (.view [.sel [4] [0]]) (.ret))))
theorem qje {R : Type} (KK : AV → Mem → Option R) : AC.ok Try.prog (TIof Try.prog) 19 1 (qq [.t 4] KK) (qbd KK) := qm (zA (qid KK) trivial)
theorem qjs {R : Type} (KK : AV → Mem → Option R) (v0 : List AV) (Ai : Bool) (Aj Ak Al Am : Int) (An Ao : List UInt8) (Ap : Int) : den 1 (qq [.t 4] KK) (qbd KK) (qh [(0, (.sl 8 v0)), (1, (.func 79 [(.ptr 0 0)]))]) (qg [(some (.box true (qc Ai Aj Ak Al Am An Ao Ap)))]) (kend (qq [.t 4] KK)) = qbm v0 Ai Aj Ak Al Am An Ao Ap (qed KK) := by
  rw [qee]; kernel_rfl
theorem qjt : cFn (TIof Try.prog) Try.f88 = some ⟨19, [.t 4], scOf (qbd (R := Unit) (fun _ _ => none))⟩ := by kernel_rfl
theorem qju {R : Type} (KK : AV → Mem → Option R) : (qbd KK).er = some (scOf (qbd (R := Unit) (fun _ _ => none))) := by kernel_rfl
def qeo {R : Type} : List AV → Mem → (AV → Mem → Option R) → Option R := refE qil fun xs m KK => qi (bxC (m.s 0)) (qbm (gL [(qk xs) 0] 0)) (qed KK)
theorem qjv {R : Type} : qfn Try.prog 88 (qeo (R := R)) :=
  qlm (ac := fun KK => qbd KK) tabOk follows Try.func88 (by kernel_rfl) qjt (fun KK => qje KK) (fun KK => qju KK) rfl fun xs m KK => qjs KK _ _ _ _ _ _ _ _ _
def qhj : Shp := ⟨[(0, .one (.l (.sl 8))), (1, .one (.fn 79 [(0, 0)]))], [.box true (lk qb)]⟩
def qdu {R : Type} (KK : AV → Mem → Option R) := (fun v4 Ai Aj Ak Al Am An Ao Ap => KK (.bool v4) (qg [(some (.box true [(.bool Ai), (.int .u64 Aj), (.int .u64 Ak), (.int .i64 Al), (.int .i64 Am), (.str An), (.str Ao), (.int .i64 Ap)]))]))
def qcv {R : Type}  (v0 : List AV) (Ai : Bool) (Aj Ak Al Am : Int) (An Ao : List UInt8) (Ap : Int) (kr : Bool → Bool → Int → Int → Int → Int → (List UInt8) → (List UInt8) → Int → Option R) : Option R :=
  (qbm v0 Ai Aj Ak Al Am An Ao Ap fun v4q1 b0_0q2 b0_1q3 b0_2q4 b0_3q5 b0_4q6 b0_5q7 b0_6q8 b0_7q9 => (kr (decide (v4q1 ≥ (0 : Int))) b0_0q2 b0_1q3 b0_2q4 b0_3q5 b0_4q6 b0_5q7 b0_6q8 b0_7q9))
def qb7 {R : Type} := hull (qcv (R := R))
theorem qdv {R : Type} : qb7 (R := R) = qcv := qj _
def qy {R : Type} (KK : AV → Mem → Option R) : AC R :=
  .seq (.reg [ao 4 (.mv (.c (.bool false)))]) (.seq (.reg [ao 5 (.mv 0),
 ao 6 (.mv 1),
 .st (.sel [5, 6] [0]),
 .callr (po 7 (.call 88 [5, 6])) 88 qeo,
 ao 8 (.bin .geq 7 (.c (.int .i64 0))),
 ao 4 (.mv 8)]) (.seq (.view [.sel [4] [0]]) (.ret)))
theorem qh2 {R : Type} (KK : AV → Mem → Option R) : AC.ok Try.prog (TIof Try.prog) 9 1 (qq [.t 4] KK) (qy KK) := qm (zA qjv trivial)
theorem qie {R : Type} (KK : AV → Mem → Option R) (v0 : List AV) (Ai : Bool) (Aj Ak Al Am : Int) (An Ao : List UInt8) (Ap : Int) : den 1 (qq [.t 4] KK) (qy KK) (qh [(0, (.sl 8 v0)), (1, (.func 79 [(.ptr 0 0)]))]) (qg [(some (.box true (qc Ai Aj Ak Al Am An Ao Ap)))]) (kend (qq [.t 4] KK)) = qb7 v0 Ai Aj Ak Al Am An Ao Ap (qdu KK) := by
  rw [qdv]; kernel_rfl
theorem qif : cFn (TIof Try.prog) Try.f68 = some ⟨9, [.t 4], scOf (qy (R := Unit) (fun _ _ => none))⟩ := by kernel_rfl
theorem qig {R : Type} (KK : AV → Mem → Option R) : (qy KK).er = some (scOf (qy (R := Unit) (fun _ _ => none))) := by kernel_rfl
def qd3 {R : Type} : List AV → Mem → (AV → Mem → Option R) → Option R := refE qhj fun xs m KK => qi (bxC (m.s 0)) (qb7 (gL [(qk xs) 0] 0)) (qdu KK)
theorem qih {R : Type} : qfn Try.prog 68 (qd3 (R := R)) :=
  qlm (ac := fun KK => qy KK) tabOk follows Try.func68 (by kernel_rfl) qif (fun KK => qh2 KK) (fun KK => qig KK) rfl fun xs m KK => qie KK _ _ _ _ _ _ _ _ _
def qbdi : Shp := ⟨[(0, .one (.l (.sl 8))), (1, .st (lk qb))], []⟩
def qt1 (v0 : List AV) (Aq : Bool) (Ar As At Ay : Int) (Az A0 : List UInt8) (A1 : Int) : Option Bool :=
  (qb7 v0 Aq Ar As At Ay Az A0 A1 fun v4q1 b0_0q2 b0_1q3 b0_2q4 b0_3q5 b0_4q6 b0_5q7 b0_6q8 b0_7q9 => (some v4q1))
def qhb := hull qt1
theorem q1a : qhb = qt1 := qj _
def qt2 : AC Bool :=
  .seq (.reg [ao 3 (.box 1),
 ao 4 (.mv (.c (.bool false)))]) (.seq (.reg [ao 5 (.mv 0),
 ao 6 (.mkf 79 [3]),
 .st (.sel [5, 6] [0]),
 .callr (po 7 (.call 68 [5, 6])) 68 qd3,
 ao 4 (.mv 7)]) (.ret))
theorem qbga : AC.ok Try.prog (TIof Try.prog) 8 0 (kret [.t 4] decB) qt2 := qm (zA qih trivial)
theorem qbh2 (v0 : List AV) (Aq : Bool) (Ar As At Ay : Int) (Az A0 : List UInt8) (A1 : Int) : den 0 (kret [.t 4] decB) qt2 (qh [(0, (.sl 8 v0)), (1, .agg (qc Aq Ar As At Ay Az A0 A1))]) (qg []) (kend (kret [.t 4] decB)) = qhb v0 Aq Ar As At Ay Az A0 A1 := by
  rw [q1a]; kernel_rfl
theorem qbh3 : cFn (TIof Try.prog) Try.f44 = some ⟨8, [.t 4], scOf qt2⟩ := by kernel_rfl
def qbh4 (xs : List AV) : Option Bool := qi ((qk xs) 1).cells (qhb (gL [(qk xs) 0] 0))
def qqy {R : Type} : List AV → (AV → Option R) → Option R := entF qbdi qbh4 AV.bool
theorem q3y {R : Type} : qd Try.prog 44 (qqy (R := R)) :=
  qz tabOk follows Try.func44 (by kernel_rfl) qbh3 hdeB qbga (qn (by kernel_rfl)) fun xs => qbh2 _ _ _ _ _ _ _ _ _
def q1b  (v0 : List AV) (v3 : Int) (v10 : List AV) (v11 v12 : Int) (Ai : Bool) (Aj Ak Al Am : Int) (An Ao : List UInt8) (Ap : Int) (K : Ex → Env → Mem → Option Int) := (fun (_ : Unit) => K .norm (qh [(0, (.sl 8 v0)), (3, (.int .i64 v3)), (4, (.ptr 0 0)), (10, (.sl 8 v10)), (11, (.int .i64 v11)), (12, (.int .i64 v12))]) (qg [(some (.box true (qc Ai Aj Ak Al Am An Ao Ap)))]))
def qbdj : Shp := ⟨[(0, .one (.l (.sl 8))), (3, .one (.l (.i .i64))), (4, .one (.ptr 0 0)), (10, .one (.l (.sl 8))), (11, .one (.l (.i .i64))), (12, .one (.l (.i .i64)))], [.box true (lk qb)]⟩
def qt3  (v0 : List AV) (v3 : Int) (v10 : List AV) (v11 v12 : Int) (Ai : Bool) (Aj Ak Al Am : Int) (An Ao : List UInt8) (Ap : Int) (kn : Unit → Option Int) : Option Int :=
  (bif (decide (v3 > (0 : Int))) then (oB (ixB v0 (IntKind.i64.wrap (v3 - (1 : Int)))) fun y1 => (bif fitC qb y1.cells then (oB (qna Ai Aj Ak Al (gB y1.cells 0) (gI y1.cells 1) (gI y1.cells 2) (gI y1.cells 3)) fun r2 => (bif (decide (r2 < (0 : Int))) then (some (7 : Int)) else (bif (r2 == (0 : Int)) then (some (12 : Int)) else (kn ())))) else none)) else (kn ()))
def qqz := hull (qt3)
theorem q1c : qqz = qt3 := qj _
def qog : AC Int :=
  .seq (.reg [ao 22 (.mv 3),
 ao 23 (.bin .gtr 22 (.c (.int .i64 0)))]) (.cond 23 (.seq (.draw [] [ao 24 (.fa 0 4),
 ao 25 (.load true 4 24),
 ao 26 (.mv 0),
 ao 27 (.mv 3),
 ao 28 (.bin .sub 27 (.c (.int .i64 1))),
 ao 29 (.ia 8 26 28),
 .et 29 qb,
 ao 30 (.fa 0 29),
 ao 31 (.load true 4 30)] [.call (po 32 (.call 40 [25, 31])) 40 qt0,
 ao 6 (.mv 32)]) (.seq (.seq (.reg [ao 33 (.mv 6),
 ao 34 (.bin .lss 33 (.c (.int .i64 0)))]) (.cond 34 (.seq (.reg [ao 2 (.mv (.c (.int .i64 7)))]) (.ret)) (.skip))) (.seq (.reg [ao 35 (.mv 6),
 ao 36 (.bin .eql 35 (.c (.int .i64 0)))]) (.cond 36 (.seq (.reg [ao 2 (.mv (.c (.int .i64 12)))]) (.ret)) (.seq (.skip) (.view [.sel [0, 3, 4, 10, 11, 12] [0]])))))) (.seq (.skip) (.view [.sel [0, 3, 4, 10, 11, 12] [0]])))
theorem qbgb : AC.ok Try.prog (TIof Try.prog) 43 0 (kret [.t 2] (decI .i64)) qog := qm (zA (qd.ok q7s) (zA rfl trivial))
theorem qbh5 (v0 : List AV) (v3 : Int) (v10 : List AV) (v11 v12 : Int) (Ai : Bool) (Aj Ak Al Am : Int) (An Ao : List UInt8) (Ap : Int) (K : Ex → Env → Mem → Option Int) : den 0 (kret [.t 2] (decI .i64)) qog (qh [(0, (.sl 8 v0)), (3, (.int .i64 v3)), (4, (.ptr 0 0)), (10, (.sl 8 v10)), (11, (.int .i64 v11)), (12, (.int .i64 v12))]) (qg [(some (.box true (qc Ai Aj Ak Al Am An Ao Ap)))]) K = qqz v0 v3 v10 v11 v12 Ai Aj Ak Al Am An Ao Ap (q1b v0 v3 v10 v11 v12 Ai Aj Ak Al Am An Ao Ap K) := by
  rw [q1c]; kernel_rfl
def q3z := subE (R := Int) qbdj fun t m K => qi (bxC (m.s 0)) (qqz (gL [t 0] 0) (gI [t 3] 0) (gL [t 10] 0) (gI [t 11] 0) (gI [t 12] 0)) (q1b (gL [t 0] 0) (gI [t 3] 0) (gL [t 10] 0) (gI [t 11] 0) (gI [t 12] 0) (gB (bxC (m.s 0)) 0) (gI (bxC (m.s 0)) 1) (gI (bxC (m.s 0)) 2) (gI (bxC (m.s 0)) 3) (gI (bxC (m.s 0)) 4) (gS (bxC (m.s 0)) 5) (gS (bxC (m.s 0)) 6) (gI (bxC (m.s 0)) 7) K)
theorem qbh6 : qca Try.prog (TIof Try.prog) 43 0 (kret [.t 2] (decI .i64)) (scOf qog) (q3z) :=
  qet tabOk follows (qbgb) (qn (by kernel_rfl)) fun t m K => qbh5 _ _ _ _ _ _ _ _ _ _ _ _ _ K
def qmo  (K : Ex → Env → Mem → Option Int) := (fun (_ : Unit) => K (.exit 0) (qh []) (qg []))
def qbdk : Shp := ⟨[(0, .one (.l (.sl 8))), (10, .one (.l (.sl 8))), (11, .one (.l (.i .i64))), (12, .one (.l (.i .i64)))], []⟩
def qsh (v0 v10 : List AV) (v11 v12 : Int) : Env := qh [(0, (.sl 8 v0)), (10, (.sl 8 v10)), (11, (.int .i64 v11)), (12, (.int .i64 v12))]
def qsi (v0 v10 : List AV) (v11 v12 : Int) : Mem := qg []
def qhk  (v0 v10 : List AV) (v11 v12 : Int) (next : Int → Option Int) (kx0 : Unit → Option Int) : Option Int :=
  (bif (decide (v12 < v11)) then (oB (ixB v10 v12) fun y1 => (bif fitC qb y1.cells then (oB (qng (gB y1.cells 0) (gI y1.cells 1) (gI y1.cells 2) (gI y1.cells 3) (gI y1.cells 4) (gS y1.cells 5) (gS y1.cells 6) (gI y1.cells 7)) fun r2 => (bif (r2 != (0 : Int)) then (some r2) else (qqz v0 v12 v10 v11 v12 (gB y1.cells 0) (gI y1.cells 1) (gI y1.cells 2) (gI y1.cells 3) (gI y1.cells 4) (gS y1.cells 5) (gS y1.cells 6) (gI y1.cells 7) (fun (_ : Unit) => (oB (cutI v0 none (some v12)) fun s3 => (oB (qhb s3 (gB y1.cells 0) (gI y1.cells 1) (gI y1.cells 2) (gI y1.cells 3) (gI y1.cells 4) (gS y1.cells 5) (gS y1.cells 6) (gI y1.cells 7)) fun r4 => (bif r4 then (some (24 : Int)) else (next (IntKind.i64.wrap (v12 + (1 : Int))))))))))) else none)) else (kx0 ()))
def qoh  (v0 v10 : List AV) (v11 : Int) (kx0 : Unit → Option Int) : Nat → Int → Option Int
  | 0 => (fun _ => none)
  | n + 1 => (fun v12 => qhk v0 v10 v11 v12 (qoh v0 v10 v11 kx0 n) kx0)
def qq0 := hull (qoh)
theorem q1d : qq0 = qoh := qj _
def qhl : AC Int :=
  .seq (.reg [ao 13 (.bin .lss 12 11)]) (.seq (.cond 13 (.skip) (.seq (.view [.sel [] []]) (.exit 0))) (.seq (.block 1 (.seq (.reg [ao 14 (.mv 12),
 ao 15 (.ia 8 10 12),
 .st (.etac 15 qb),
 ao 16 (.load true 8 15),
 ao 4 (.alloc [(.bool false), (.int .u64 0), (.int .u64 0), (.int .i64 0), (.int .i64 0), (.str []), (.str []), (.int .i64 0)]),
 ao 3 (.mv 14),
 an (.store 8 4 16)]) (.seq (.seq (.reg [ao 17 (.load true 8 4),
 .call (po 18 (.call 43 [17])) 43 qw8,
 ao 5 (.mv 18)]) (.seq (.reg [ao 19 (.mv 5),
 ao 20 (.bin .neq 19 (.c (.int .i64 0)))]) (.cond 20 (.seq (.reg [ao 21 (.mv 5),
 ao 2 (.mv 21)]) (.ret)) (.skip)))) (.seq (.seq (.view [.sel [0, 3, 4, 10, 11, 12] [0]]) (.sub (scOf qog) q3z)) (.seq (.draw [] [ao 37 (.mv 0),
 ao 38 (.mv 3),
 ao 39 (.slc 8 37 none (some 38)),
 ao 40 (.load true 8 4)] [.call (po 41 (.call 44 [39, 40])) 44 qqy]) (.cond 41 (.seq (.reg [ao 2 (.mv (.c (.int .i64 24)))]) (.ret)) (.skip))))))) (.seq (.reg [ao 42 (.bin .add 12 (.c (.int .i64 1))),
 ao 12 (.mv 42)]) (.view [.sel [0, 10, 11, 12] []]))))
theorem qbgc : AC.ok Try.prog (TIof Try.prog) 43 0 (kret [.t 2] (decI .i64)) qhl := qm (zA (qd.ok qbbi) (zA qbh6 (zA (qd.ok q3y) (zA rfl trivial))))
theorem qbdl (v0 v10 : List AV) (v11 v12 : Int) (K : Ex → Env → Mem → Option Int) : den 0 (kret [.t 2] (decI .i64)) qhl (qsh v0 v10 v11 v12) (qsi v0 v10 v11 v12) K = qhk v0 v10 v11 v12 (fun z_v12 => K .norm (qsh v0 v10 v11 z_v12) (qsi v0 v10 v11 z_v12)) (qmo K) := by kernel_rfl
theorem qbh7 (v0 v10 : List AV) (v11 : Int) (K : Ex → Env → Mem → Option Int) : ∀ (n : Nat) (v12 : Int), qe5 (den 0 (kret [.t 2] (decI .i64)) qhl) n (qsh v0 v10 v11 v12) (qsi v0 v10 v11 v12) K = qq0 v0 v10 v11 (qmo K) n v12 := by
  rw [q1d]
  intro n
  induction n with
  | zero => intros; rfl
  | succ n ih =>
 intro v12
 exact (qbdl v0 v10 v11 v12 (itK (den 0 (kret [.t 2] (decI .i64)) qhl) n K)).trans (congrArg (fun q => qhk v0 v10 v11 v12 q (qmo K)) (funext fun v12 => ih v12))
def q30 := subE (R := Int) qbdk fun t m K => qq0 (gL [t 0] 0) (gL [t 10] 0) (gI [t 11] 0) (qmo K) FU (gI [t 12] 0)
theorem qbh8 : qca Try.prog (TIof Try.prog) 43 0 (kret [.t 2] (decI .i64)) (.loop (scOf qhl)) (q30) :=
  qen tabOk follows (qbgc) (qn (by kernel_rfl)) fun t m K => qbh7 _ _ _ K FU _
def qbpd : Shp := ⟨[(0, .one (.l (.sl 8)))], []⟩
def q2j (v0 : List AV) : Option Int :=
  (bif (decide ((v0.length : Int) > (512 : Int))) then (some (9 : Int)) else (qq0 v0 v0 (v0.length : Int) (fun (_ : Unit) => (some (0 : Int))) FU (0 : Int)))
def qnh := hull q2j
theorem q9w : qnh = q2j := qj _
def q2k : AC Int :=
  .seq (.reg [ao 2 (.mv (.c (.int .i64 0)))]) (.seq (.seq (.reg [ao 7 (.mv 0),
 ao 8 (.len false 7),
 ao 9 (.bin .gtr 8 (.c (.int .i64 512)))]) (.cond 9 (.seq (.reg [ao 2 (.mv (.c (.int .i64 9)))]) (.ret)) (.skip))) (.seq (.seq (.reg [ao 10 (.mv 0),
 ao 11 (.len false 10),
 ao 12 (.mv (.c (.int .i64 0)))]) (.block 0 (.seq (.view [.sel [0, 10, 11, 12] []]) (.sub (.loop (scOf qhl)) q30)))) (.seq (.reg [ao 2 (.mv (.c (.int .i64 0)))]) (.ret))))
theorem qbry : AC.ok Try.prog (TIof Try.prog) 43 0 (kret [.t 2] (decI .i64)) q2k := qm (zA qbh8 trivial)
theorem qbvb (v0 : List AV) : den 0 (kret [.t 2] (decI .i64)) q2k (qh [(0, (.sl 8 v0))]) (qg []) (kend (kret [.t 2] (decI .i64))) = qnh v0 := by
  rw [q9w]; kernel_rfl
theorem qbvc : cFn (TIof Try.prog) Try.f11 = some ⟨43, [.t 2], scOf q2k⟩ := by kernel_rfl
def qbvd (xs : List AV) : Option Int := qnh (gL [(qk xs) 0] 0)
def qxb {R : Type} : List AV → (AV → Option R) → Option R := entF qbpd qbvd (AV.int .i64)
theorem qbbn {R : Type} : qd Try.prog 11 (qxb (R := R)) :=
  qz tabOk follows Try.func11 (by kernel_rfl) qbvc hdeI qbry (qn (by kernel_rfl)) fun xs => qbvb _
def qbh9 : Shp := ⟨[(0, .st (lk qdl))], []⟩
def qxc (Aa : Bool) (Ab Ac : Int) : Option Bool :=
  (bif Aa then (some true) else (bif (Ab == (0 : Int)) then (some (decide (Ac < (4294967296 : Int)))) else (some false)))
def qkj := hull qxc
theorem q53 : qkj = qxc := qj _
def qxd : AC Bool :=
  .seq (.reg [ao 1 (.box 0),
 ao 2 (.mv (.c (.bool false)))]) (.seq (.reg [ao 3 (.fa 0 1),
 ao 4 (.load false 1 3),
 ao 5 (.mv 4),
 ag 6 5 false (.fa 1 1),
 ag 7 5 false (.load false 1 6),
 ag 8 5 false (.bin .eql 7 (.c (.int .u64 0))),
 ag 9 5 false (.mv 8),
 ag 10 9 true (.fa 2 1),
 ag 11 9 true (.load false 1 10),
 ag 12 9 true (.bin .lss 11 (.c (.int .u64 4294967296))),
 ag 13 5 false (.pick 9 12 (.c (.bool false))),
 ao 14 (.pick 5 (.c (.bool true)) 13),
 ao 2 (.mv 14)]) (.ret))
theorem qbl7 : AC.ok Try.prog (TIof Try.prog) 15 0 (kret [.t 2] decB) qxd := qm trivial
theorem qbpe (Aa : Bool) (Ab Ac : Int) : den 0 (kret [.t 2] decB) qxd (qh [(0, .agg (qbp Aa Ab Ac))]) (qg []) (kend (kret [.t 2] decB)) = qkj Aa Ab Ac := by
  rw [q53]; kernel_rfl
theorem qbpf : cFn (TIof Try.prog) Try.f81 = some ⟨15, [.t 2], scOf qxd⟩ := by kernel_rfl
def qbpg (xs : List AV) : Option Bool := qcj ((qk xs) 0).cells (qkj)
def qoi {R : Type} : List AV → (AV → Option R) → Option R := entF qbh9 qbpg AV.bool
theorem qxe {R : Type} : qd Try.prog 81 (qoi (R := R)) :=
  qz tabOk follows Try.func81 (by kernel_rfl) qbpf hdeB qbl7 (qn (by kernel_rfl)) fun xs => qbpe _ _ _
def qbl8 : Shp := ⟨[(0, .one (.l .b))], []⟩
def qy9 (v0 : Bool) : Option Int :=
  (bif v0 then (some (128 : Int)) else (some (32 : Int)))
def qf5 := hull qy9
theorem q7v : qf5 = qy9 := qj _
def qza : AC Int :=
  .seq (.reg [ao 2 (.mv (.c (.int .i64 0)))]) (.seq (.seq (.reg [ao 3 (.mv 0)]) (.cond 3 (.seq (.reg [ao 2 (.mv (.c (.int .i64 128)))]) (.ret)) (.skip))) (.seq (.reg [ao 2 (.mv (.c (.int .i64 32)))]) (.ret)))
theorem qbph : AC.ok Try.prog (TIof Try.prog) 4 0 (kret [.t 2] (decI .i64)) qza := qm trivial
theorem qbrz (v0 : Bool) : den 0 (kret [.t 2] (decI .i64)) qza (qh [(0, (.bool v0))]) (qg []) (kend (kret [.t 2] (decI .i64))) = qf5 v0 := by
  rw [q7v]; kernel_rfl
theorem qbr0 : cFn (TIof Try.prog) Try.f82 = some ⟨4, [.t 2], scOf qza⟩ := by kernel_rfl
def qbr1 (xs : List AV) : Option Int := qf5 (gB [(qk xs) 0] 0)
def qgo {R : Type} : List AV → (AV → Option R) → Option R := entF qbl8 qbr1 (AV.int .i64)
theorem qlq {R : Type} : qd Try.prog 82 (qgo (R := R)) :=
  qz tabOk follows Try.func82 (by kernel_rfl) qbr0 hdeI qbph (qn (by kernel_rfl)) fun xs => qbrz _
def qff (z : AV) : Option (Int × Int) := cond (qgm [(.one (.i .u64)), (.one (.i .u64))] z) (some (aI (gC (tpL z) 0), aI (gC (tpL z) 1))) none
def qbl9 (r : Int × Int) : AV := .tup [.int .u64 r.1, .int .u64 r.2]
def qmp  (K : Ex → Env → Mem → Option (Int × Int)) := (fun z_v4 z_v5 => K (.exit 0) (qh [(4, (.int .u64 z_v4)), (5, (.int .u64 z_v5))]) (qg []))
def qbdm : Shp := ⟨[(0, .one (.l (.i .i64))), (4, .one (.l (.i .u64))), (5, .one (.l (.i .u64))), (6, .one (.l (.i .i64)))], []⟩
def qsj (v0 v4 v5 v6 : Int) : Env := qh [(0, (.int .i64 v0)), (4, (.int .u64 v4)), (5, (.int .u64 v5)), (6, (.int .i64 v6))]
def qsk (v0 v4 v5 v6 : Int) : Mem := qg []
def qla  (v0 v4 v5 v6 : Int) (next : Int → Int → Int → Option (Int × Int)) (kx0 : Int → Int → Option (Int × Int)) : Option (Int × Int) :=
  (bif ((decide (v6 < v0)) && (decide (v6 < (128 : Int)))) then (next (IntKind.u64.wrap ((IntKind.u64.wrap (v4 * (2 : Int))) + (IntKind.u64.wrap (v5.tdiv (9223372036854775808 : Int))))) (IntKind.u64.wrap ((IntKind.u64.wrap (v5 * (2 : Int))) + (1 : Int))) (IntKind.i64.wrap (v6 + (1 : Int)))) else (kx0 v4 v5))
def qoj  (v0 : Int) (kx0 : Int → Int → Option (Int × Int)) : Nat → Int → Int → Int → Option (Int × Int)
  | 0 => (fun _ _ _ => none)
  | n + 1 => (fun v4 v5 v6 => qla v0 v4 v5 v6 (qoj v0 kx0 n) kx0)
def qq1 := hull (qoj)
theorem q1e : qq1 = qoj := qj _
def qhm : AC (Int × Int) :=
  .seq (.seq (.reg [ao 7 (.mv 6),
 ao 8 (.mv 0),
 ao 9 (.bin .lss 7 8),
 ao 10 (.mv 9),
 .grp 10 true [(pg 11 10 true (.mv 6)), (pg 12 10 true (.bin .lss 11 (.c (.int .i64 128))))] 13 12]) (.cond 13 (.skip) (.seq (.view [.sel [4, 5] []]) (.exit 0)))) (.seq (.block 1 (.seq (.reg [ao 16 (.mv 4),
 ao 17 (.bin .mul 16 (.c (.int .u64 2))),
 ao 18 (.mv 5),
 ao 19 (.bin .quo 18 (.c (.int .u64 9223372036854775808))),
 ao 20 (.bin .add 17 19),
 ao 4 (.mv 20)]) (.reg [ao 21 (.mv 5),
 ao 22 (.bin .mul 21 (.c (.int .u64 2))),
 ao 23 (.bin .add 22 (.c (.int .u64 1))),
 ao 5 (.mv 23)]))) (.seq (.reg [ao 14 (.mv 6),
 ao 15 (.bin .add 14 (.c (.int .i64 1))),
 ao 6 (.mv 15)]) (.view [.sel [0, 4, 5, 6] []])))
theorem qbgd : AC.ok Try.prog (TIof Try.prog) 26 0 (kret [.t 2, .t 3] qff) qhm := qm trivial
theorem qbdn (v0 v4 v5 v6 : Int) (K : Ex → Env → Mem → Option (Int × Int)) : den 0 (kret [.t 2, .t 3] qff) qhm (qsj v0 v4 v5 v6) (qsk v0 v4 v5 v6) K = qla v0 v4 v5 v6 (fun z_v4 z_v5 z_v6 => K .norm (qsj v0 z_v4 z_v5 z_v6) (qsk v0 z_v4 z_v5 z_v6)) (qmp K) := by kernel_rfl
theorem qbia (v0 : Int) (K : Ex → Env → Mem → Option (Int × Int)) : ∀ (n : Nat) (v4 v5 v6 : Int), qe5 (den 0 (kret [.t 2, .t 3] qff) qhm) n (qsj v0 v4 v5 v6) (qsk v0 v4 v5 v6) K = qq1 v0 (qmp K) n v4 v5 v6 := by
  rw [q1e]
  intro n
  induction n with
  | zero => intros; rfl
  | succ n ih =>
 intro v4 v5 v6
 exact (qbdn v0 v4 v5 v6 (itK (den 0 (kret [.t 2, .t 3] qff) qhm) n K)).trans (congrArg (fun q => qla v0 v4 v5 v6 q (qmp K)) (funext fun v4 => funext fun v5 => funext fun v6 => ih v4 v5 v6))
def q31 := subE (R := Int × Int) qbdm fun t m K => qq1 (gI [t 0] 0) (qmp K) FU (gI [t 4] 0) (gI [t 5] 0) (gI [t 6] 0)
theorem qbib : qca Try.prog (TIof Try.prog) 26 0 (kret [.t 2, .t 3] qff) (.loop (scOf qhm)) (q31) :=
  qen tabOk follows (qbgd) (qn (by kernel_rfl)) fun t m K => qbia _ K FU _ _ _
def qbma : Shp := ⟨[(0, .one (.l (.i .i64)))], []⟩
def qzb (v0 : Int) : Option (Int × Int) :=
  (qq1 v0 (fun v4q1 v5q2 => (some (v4q1, v5q2))) FU (0 : Int) (0 : Int) (0 : Int))
def ql8 := hull qzb
theorem q7w : ql8 = qzb := qj _
def qzc : AC (Int × Int) :=
  .seq (.reg [ao 2 (.mv (.c (.int .u64 0))),
 ao 3 (.mv (.c (.int .u64 0)))]) (.seq (.reg [ao 4 (.mv (.c (.int .u64 0))),
 ao 5 (.mv (.c (.int .u64 0)))]) (.seq (.seq (.reg [ao 6 (.mv (.c (.int .i64 0)))]) (.block 0 (.seq (.view [.sel [0, 4, 5, 6] []]) (.sub (.loop (scOf qhm)) q31)))) (.seq (.reg [ao 24 (.mv 4),
 ao 25 (.mv 5),
 ao 2 (.mv 24),
 ao 3 (.mv 25)]) (.ret))))
theorem qbpi : AC.ok Try.prog (TIof Try.prog) 26 0 (kret [.t 2, .t 3] qff) qzc := qm (zA qbib trivial)
theorem qbr2 (v0 : Int) : den 0 (kret [.t 2, .t 3] qff) qzc (qh [(0, (.int .i64 v0))]) (qg []) (kend (kret [.t 2, .t 3] qff)) = ql8 v0 := by
  rw [q7w]; kernel_rfl
theorem qbr3 : cFn (TIof Try.prog) Try.f83 = some ⟨26, [.t 2, .t 3], scOf qzc⟩ := by kernel_rfl
def qbr4 (xs : List AV) : Option (Int × Int) := ql8 (gI [(qk xs) 0] 0)
def qpo {R : Type} : List AV → (AV → Option R) → Option R := entF qbma qbr4 qbl9
theorem qzd {R : Type} : qd Try.prog 83 (qpo (R := R)) :=
  qz tabOk follows Try.func83 (by kernel_rfl) qbr3 (fun z r h => by
 obtain ⟨h1, h2⟩ := qo h
 cases h2
 exact (qds h1).symm) qbpi (qn (by kernel_rfl)) fun xs => qbr2 _
def qze  (Ai : Bool) (Aj Ak Al : Int) (K : Ex → Env → Mem → Option Bool) := (fun z_v22 => K .norm (qh [(1, (.ptr 0 0)), (22, (.bool z_v22))]) (qg [(some (.box true (qa Ai Aj Ak Al)))]))
def qbbo : Shp := ⟨[(1, .one (.ptr 0 0))], [.box true (lk qf)]⟩
def qsl  (Ai : Bool) (Aj Ak Al : Int) (kn : Bool → Option Bool) : Option Bool :=
  (oB (qkj Ai Aj Ak) fun r1 => (bif (!r1) then (kn true) else (bif (decide (Al < (0 : Int))) then (kn true) else (oB (qf5 Ai) fun r2 => (kn (decide (Al > r2)))))))
def qpp := hull (qsl)
theorem qzf : qpp = qsl := qj _
def qn0 : AC Bool :=
  .seq (.draw [] [ao 5 (.fa 0 1),
 ao 6 (.load true 3 5),
 .call (po 7 (.call 81 [6])) 81 qoi,
 ao 8 (.un .not 7),
 ao 9 (.mv 8),
 ag 10 9 false (.fa 3 1),
 ag 11 9 false (.load false 1 10),
 ag 12 9 false (.bin .lss 11 (.c (.int .i64 0))),
 ao 13 (.pick 9 (.c (.bool true)) 12),
 ao 14 (.mv 13),
 ag 15 14 false (.fa 3 1),
 ag 16 14 false (.load false 1 15),
 ag 17 14 false (.fa 0 1),
 ag 18 14 false (.fa 0 17),
 ag 19 14 false (.load false 1 18),
 .call (pg 20 14 false (.call 82 [19])) 82 qgo] [ag 21 14 false (.bin .gtr 16 20),
 ao 22 (.pick 14 (.c (.bool true)) 21)]) (.view [.sel [1, 22] [0]])
theorem qbdo : AC.ok Try.prog (TIof Try.prog) 48 0 (kret [.t 2] decB) qn0 := qm (zA (qd.ok qxe) (zA (qd.ok qlq) (zA rfl trivial)))
theorem qbge (Ai : Bool) (Aj Ak Al : Int) (K : Ex → Env → Mem → Option Bool) : den 0 (kret [.t 2] decB) qn0 (qh [(1, (.ptr 0 0))]) (qg [(some (.box true (qa Ai Aj Ak Al)))]) K = qpp Ai Aj Ak Al (qze Ai Aj Ak Al K) := by
  rw [qzf]; kernel_rfl
def q1f := subE (R := Bool) qbbo fun t m K => qe (bxC (m.s 0)) (qpp) (qze (gB (bxC (m.s 0)) 0) (gI (bxC (m.s 0)) 1) (gI (bxC (m.s 0)) 2) (gI (bxC (m.s 0)) 3) K)
theorem qbgf : qca Try.prog (TIof Try.prog) 48 0 (kret [.t 2] decB) (scOf qn0) (q1f) :=
  qet tabOk follows (qbdo) (qn (by kernel_rfl)) fun t m K => qbge _ _ _ _ K
def qbic : Shp := ⟨[(0, .st (lk qf))], []⟩
def qxf (Aa : Bool) (Ab Ac Ad : Int) : Option Bool :=
  (qpp Aa Ab Ac Ad (fun v22q1 => (bif v22q1 then (some false) else (oB (qf5 Aa) fun r2 => (oB (ql8 (IntKind.i64.wrap (r2 - Ad))) fun r3 => (some (((qb4 .and .u64 Ab r3.1) == (0 : Int)) && ((qb4 .and .u64 Ac r3.2) == (0 : Int)))))))))
def qgb := hull qxf
theorem q54 : qgb = qxf := qj _
def qxg : AC Bool :=
  .seq (.reg [ao 1 (.box 0),
 ao 2 (.mv (.c (.bool false)))]) (.seq (.seq (.seq (.view [.sel [1] [0]]) (.sub (scOf qn0) q1f)) (.cond 22 (.seq (.reg [ao 2 (.mv (.c (.bool false)))]) (.ret)) (.skip))) (.seq (.draw [] [ao 24 (.fa 0 1),
 ao 25 (.fa 0 24),
 ao 26 (.load false 1 25),
 .call (po 27 (.call 82 [26])) 82 qgo,
 ao 28 (.fa 3 1),
 ao 29 (.load false 1 28),
 ao 30 (.bin .sub 27 29),
 .call (po 31 (.call 83 [30])) 83 qpo,
 ao 23 (.mv 31),
 ao 32 (.ext 23 0),
 ao 33 (.ext 23 1),
 ao 3 (.mv 32)] [ao 4 (.mv 33)]) (.seq (.reg [ao 34 (.fa 0 1),
 ao 35 (.fa 1 34),
 ao 36 (.load false 1 35),
 ao 37 (.mv 3),
 ao 38 (.bin .and 36 37),
 ao 39 (.bin .eql 38 (.c (.int .u64 0))),
 ao 40 (.mv 39),
 .grp 40 true [(pg 41 40 true (.fa 0 1)), (pg 42 40 true (.fa 2 41)), (pg 43 40 true (.load false 1 42)), (pg 44 40 true (.mv 4)), (pg 45 40 true (.bin .and 43 44)), (pg 46 40 true (.bin .eql 45 (.c (.int .u64 0))))] 47 46,
 ao 2 (.mv 47)]) (.ret))))
theorem qbmb : AC.ok Try.prog (TIof Try.prog) 48 0 (kret [.t 2] decB) qxg := qm (zA qbgf (zA (qd.ok qlq) (zA (qd.ok qzd) (zA rfl trivial))))
theorem qbpj (Aa : Bool) (Ab Ac Ad : Int) : den 0 (kret [.t 2] decB) qxg (qh [(0, .agg (qa Aa Ab Ac Ad))]) (qg []) (kend (kret [.t 2] decB)) = qgb Aa Ab Ac Ad := by
  rw [q54]; kernel_rfl
theorem qbpk : cFn (TIof Try.prog) Try.f45 = some ⟨48, [.t 2], scOf qxg⟩ := by kernel_rfl
def qbpl (xs : List AV) : Option Bool := qe ((qk xs) 0).cells (qgb)
def qhn {R : Type} : List AV → (AV → Option R) → Option R := entF qbic qbpl AV.bool
theorem qni {R : Type} : qd Try.prog 45 (qhn (R := R)) :=
  qz tabOk follows Try.func45 (by kernel_rfl) qbpk hdeB qbmb (qn (by kernel_rfl)) fun xs => qbpj _ _ _ _
def qbid : Shp := ⟨[(0, .st (lk qf))], []⟩
def qxh (Aa : Bool) (Ab Ac Ad : Int) : Option Int :=
  (bif Aa then (some (128 : Int)) else (some (32 : Int)))
def qp8 := hull qxh
theorem q55 : qp8 = qxh := qj _
def qxi : AC Int :=
  .seq (.reg [ao 1 (.box 0),
 ao 2 (.mv (.c (.int .i64 0)))]) (.seq (.seq (.reg [ao 3 (.fa 0 1),
 ao 4 (.fa 0 3),
 ao 5 (.load false 1 4)]) (.cond 5 (.seq (.reg [ao 2 (.mv (.c (.int .i64 128)))]) (.ret)) (.skip))) (.seq (.reg [ao 2 (.mv (.c (.int .i64 32)))]) (.ret)))
theorem qbmc : AC.ok Try.prog (TIof Try.prog) 6 0 (kret [.t 2] (decI .i64)) qxi := qm trivial
theorem qbpm (Aa : Bool) (Ab Ac Ad : Int) : den 0 (kret [.t 2] (decI .i64)) qxi (qh [(0, .agg (qa Aa Ab Ac Ad))]) (qg []) (kend (kret [.t 2] (decI .i64))) = qp8 Aa Ab Ac Ad := by
  rw [q55]; kernel_rfl
theorem qbpn : cFn (TIof Try.prog) Try.f84 = some ⟨6, [.t 2], scOf qxi⟩ := by kernel_rfl
def qbpo (xs : List AV) : Option Int := qe ((qk xs) 0).cells (qp8)
def q32 {R : Type} : List AV → (AV → Option R) → Option R := entF qbid qbpo (AV.int .i64)
theorem qbpp {R : Type} : qd Try.prog 84 (q32 (R := R)) :=
  qz tabOk follows Try.func84 (by kernel_rfl) qbpn hdeI qbmc (qn (by kernel_rfl)) fun xs => qbpm _ _ _ _
def qhy  (K : Ex → Env → Mem → Option Bool) := (fun (_ : Unit) => K (.exit 0) (qh []) (qg []))
def q6y : Shp := ⟨[(0, .one (.l .s)), (3, .one (.l (.i .i64)))], []⟩
def qnj (v0 : List UInt8) (v3 : Int) : Env := qh [(0, (.str v0)), (3, (.int .i64 v3))]
def qnk (v0 : List UInt8) (v3 : Int) : Mem := qg []
def qe8  (v0 : List UInt8) (v3 : Int) (next : Int → Option Bool) (kx0 : Unit → Option Bool) : Option Bool :=
  (bif (decide (v3 < (v0.length : Int))) then (oB (ixB v0 v3) fun c1 => (bif (decide ((c1.toNat : Int) < (33 : Int))) then (some false) else (oB (ixB v0 v3) fun c2 => (bif (decide ((c2.toNat : Int) > (126 : Int))) then (some false) else (next (IntKind.i64.wrap (v3 + (1 : Int)))))))) else (kx0 ()))
def qj0  (v0 : List UInt8) (kx0 : Unit → Option Bool) : Nat → Int → Option Bool
  | 0 => (fun _ => none)
  | n + 1 => (fun v3 => qe8 v0 v3 (qj0 v0 kx0 n) kx0)
def qlr := hull (qj0)
theorem qt4 : qlr = qj0 := qj _
def qe9 : AC Bool :=
  .seq (.seq (.reg [ao 4 (.mv 3),
 ao 5 (.mv 0),
 ao 6 (.len true 5),
 ao 7 (.bin .lss 4 6)]) (.cond 7 (.skip) (.seq (.view [.sel [] []]) (.exit 0)))) (.seq (.block 1 (.seq (.reg [ao 10 (.mv 0),
 ao 11 (.mv 3),
 ao 12 (.ixs 10 11),
 ao 13 (.bin .lss 12 (.c (.int .u8 33))),
 ao 14 (.mv 13),
 ag 15 14 false (.mv 0),
 ag 16 14 false (.mv 3),
 ag 17 14 false (.ixs 15 16),
 ag 18 14 false (.bin .gtr 17 (.c (.int .u8 126))),
 ao 19 (.pick 14 (.c (.bool true)) 18)]) (.cond 19 (.seq (.reg [ao 2 (.mv (.c (.bool false)))]) (.ret)) (.skip)))) (.seq (.reg [ao 8 (.mv 3),
 ao 9 (.bin .add 8 (.c (.int .i64 1))),
 ao 3 (.mv 9)]) (.view [.sel [0, 3] []])))
theorem q7x : AC.ok Try.prog (TIof Try.prog) 20 0 (kret [.t 2] decB) qe9 := qm trivial
theorem q6z (v0 : List UInt8) (v3 : Int) (K : Ex → Env → Mem → Option Bool) : den 0 (kret [.t 2] decB) qe9 (qnj v0 v3) (qnk v0 v3) K = qe8 v0 v3 (fun z_v3 => K .norm (qnj v0 z_v3) (qnk v0 z_v3)) (qhy K) := by kernel_rfl
theorem q9d (v0 : List UInt8) (K : Ex → Env → Mem → Option Bool) : ∀ (n : Nat) (v3 : Int), qe5 (den 0 (kret [.t 2] decB) qe9) n (qnj v0 v3) (qnk v0 v3) K = qlr v0 (qhy K) n v3 := by
  rw [qt4]
  intro n
  induction n with
  | zero => intros; rfl
  | succ n ih =>
 intro v3
 exact (q6z v0 v3 (itK (den 0 (kret [.t 2] decB) qe9) n K)).trans (congrArg (fun q => qe8 v0 v3 q (qhy K)) (funext fun v3 => ih v3))
def qve := subE (R := Bool) q6y fun t m K => qlr (gS [t 0] 0) (qhy K) FU (gI [t 3] 0)
theorem q9e : qca Try.prog (TIof Try.prog) 20 0 (kret [.t 2] decB) (.loop (scOf qe9)) (qve) :=
  qen tabOk follows (q7x) (qn (by kernel_rfl)) fun t m K => q9d _ K FU _
def qbau : Shp := ⟨[(0, .one (.l .s))], []⟩
def qq2 (v0 : List UInt8) : Option Bool :=
  (qlr v0 (fun (_ : Unit) => (some true)) FU (0 : Int))
def qho := hull qq2
theorem qx9 : qho = qq2 := qj _
def qq3 : AC Bool :=
  .seq (.reg [ao 2 (.mv (.c (.bool false)))]) (.seq (.seq (.reg [ao 3 (.mv (.c (.int .i64 0)))]) (.block 0 (.seq (.view [.sel [0, 3] []]) (.sub (.loop (scOf qe9)) qve)))) (.seq (.reg [ao 2 (.mv (.c (.bool true)))]) (.ret)))
theorem qbbp : AC.ok Try.prog (TIof Try.prog) 20 0 (kret [.t 2] decB) qq3 := qm (zA q9e trivial)
theorem qbdp (v0 : List UInt8) : den 0 (kret [.t 2] decB) qq3 (qh [(0, (.str v0))]) (qg []) (kend (kret [.t 2] decB)) = qho v0 := by
  rw [qx9]; kernel_rfl
theorem qbdq : cFn (TIof Try.prog) Try.f85 = some ⟨20, [.t 2], scOf qq3⟩ := by kernel_rfl
def qbdr (xs : List AV) : Option Bool := qho (gS [(qk xs) 0] 0)
def qo6 {R : Type} : List AV → (AV → Option R) → Option R := entF qbau qbdr AV.bool
theorem qzg {R : Type} : qd Try.prog 85 (qo6 (R := R)) :=
  qz tabOk follows Try.func85 (by kernel_rfl) qbdq hdeB qbbp (qn (by kernel_rfl)) fun xs => qbdp _
def q33  (Ai : Bool) (Aj Ak Al Am : Int) (An Ao : List UInt8) (Ap : Int) (K : Ex → Env → Mem → Option Bool) := (fun z_v24 => K .norm (qh [(1, (.ptr 0 0)), (24, (.bool z_v24))]) (qg [(some (.box true (qc Ai Aj Ak Al Am An Ao Ap)))]))
def qbgg : Shp := ⟨[(1, .one (.ptr 0 0))], [.box true (lk qb)]⟩
def qvk  (Ai : Bool) (Aj Ak Al Am : Int) (An Ao : List UInt8) (Ap : Int) (kn : Bool → Option Bool) : Option Bool :=
  (bif (decide (Am < (1 : Int))) then (kn true) else (bif (decide (Am > (3 : Int))) then (kn true) else (bif (Am == (3 : Int)) then (oB (qp8 Ai Aj Ak Al) fun r1 => (kn (Al != r1))) else (kn false))))
def qs9 := hull (qvk)
theorem q34 : qs9 = qvk := qj _
def qpq : AC Bool :=
  .seq (.draw [] [ao 3 (.fa 4 1),
 ao 4 (.load false 1 3),
 ao 5 (.bin .lss 4 (.c (.int .i64 1))),
 ao 6 (.mv 5),
 ag 7 6 false (.fa 4 1),
 ag 8 6 false (.load false 1 7),
 ag 9 6 false (.bin .gtr 8 (.c (.int .i64 3))),
 ao 10 (.pick 6 (.c (.bool true)) 9),
 ao 11 (.mv 10),
 ag 12 11 false (.fa 4 1),
 ag 13 11 false (.load false 1 12),
 ag 14 11 false (.bin .eql 13 (.c (.int .i64 3))),
 ag 15 11 false (.mv 14),
 ag 16 15 true (.fa 0 1),
 ag 17 15 true (.fa 3 16),
 ag 18 15 true (.load false 1 17),
 ag 19 15 true (.fa 0 1),
 ag 20 15 true (.load true 4 19),
 .call (pg 21 15 true (.call 84 [20])) 84 q32] [ag 22 15 true (.bin .neq 18 21),
 ag 23 11 false (.pick 15 22 (.c (.bool false))),
 ao 24 (.pick 11 (.c (.bool true)) 23)]) (.view [.sel [1, 24] [0]])
theorem qbie : AC.ok Try.prog (TIof Try.prog) 61 0 (kret [.t 2] decB) qpq := qm (zA (qd.ok qbpp) (zA rfl trivial))
theorem qbmd (Ai : Bool) (Aj Ak Al Am : Int) (An Ao : List UInt8) (Ap : Int) (K : Ex → Env → Mem → Option Bool) : den 0 (kret [.t 2] decB) qpq (qh [(1, (.ptr 0 0))]) (qg [(some (.box true (qc Ai Aj Ak Al Am An Ao Ap)))]) K = qs9 Ai Aj Ak Al Am An Ao Ap (q33 Ai Aj Ak Al Am An Ao Ap K) := by
  rw [q34]; kernel_rfl
def q56 := subE (R := Bool) qbgg fun t m K => qi (bxC (m.s 0)) (qs9) (q33 (gB (bxC (m.s 0)) 0) (gI (bxC (m.s 0)) 1) (gI (bxC (m.s 0)) 2) (gI (bxC (m.s 0)) 3) (gI (bxC (m.s 0)) 4) (gS (bxC (m.s 0)) 5) (gS (bxC (m.s 0)) 6) (gI (bxC (m.s 0)) 7) K)
theorem qbme : qca Try.prog (TIof Try.prog) 61 0 (kret [.t 2] decB) (scOf qpq) (q56) :=
  qet tabOk follows (qbie) (qn (by kernel_rfl)) fun t m K => qbmd _ _ _ _ _ _ _ _ K
def qbpq : Shp := ⟨[(0, .st (lk qb))], []⟩
def q2l (Aa : Bool) (Ab Ac Ad Ae : Int) (Af Ag : List UInt8) (Ah : Int) : Option Bool :=
  (qs9 Aa Ab Ac Ad Ae Af Ag Ah (fun v24q1 => (bif v24q1 then (some false) else (bif ((decide ((Af.length : Int) ≥ (1 : Int))) && (decide ((Af.length : Int) ≤ (63 : Int)))) then (oB (qho Af) fun r2 => (bif (r2 && (decide ((Ag.length : Int) ≤ (32 : Int)))) then (oB (qho Ag) fun r3 => (some ((r3 && (decide (Ah ≥ (0 : Int)))) && (decide (Ah ≤ (4294967295 : Int)))))) else (some false))) else (some false)))))
def qnl := hull q2l
theorem q9x : qnl = q2l := qj _
def q2m : AC Bool :=
  .seq (.reg [ao 1 (.box 0),
 ao 2 (.mv (.c (.bool false)))]) (.seq (.seq (.seq (.view [.sel [1] [0]]) (.sub (scOf qpq) q56)) (.cond 24 (.seq (.reg [ao 2 (.mv (.c (.bool false)))]) (.ret)) (.skip))) (.seq (.reg [ao 25 (.fa 5 1),
 ao 26 (.load false 1 25),
 ao 27 (.len true 26),
 ao 28 (.bin .geq 27 (.c (.int .i64 1))),
 ao 29 (.mv 28),
 .grp 29 true [(pg 30 29 true (.fa 5 1)), (pg 31 29 true (.load false 1 30)), (pg 32 29 true (.len true 31)), (pg 33 29 true (.bin .leq 32 (.c (.int .i64 63))))] 34 33,
 ao 35 (.mv 34),
 ag 36 35 true (.fa 5 1),
 ag 37 35 true (.load false 1 36),
 .call (pg 38 35 true (.call 85 [37])) 85 qo6,
 ao 39 (.pick 35 38 (.c (.bool false))),
 ao 40 (.mv 39),
 .grp 40 true [(pg 41 40 true (.fa 6 1)), (pg 42 40 true (.load false 1 41)), (pg 43 40 true (.len true 42)), (pg 44 40 true (.bin .leq 43 (.c (.int .i64 32))))] 45 44,
 ao 46 (.mv 45),
 ag 47 46 true (.fa 6 1),
 ag 48 46 true (.load false 1 47),
 .call (pg 49 46 true (.call 85 [48])) 85 qo6,
 ao 50 (.pick 46 49 (.c (.bool false))),
 ao 51 (.mv 50),
 .grp 51 true [(pg 52 51 true (.fa 7 1)), (pg 53 51 true (.load false 1 52)), (pg 54 51 true (.bin .geq 53 (.c (.int .i64 0))))] 55 54,
 ao 56 (.mv 55),
 .grp 56 true [(pg 57 56 true (.fa 7 1)), (pg 58 56 true (.load false 1 57)), (pg 59 56 true (.bin .leq 58 (.c (.int .i64 4294967295))))] 60 59,
 ao 2 (.mv 60)]) (.ret)))
theorem qbr5 : AC.ok Try.prog (TIof Try.prog) 61 0 (kret [.t 2] decB) q2m := qm (zA qbme (zA (qd.ok qzg) (zA (qd.ok qzg) trivial)))
theorem qbve (Aa : Bool) (Ab Ac Ad Ae : Int) (Af Ag : List UInt8) (Ah : Int) : den 0 (kret [.t 2] decB) q2m (qh [(0, .agg (qc Aa Ab Ac Ad Ae Af Ag Ah))]) (qg []) (kend (kret [.t 2] decB)) = qnl Aa Ab Ac Ad Ae Af Ag Ah := by
  rw [q9x]; kernel_rfl
theorem qbvf : cFn (TIof Try.prog) Try.f46 = some ⟨61, [.t 2], scOf q2m⟩ := by kernel_rfl
def qbvg (xs : List AV) : Option Bool := qi ((qk xs) 0).cells (qnl)
def qxj {R : Type} : List AV → (AV → Option R) → Option R := entF qbpq qbvg AV.bool
theorem qbbq {R : Type} : qd Try.prog 46 (qxj (R := R)) :=
  qz tabOk follows Try.func46 (by kernel_rfl) qbvf hdeB qbr5 (qn (by kernel_rfl)) fun xs => qbve _ _ _ _ _ _ _ _
def qbds : Shp := ⟨[(0, .st (lk qdl)), (1, .st (lk qdl))], []⟩
def qt5 (Aa : Bool) (Ab Ac : Int) (Aq : Bool) (Ar As : Int) : Option Int :=
  (bif (!((Aa == Aq) && true)) then (bif Aq then (some (-1 : Int)) else (some (1 : Int))) else (bif (Ab != Ar) then (bif (decide (Ab < Ar)) then (some (-1 : Int)) else (some (1 : Int))) else (bif (decide (Ac < As)) then (some (-1 : Int)) else (bif (decide (Ac > As)) then (some (1 : Int)) else (some (0 : Int))))))
def qnm := hull qt5
theorem q1g : qnm = qt5 := qj _
def qt6 : AC Int :=
  .seq (.reg [ao 2 (.box 0),
 ao 3 (.box 1),
 ao 4 (.mv (.c (.int .i64 0)))]) (.seq (.seq (.reg [ao 5 (.fa 0 2),
 ao 6 (.load false 1 5),
 ao 7 (.fa 0 3),
 ao 8 (.load false 1 7),
 ao 9 (.eq true false [.b] 6 8)]) (.cond 9 (.seq (.seq (.reg [ao 10 (.fa 0 3),
 ao 11 (.load false 1 10)]) (.cond 11 (.seq (.reg [ao 4 (.mv (.c (.int .i64 (-1))))]) (.ret)) (.skip))) (.seq (.reg [ao 4 (.mv (.c (.int .i64 1)))]) (.ret))) (.skip))) (.seq (.seq (.reg [ao 12 (.fa 1 2),
 ao 13 (.load false 1 12),
 ao 14 (.fa 1 3),
 ao 15 (.load false 1 14),
 ao 16 (.bin .neq 13 15)]) (.cond 16 (.seq (.seq (.reg [ao 17 (.fa 1 2),
 ao 18 (.load false 1 17),
 ao 19 (.fa 1 3),
 ao 20 (.load false 1 19),
 ao 21 (.bin .lss 18 20)]) (.cond 21 (.seq (.reg [ao 4 (.mv (.c (.int .i64 (-1))))]) (.ret)) (.skip))) (.seq (.reg [ao 4 (.mv (.c (.int .i64 1)))]) (.ret))) (.skip))) (.seq (.seq (.reg [ao 22 (.fa 2 2),
 ao 23 (.load false 1 22),
 ao 24 (.fa 2 3),
 ao 25 (.load false 1 24),
 ao 26 (.bin .lss 23 25)]) (.cond 26 (.seq (.reg [ao 4 (.mv (.c (.int .i64 (-1))))]) (.ret)) (.skip))) (.seq (.seq (.reg [ao 27 (.fa 2 2),
 ao 28 (.load false 1 27),
 ao 29 (.fa 2 3),
 ao 30 (.load false 1 29),
 ao 31 (.bin .gtr 28 30)]) (.cond 31 (.seq (.reg [ao 4 (.mv (.c (.int .i64 1)))]) (.ret)) (.skip))) (.seq (.reg [ao 4 (.mv (.c (.int .i64 0)))]) (.ret))))))
theorem qbgh : AC.ok Try.prog (TIof Try.prog) 32 0 (kret [.t 4] (decI .i64)) qt6 := qm trivial
theorem qbif (Aa : Bool) (Ab Ac : Int) (Aq : Bool) (Ar As : Int) : den 0 (kret [.t 4] (decI .i64)) qt6 (qh [(0, .agg (qbp Aa Ab Ac)), (1, .agg (qbp Aq Ar As))]) (qg []) (kend (kret [.t 4] (decI .i64))) = qnm Aa Ab Ac Aq Ar As := by
  rw [q1g]; kernel_rfl
theorem qbig : cFn (TIof Try.prog) Try.f86 = some ⟨32, [.t 4], scOf qt6⟩ := by kernel_rfl
def qbih (xs : List AV) : Option Int := qcj ((qk xs) 1).cells (qcj ((qk xs) 0).cells (qnm))
def qzh {R : Type} : List AV → (AV → Option R) → Option R := entF qbds qbih (AV.int .i64)
theorem qbii {R : Type} : qd Try.prog 86 (qzh (R := R)) :=
  qz tabOk follows Try.func86 (by kernel_rfl) qbig hdeI qbgh (qn (by kernel_rfl)) fun xs => qbif _ _ _ _ _ _
def qbdt : Shp := ⟨[(0, .st (lk qf)), (1, .st (lk qf))], []⟩
def qt7 (Aa : Bool) (Ab Ac Ad : Int) (Aq : Bool) (Ar As At : Int) : Option Int :=
  (oB (qnm Aa Ab Ac Aq Ar As) fun r1 => (bif (r1 != (0 : Int)) then (some r1) else (bif (decide (Ad < At)) then (some (-1 : Int)) else (bif (decide (Ad > At)) then (some (1 : Int)) else (some (0 : Int))))))
def qkk := hull qt7
theorem q1h : qkk = qt7 := qj _
def qt8 : AC Int :=
  .seq (.reg [ao 2 (.box 0),
 ao 3 (.box 1),
 ao 4 (.mv (.c (.int .i64 0)))]) (.seq (.reg [ao 6 (.fa 0 2),
 ao 7 (.load true 3 6),
 ao 8 (.fa 0 3),
 ao 9 (.load true 3 8),
 .call (po 10 (.call 86 [7, 9])) 86 qzh,
 ao 5 (.mv 10)]) (.seq (.seq (.reg [ao 11 (.mv 5),
 ao 12 (.bin .neq 11 (.c (.int .i64 0)))]) (.cond 12 (.seq (.reg [ao 13 (.mv 5),
 ao 4 (.mv 13)]) (.ret)) (.skip))) (.seq (.seq (.reg [ao 14 (.fa 3 2),
 ao 15 (.load false 1 14),
 ao 16 (.fa 3 3),
 ao 17 (.load false 1 16),
 ao 18 (.bin .lss 15 17)]) (.cond 18 (.seq (.reg [ao 4 (.mv (.c (.int .i64 (-1))))]) (.ret)) (.skip))) (.seq (.seq (.reg [ao 19 (.fa 3 2),
 ao 20 (.load false 1 19),
 ao 21 (.fa 3 3),
 ao 22 (.load false 1 21),
 ao 23 (.bin .gtr 20 22)]) (.cond 23 (.seq (.reg [ao 4 (.mv (.c (.int .i64 1)))]) (.ret)) (.skip))) (.seq (.reg [ao 4 (.mv (.c (.int .i64 0)))]) (.ret))))))
theorem qbgi : AC.ok Try.prog (TIof Try.prog) 24 0 (kret [.t 4] (decI .i64)) qt8 := qm (zA (qd.ok qbii) trivial)
theorem qbij (Aa : Bool) (Ab Ac Ad : Int) (Aq : Bool) (Ar As At : Int) : den 0 (kret [.t 4] (decI .i64)) qt8 (qh [(0, .agg (qa Aa Ab Ac Ad)), (1, .agg (qa Aq Ar As At))]) (qg []) (kend (kret [.t 4] (decI .i64))) = qkk Aa Ab Ac Ad Aq Ar As At := by
  rw [q1h]; kernel_rfl
theorem qbik : cFn (TIof Try.prog) Try.f47 = some ⟨24, [.t 4], scOf qt8⟩ := by kernel_rfl
def qbil (xs : List AV) : Option Int := qe ((qk xs) 1).cells (qe ((qk xs) 0).cells (qkk))
def qq4 {R : Type} : List AV → (AV → Option R) → Option R := entF qbdt qbil (AV.int .i64)
theorem q35 {R : Type} : qd Try.prog 47 (qq4 (R := R)) :=
  qz tabOk follows Try.func47 (by kernel_rfl) qbik hdeI qbgi (qn (by kernel_rfl)) fun xs => qbij _ _ _ _ _ _ _ _
def qls (z : AV) : Option (AV × Bool) := cond (qgm [(.st [.b, (.i .u64), (.i .u64), (.i .i64)]), (.one .b)] z) (some ((gC (tpL z) 0), aB (gC (tpL z) 1))) none
def qbr6 (r : AV × Bool) : AV := .tup [ql5 (.st [.b, (.i .u64), (.i .u64), (.i .i64)]) r.1, .bool r.2]
def q57  (v1 : Int) (Ai : Bool) (Aj Ak : Int) (Au : Bool) (Av Aw Ax : Int) (K : Ex → Env → Mem → Option (AV × Bool)) := (fun z_v22 => K .norm (qh [(1, (.int .i64 v1)), (2, (.ptr 0 0)), (4, (.ptr 1 0)), (22, (.bool z_v22))]) (qg [(some (.box true (qbp Ai Aj Ak))), (some (.box true (qa Au Av Aw Ax)))]))
def qbim : Shp := ⟨[(1, .one (.l (.i .i64))), (2, .one (.ptr 0 0)), (4, .one (.ptr 1 0))], [.box true (lk qdl), .box true (lk qf)]⟩
def qxk  (v1 : Int) (Ai : Bool) (Aj Ak : Int) (Au : Bool) (Av Aw Ax : Int) (kn : Bool → Option (AV × Bool)) : Option (AV × Bool) :=
  (oB (qkj Ai Aj Ak) fun r1 => (bif ((!r1) || (decide (v1 < (0 : Int)))) then (kn true) else (oB (qf5 Ai) fun r2 => (kn (decide (v1 > r2))))))
def qu0 := hull (qxk)
theorem q58 : qu0 = qxk := qj _
def qq5 : AC (AV × Bool) :=
  .seq (.reg [ao 9 (.load true 3 2),
 .call (po 10 (.call 81 [9])) 81 qoi,
 ao 11 (.un .not 10),
 ao 12 (.mv 11),
 .grp 12 false [(pg 13 12 false (.mv 1)), (pg 14 12 false (.bin .lss 13 (.c (.int .i64 0))))] 15 14,
 ao 16 (.mv 15),
 ag 17 16 false (.mv 1),
 ag 18 16 false (.fa 0 2),
 ag 19 16 false (.load false 1 18),
 .call (pg 20 16 false (.call 82 [19])) 82 qgo,
 ag 21 16 false (.bin .gtr 17 20),
 ao 22 (.pick 16 (.c (.bool true)) 21)]) (.view [.sel [1, 2, 4, 22] [0, 1]])
theorem qbmf : AC.ok Try.prog (TIof Try.prog) 53 0 (kret [(.cell 4 true 4), .t 5] qls) qq5 := qm (zA (qd.ok qxe) (zA (qd.ok qlq) trivial))
theorem qbpr (v1 : Int) (Ai : Bool) (Aj Ak : Int) (Au : Bool) (Av Aw Ax : Int) (K : Ex → Env → Mem → Option (AV × Bool)) : den 0 (kret [(.cell 4 true 4), .t 5] qls) qq5 (qh [(1, (.int .i64 v1)), (2, (.ptr 0 0)), (4, (.ptr 1 0))]) (qg [(some (.box true (qbp Ai Aj Ak))), (some (.box true (qa Au Av Aw Ax)))]) K = qu0 v1 Ai Aj Ak Au Av Aw Ax (q57 v1 Ai Aj Ak Au Av Aw Ax K) := by
  rw [q58]; kernel_rfl
def q7y := subE (R := AV × Bool) qbim fun t m K => qe (bxC (m.s 1)) (qcj (bxC (m.s 0)) (qu0 (gI [t 1] 0))) (q57 (gI [t 1] 0) (gB (bxC (m.s 0)) 0) (gI (bxC (m.s 0)) 1) (gI (bxC (m.s 0)) 2) (gB (bxC (m.s 1)) 0) (gI (bxC (m.s 1)) 1) (gI (bxC (m.s 1)) 2) (gI (bxC (m.s 1)) 3) K)
theorem qbps : qca Try.prog (TIof Try.prog) 53 0 (kret [(.cell 4 true 4), .t 5] qls) (scOf qq5) (q7y) :=
  qet tabOk follows (qbmf) (qn (by kernel_rfl)) fun t m K => qbpr _ _ _ _ _ _ _ _ K
def qbr7 : Shp := ⟨[(0, .st (lk qdl)), (1, .one (.l (.i .i64)))], []⟩
def q5e (Aa : Bool) (Ab Ac v1 : Int) : Option (AV × Bool) :=
  (qu0 v1 Aa Ab Ac false (0 : Int) (0 : Int) (0 : Int) (fun v22q1 => (bif v22q1 then (some ((.agg [(.bool false), (.int .u64 (0 : Int)), (.int .u64 (0 : Int)), (.int .i64 (0 : Int))]), false)) else (oB (qf5 Aa) fun r2 => (oB (ql8 (IntKind.i64.wrap (r2 - v1))) fun r3 => (some ((.agg [(.bool Aa), (.int .u64 (IntKind.u64.wrap (Ab - (qb4 .and .u64 Ab r3.1)))), (.int .u64 (IntKind.u64.wrap (Ac - (qb4 .and .u64 Ac r3.2)))), (.int .i64 v1)]), true)))))))
def qwc := hull q5e
theorem qbbr : qwc = q5e := qj _
def q5f : AC (AV × Bool) :=
  .seq (.reg [ao 2 (.box 0),
 ao 4 (.alloc [(.bool false), (.int .u64 0), (.int .u64 0), (.int .i64 0)]),
 ao 5 (.mv (.c (.bool false)))]) (.seq (.seq (.seq (.view [.sel [1, 2, 4] [0, 1]]) (.sub (scOf qq5) q7y)) (.cond 22 (.seq (.reg [ao 23 (.build [(.bool false), (.int .u64 0), (.int .u64 0), (.int .i64 0)] []),
 an (.store 4 4 23),
 ao 5 (.mv (.c (.bool false)))]) (.ret)) (.skip))) (.seq (.reg [ao 25 (.fa 0 2),
 ao 26 (.load false 1 25),
 .call (po 27 (.call 82 [26])) 82 qgo,
 ao 28 (.mv 1),
 ao 29 (.bin .sub 27 28),
 .call (po 30 (.call 83 [29])) 83 qpo,
 ao 24 (.mv 30),
 ao 31 (.ext 24 0),
 ao 32 (.ext 24 1),
 ao 6 (.mv 31),
 ao 7 (.mv 32)]) (.seq (.reg [ao 33 (.fa 0 2),
 ao 34 (.load false 1 33),
 ao 35 (.fa 1 2),
 ao 36 (.load false 1 35),
 ao 37 (.fa 1 2),
 ao 38 (.load false 1 37),
 ao 39 (.mv 6),
 ao 40 (.bin .and 38 39),
 ao 41 (.bin .sub 36 40),
 ao 42 (.fa 2 2),
 ao 43 (.load false 1 42),
 ao 44 (.fa 2 2),
 ao 45 (.load false 1 44),
 ao 46 (.mv 7),
 ao 47 (.bin .and 45 46),
 ao 48 (.bin .sub 43 47),
 ao 49 (.build [(.bool false), (.int .u64 0), (.int .u64 0)] [(0, (1, 34)), (1, (1, 41)), (2, (1, 48))]),
 ao 8 (.alloc [(.bool false), (.int .u64 0), (.int .u64 0)]),
 an (.store 3 8 49)]) (.seq (.reg [ao 50 (.load true 3 8),
 ao 51 (.mv 1),
 ao 52 (.build [(.bool false), (.int .u64 0), (.int .u64 0), (.int .i64 0)] [(0, (3, 50)), (3, (1, 51))]),
 an (.store 4 4 52),
 ao 5 (.mv (.c (.bool true)))]) (.ret)))))
theorem qbvh : AC.ok Try.prog (TIof Try.prog) 53 0 (kret [(.cell 4 true 4), .t 5] qls) q5f := qm (zA qbps (zA (qd.ok qlq) (zA (qd.ok qzd) trivial)))
theorem qbx4 (Aa : Bool) (Ab Ac v1 : Int) : den 0 (kret [(.cell 4 true 4), .t 5] qls) q5f (qh [(0, .agg (qbp Aa Ab Ac)), (1, (.int .i64 v1))]) (qg []) (kend (kret [(.cell 4 true 4), .t 5] qls)) = qwc Aa Ab Ac v1 := by
  rw [qbbr]; kernel_rfl
theorem qbx5 : cFn (TIof Try.prog) Try.f99 = some ⟨53, [(.cell 4 true 4), .t 5], scOf q5f⟩ := by kernel_rfl
def qbx6 (xs : List AV) : Option (AV × Bool) := qcj ((qk xs) 0).cells (qwc) (gI [(qk xs) 1] 0)
def q9y {R : Type} : List AV → (AV → Option R) → Option R := entF qbr7 qbx6 qbr6
theorem qbx7 {R : Type} : qd Try.prog 99 (q9y (R := R)) :=
  qz tabOk follows Try.func99 (by kernel_rfl) qbx5 (fun z r h => by
 obtain ⟨h1, h2⟩ := qo h
 cases h2
 exact (qds h1).symm) qbvh (qn (by kernel_rfl)) fun xs => qbx4 _ _ _ _
def qvf  (Ai : Bool) (Aj Ak Al : Int) (Au : Bool) (Av Aw : Int) (K : Ex → Env → Mem → Option Bool) := (fun z_v22 => K .norm (qh [(2, (.ptr 0 0)), (3, (.ptr 1 0)), (22, (.bool z_v22))]) (qg [(some (.box true (qa Ai Aj Ak Al))), (some (.box true (qbp Au Av Aw)))]))
def q7z : Shp := ⟨[(2, .one (.ptr 0 0)), (3, .one (.ptr 1 0))], [.box true (lk qf), .box true (lk qdl)]⟩
def qo7  (Ai : Bool) (Aj Ak Al : Int) (Au : Bool) (Av Aw : Int) (kn : Bool → Option Bool) : Option Bool :=
  (oB (qgb Ai Aj Ak Al) fun r1 => (bif (!r1) then (kn true) else (oB (qkj Au Av Aw) fun r2 => (kn ((!r2) || (!((Ai == Au) && true)))))))
def qmq := hull (qo7)
theorem qvg : qmq = qo7 := qj _
def qky : AC Bool :=
  .seq (.reg [ao 7 (.load true 4 2),
 .call (po 8 (.call 45 [7])) 45 qhn,
 ao 9 (.un .not 8),
 ao 10 (.mv 9),
 ag 11 10 false (.load true 3 3),
 .call (pg 12 10 false (.call 81 [11])) 81 qoi,
 ag 13 10 false (.un .not 12),
 ao 14 (.pick 10 (.c (.bool true)) 13),
 ao 15 (.mv 14),
 .grp 15 false [(pg 16 15 false (.fa 0 2)), (pg 17 15 false (.fa 0 16)), (pg 18 15 false (.load false 1 17)), (pg 19 15 false (.fa 0 3)), (pg 20 15 false (.load false 1 19)), (pg 21 15 false (.eq true false [.b] 18 20))] 22 21]) (.view [.sel [2, 3, 22] [0, 1]])
theorem q9f : AC.ok Try.prog (TIof Try.prog) 33 0 (kret [.t 4] decB) qky := qm (zA (qd.ok qni) (zA (qd.ok qxe) trivial))
theorem qbav (Ai : Bool) (Aj Ak Al : Int) (Au : Bool) (Av Aw : Int) (K : Ex → Env → Mem → Option Bool) : den 0 (kret [.t 4] decB) qky (qh [(2, (.ptr 0 0)), (3, (.ptr 1 0))]) (qg [(some (.box true (qa Ai Aj Ak Al))), (some (.box true (qbp Au Av Aw)))]) K = qmq Ai Aj Ak Al Au Av Aw (qvf Ai Aj Ak Al Au Av Aw K) := by
  rw [qvg]; kernel_rfl
def qwd := subE (R := Bool) q7z fun t m K => qcj (bxC (m.s 1)) (qe (bxC (m.s 0)) (qmq)) (qvf (gB (bxC (m.s 0)) 0) (gI (bxC (m.s 0)) 1) (gI (bxC (m.s 0)) 2) (gI (bxC (m.s 0)) 3) (gB (bxC (m.s 1)) 0) (gI (bxC (m.s 1)) 1) (gI (bxC (m.s 1)) 2) K)
theorem qbaw : qca Try.prog (TIof Try.prog) 33 0 (kret [.t 4] decB) (scOf qky) (qwd) :=
  qet tabOk follows (q9f) (qn (by kernel_rfl)) fun t m K => qbav _ _ _ _ _ _ _ K
def qbbs : Shp := ⟨[(0, .st (lk qf)), (1, .st (lk qdl))], []⟩
def qsm (Aa : Bool) (Ab Ac Ad : Int) (Aq : Bool) (Ar As : Int) : Option Bool :=
  (qmq Aa Ab Ac Ad Aq Ar As (fun v22q1 => (bif v22q1 then (some false) else (oB (qwc Aq Ar As Ad) fun r2 => (some (((gB r2.1.cells 0) == Aa) && (((gI r2.1.cells 1) == Ab) && (((gI r2.1.cells 2) == Ac) && (((gI r2.1.cells 3) == Ad) && true)))))))))
def qmf := hull qsm
theorem qzi : qmf = qsm := qj _
def qsn : AC Bool :=
  .seq (.reg [ao 2 (.box 0),
 ao 3 (.box 1),
 ao 4 (.mv (.c (.bool false)))]) (.seq (.seq (.seq (.view [.sel [2, 3] [0, 1]]) (.sub (scOf qky) qwd)) (.cond 22 (.seq (.reg [ao 4 (.mv (.c (.bool false)))]) (.ret)) (.skip))) (.seq (.reg [ao 24 (.load true 3 3),
 ao 25 (.fa 3 2),
 ao 26 (.load false 1 25),
 .call (po 27 (.call 99 [24, 26])) 99 q9y,
 ao 23 (.mv 27),
 ao 28 (.ext 23 0),
 ao 29 (.ext 23 1),
 ao 5 (.alloc [(.bool false), (.int .u64 0), (.int .u64 0), (.int .i64 0)]),
 an (.store 4 5 28),
 ao 6 (.mv 29)]) (.seq (.reg [ao 30 (.load true 4 5),
 ao 31 (.load true 4 2),
 ao 32 (.eq false true [.b, (.i .u64), (.i .u64), (.i .i64)] 30 31),
 ao 4 (.mv 32)]) (.ret))))
theorem qbdu : AC.ok Try.prog (TIof Try.prog) 33 0 (kret [.t 4] decB) qsn := qm (zA qbaw (zA (qd.ok qbx7) trivial))
theorem qbgj (Aa : Bool) (Ab Ac Ad : Int) (Aq : Bool) (Ar As : Int) : den 0 (kret [.t 4] decB) qsn (qh [(0, .agg (qa Aa Ab Ac Ad)), (1, .agg (qbp Aq Ar As))]) (qg []) (kend (kret [.t 4] decB)) = qmf Aa Ab Ac Ad Aq Ar As := by
  rw [qzi]; kernel_rfl
theorem qbgk : cFn (TIof Try.prog) Try.f66 = some ⟨33, [.t 4], scOf qsn⟩ := by kernel_rfl
def qbgl (xs : List AV) : Option Bool := qcj ((qk xs) 1).cells (qe ((qk xs) 0).cells (qmf))
def qya {R : Type} : List AV → (AV → Option R) → Option R := entF qbbs qbgl AV.bool
theorem qbgm {R : Type} : qd Try.prog 66 (qya (R := R)) :=
  qz tabOk follows Try.func66 (by kernel_rfl) qbgk hdeB qbdu (qn (by kernel_rfl)) fun xs => qbgj _ _ _ _ _ _ _
def qbgn : Shp := ⟨[(0, .st (lk qf)), (1, .st (lk qf))], []⟩
def qvl (Aa : Bool) (Ab Ac Ad : Int) (Aq : Bool) (Ar As At : Int) : Option Bool :=
  (oB (qgb Aa Ab Ac Ad) fun r1 => (bif (r1 && (decide (Ad ≥ At))) then (oB (qmf Aq Ar As At Aa Ab Ac) fun r2 => (some r2)) else (some false)))
def qok := hull qvl
theorem q36 : qok = qvl := qj _
def qvm : AC Bool :=
  .seq (.reg [ao 2 (.box 0),
 ao 3 (.box 1),
 ao 4 (.mv (.c (.bool false)))]) (.seq (.reg [ao 5 (.load true 4 2),
 .call (po 6 (.call 45 [5])) 45 qhn,
 ao 7 (.mv 6),
 .grp 7 true [(pg 8 7 true (.fa 3 2)), (pg 9 7 true (.load false 1 8)), (pg 10 7 true (.fa 3 3)), (pg 11 7 true (.load false 1 10)), (pg 12 7 true (.bin .geq 9 11))] 13 12,
 ao 14 (.mv 13),
 ag 15 14 true (.load true 4 3),
 ag 16 14 true (.fa 0 2),
 ag 17 14 true (.load true 3 16),
 .call (pg 18 14 true (.call 66 [15, 17])) 66 qya,
 ao 19 (.pick 14 18 (.c (.bool false))),
 ao 4 (.mv 19)]) (.ret))
theorem qbin : AC.ok Try.prog (TIof Try.prog) 20 0 (kret [.t 4] decB) qvm := qm (zA (qd.ok qni) (zA (qd.ok qbgm) trivial))
theorem qbmg (Aa : Bool) (Ab Ac Ad : Int) (Aq : Bool) (Ar As At : Int) : den 0 (kret [.t 4] decB) qvm (qh [(0, .agg (qa Aa Ab Ac Ad)), (1, .agg (qa Aq Ar As At))]) (qg []) (kend (kret [.t 4] decB)) = qok Aa Ab Ac Ad Aq Ar As At := by
  rw [q36]; kernel_rfl
theorem qbmh : cFn (TIof Try.prog) Try.f94 = some ⟨20, [.t 4], scOf qvm⟩ := by kernel_rfl
def qbmi (xs : List AV) : Option Bool := qe ((qk xs) 1).cells (qe ((qk xs) 0).cells (qok))
def q1i {R : Type} : List AV → (AV → Option R) → Option R := entF qbgn qbmi AV.bool
theorem qbmj {R : Type} : qd Try.prog 94 (q1i (R := R)) :=
  qz tabOk follows Try.func94 (by kernel_rfl) qbmh hdeB qbin (qn (by kernel_rfl)) fun xs => qbmg _ _ _ _ _ _ _ _
def qbr8 : Shp := ⟨[(0, .st (lk qf)), (1, .st (lk qf))], []⟩
def qwv (Aa : Bool) (Ab Ac Ad : Int) (Aq : Bool) (Ar As At : Int) : Option Bool :=
  (oB (qok Aa Ab Ac Ad Aq Ar As At) fun r1 => (some (r1 && (decide (Ad > At)))))
def qo8 := hull qwv
theorem q2n : qo8 = qwv := qj _
def q5g : AC Bool :=
  .seq (.reg [ao 2 (.box 0),
 ao 3 (.box 1),
 ao 4 (.mv (.c (.bool false)))]) (.seq (.reg [ao 5 (.load true 4 2),
 ao 6 (.load true 4 3),
 .call (po 7 (.call 94 [5, 6])) 94 q1i,
 ao 8 (.mv 7),
 .grp 8 true [(pg 9 8 true (.fa 3 2)), (pg 10 8 true (.load false 1 9)), (pg 11 8 true (.fa 3 3)), (pg 12 8 true (.load false 1 11)), (pg 13 8 true (.bin .gtr 10 12))] 14 13,
 ao 4 (.mv 14)]) (.ret))
theorem qbvi : AC.ok Try.prog (TIof Try.prog) 15 0 (kret [.t 4] decB) q5g := qm (zA (qd.ok qbmj) trivial)
theorem qbx8 (Aa : Bool) (Ab Ac Ad : Int) (Aq : Bool) (Ar As At : Int) : den 0 (kret [.t 4] decB) q5g (qh [(0, .agg (qa Aa Ab Ac Ad)), (1, .agg (qa Aq Ar As At))]) (qg []) (kend (kret [.t 4] decB)) = qo8 Aa Ab Ac Ad Aq Ar As At := by
  rw [q2n]; kernel_rfl
theorem qbx9 : cFn (TIof Try.prog) Try.f54 = some ⟨15, [.t 4], scOf q5g⟩ := by kernel_rfl
def qbya (xs : List AV) : Option Bool := qe ((qk xs) 1).cells (qe ((qk xs) 0).cells (qo8))
def qta {R : Type} : List AV → (AV → Option R) → Option R := entF qbr8 qbya AV.bool
theorem q5h {R : Type} : qd Try.prog 54 (qta (R := R)) :=
  qz tabOk follows Try.func54 (by kernel_rfl) qbx9 hdeB qbvi (qn (by kernel_rfl)) fun xs => qbx8 _ _ _ _ _ _ _ _
def qbgo : Shp := ⟨[(0, .st (lk qb)), (1, .st (lk qb))], []⟩
def qvn (Aa : Bool) (Ab Ac Ad Ae : Int) (Af Ag : List UInt8) (Ah : Int) (Aq : Bool) (Ar As At Ay : Int) (Az A0 : List UInt8) (A1 : Int) : Option Bool :=
  (oB (qo8 Aa Ab Ac Ad Aq Ar As At) fun r1 => (bif r1 then (bif (Ay == (3 : Int)) then (some true) else (bif (Ay == (2 : Int)) then (some (Ae != (3 : Int))) else (some false))) else (some false)))
def qim := hull qvn
theorem q37 : qim = qvn := qj _
def qvo : AC Bool :=
  .seq (.reg [ao 2 (.box 0),
 ao 3 (.box 1),
 ao 4 (.mv (.c (.bool false)))]) (.seq (.reg [ao 5 (.fa 0 2),
 ao 6 (.load true 4 5),
 ao 7 (.fa 0 3),
 ao 8 (.load true 4 7),
 .call (po 9 (.call 54 [6, 8])) 54 qta,
 ao 10 (.mv 9),
 ag 11 10 true (.fa 4 3),
 ag 12 10 true (.load false 1 11),
 ag 13 10 true (.bin .eql 12 (.c (.int .i64 3))),
 ag 14 10 true (.mv 13),
 ag 15 14 false (.fa 4 3),
 ag 16 14 false (.load false 1 15),
 ag 17 14 false (.bin .eql 16 (.c (.int .i64 2))),
 ag 18 14 false (.mv 17),
 ag 19 18 true (.fa 4 2),
 ag 20 18 true (.load false 1 19),
 ag 21 18 true (.bin .neq 20 (.c (.int .i64 3))),
 ag 22 14 false (.pick 18 21 (.c (.bool false))),
 ag 23 10 true (.pick 14 (.c (.bool true)) 22),
 ao 24 (.pick 10 23 (.c (.bool false))),
 ao 4 (.mv 24)]) (.ret))
theorem qbio : AC.ok Try.prog (TIof Try.prog) 25 0 (kret [.t 4] decB) qvo := qm (zA (qd.ok q5h) trivial)
theorem qbmk (Aa : Bool) (Ab Ac Ad Ae : Int) (Af Ag : List UInt8) (Ah : Int) (Aq : Bool) (Ar As At Ay : Int) (Az A0 : List UInt8) (A1 : Int) : den 0 (kret [.t 4] decB) qvo (qh [(0, .agg (qc Aa Ab Ac Ad Ae Af Ag Ah)), (1, .agg (qc Aq Ar As At Ay Az A0 A1))]) (qg []) (kend (kret [.t 4] decB)) = qim Aa Ab Ac Ad Ae Af Ag Ah Aq Ar As At Ay Az A0 A1 := by
  rw [q37]; kernel_rfl
theorem qbml : cFn (TIof Try.prog) Try.f48 = some ⟨25, [.t 4], scOf qvo⟩ := by kernel_rfl
def qbmm (xs : List AV) : Option Bool := qi ((qk xs) 1).cells (qi ((qk xs) 0).cells (qim))
def qso {R : Type} : List AV → (AV → Option R) → Option R := entF qbgo qbmm AV.bool
theorem q59 {R : Type} : qd Try.prog 48 (qso (R := R)) :=
  qz tabOk follows Try.func48 (by kernel_rfl) qbml hdeB qbio (qn (by kernel_rfl)) fun xs => qbmk _ _ _ _ _ _ _ _ _ _ _ _ _ _ _ _
def qyb  (v0 : List AV) (v3 : Int) (K : Ex → Env → Mem → Option Int) := (fun z_v43 => K .norm (qh [(0, (.sl 8 v0)), (3, (.int .i64 v3)), (43, (.bool z_v43))]) (qg []))
def qbax : Shp := ⟨[(0, .one (.l (.sl 8))), (3, .one (.l (.i .i64)))], []⟩
def qq6  (v0 : List AV) (v3 : Int) (kn : Bool → Option Int) : Option Int :=
  (bif (decide (v3 > (0 : Int))) then (oB (ixB v0 (IntKind.i64.wrap (v3 - (1 : Int)))) fun y1 => (bif fitC qb y1.cells then (oB (ixB v0 v3) fun y2 => (bif fitC qb y2.cells then (oB (qkk (gB y1.cells 0) (gI y1.cells 1) (gI y1.cells 2) (gI y1.cells 3) (gB y2.cells 0) (gI y2.cells 1) (gI y2.cells 2) (gI y2.cells 3)) fun r3 => (kn (decide (r3 > (0 : Int))))) else none)) else none)) else (kn false))
def qol := hull (qq6)
theorem qyc : qol = qq6 := qj _
def qmr : AC Int :=
  .seq (.draw [] [ao 27 (.mv 3),
 ao 28 (.bin .gtr 27 (.c (.int .i64 0))),
 ao 29 (.mv 28),
 ag 30 29 true (.mv 0),
 ag 31 29 true (.mv 3),
 ag 32 29 true (.bin .sub 31 (.c (.int .i64 1))),
 ag 33 29 true (.ia 8 30 32),
 .et 33 qb,
 ag 34 29 true (.fa 0 33),
 ag 35 29 true (.load true 4 34),
 ag 36 29 true (.mv 0),
 ag 37 29 true (.mv 3),
 ag 38 29 true (.ia 8 36 37),
 .et 38 qb,
 ag 39 29 true (.fa 0 38),
 ag 40 29 true (.load true 4 39)] [.call (pg 41 29 true (.call 47 [35, 40])) 47 qq4,
 ag 42 29 true (.bin .gtr 41 (.c (.int .i64 0))),
 ao 43 (.pick 29 42 (.c (.bool false)))]) (.view [.sel [0, 3, 43] []])
theorem qbbt : AC.ok Try.prog (TIof Try.prog) 74 0 (kret [.t 2] (decI .i64)) qmr := qm (zA (qd.ok q35) (zA rfl trivial))
theorem qbdv (v0 : List AV) (v3 : Int) (K : Ex → Env → Mem → Option Int) : den 0 (kret [.t 2] (decI .i64)) qmr (qh [(0, (.sl 8 v0)), (3, (.int .i64 v3))]) (qg []) K = qol v0 v3 (qyb v0 v3 K) := by
  rw [qyc]; kernel_rfl
def qzj := subE (R := Int) qbax fun t m K => qol (gL [t 0] 0) (gI [t 3] 0) (qyb (gL [t 0] 0) (gI [t 3] 0) K)
theorem qbdw : qca Try.prog (TIof Try.prog) 74 0 (kret [.t 2] (decI .i64)) (scOf qmr) (qzj) :=
  qet tabOk follows (qbbt) (qn (by kernel_rfl)) fun t m K => qbdv _ _ K
def qyd  (v0 : List AV) (v3 : Int) (K : Ex → Env → Mem → Option Int) := (fun z_v59 => K .norm (qh [(0, (.sl 8 v0)), (3, (.int .i64 v3)), (59, (.bool z_v59))]) (qg []))
def qbay : Shp := ⟨[(0, .one (.l (.sl 8))), (3, .one (.l (.i .i64)))], []⟩
def qq7  (v0 : List AV) (v3 : Int) (kn : Bool → Option Int) : Option Int :=
  (bif (decide (v3 > (0 : Int))) then (oB (ixB v0 (IntKind.i64.wrap (v3 - (1 : Int)))) fun y1 => (bif fitC qb y1.cells then (oB (ixB v0 v3) fun y2 => (bif fitC qb y2.cells then (kn (((gB y1.cells 0) == (gB y2.cells 0)) && (((gI y1.cells 1) == (gI y2.cells 1)) && (((gI y1.cells 2) == (gI y2.cells 2)) && (((gI y1.cells 3) == (gI y2.cells 3)) && true))))) else none)) else none)) else (kn false))
def qom := hull (qq7)
theorem qye : qom = qq7 := qj _
def qms : AC Int :=
  .seq (.draw [] [ao 44 (.mv 3),
 ao 45 (.bin .gtr 44 (.c (.int .i64 0))),
 ao 46 (.mv 45),
 ag 47 46 true (.mv 0),
 ag 48 46 true (.mv 3),
 ag 49 46 true (.bin .sub 48 (.c (.int .i64 1))),
 ag 50 46 true (.ia 8 47 49),
 .et 50 qb,
 ag 51 46 true (.fa 0 50),
 ag 52 46 true (.load true 4 51),
 ag 53 46 true (.mv 0),
 ag 54 46 true (.mv 3),
 ag 55 46 true (.ia 8 53 54),
 .et 55 qb,
 ag 56 46 true (.fa 0 55),
 ag 57 46 true (.load true 4 56)] [ag 58 46 true (.eq false true [.b, (.i .u64), (.i .u64), (.i .i64)] 52 57),
 ao 59 (.pick 46 58 (.c (.bool false)))]) (.view [.sel [0, 3, 59] []])
theorem qbbu : AC.ok Try.prog (TIof Try.prog) 74 0 (kret [.t 2] (decI .i64)) qms := qm (zA rfl trivial)
theorem qbdx (v0 : List AV) (v3 : Int) (K : Ex → Env → Mem → Option Int) : den 0 (kret [.t 2] (decI .i64)) qms (qh [(0, (.sl 8 v0)), (3, (.int .i64 v3))]) (qg []) K = qom v0 v3 (qyd v0 v3 K) := by
  rw [qye]; kernel_rfl
def qzk := subE (R := Int) qbay fun t m K => qom (gL [t 0] 0) (gI [t 3] 0) (qyd (gL [t 0] 0) (gI [t 3] 0) K)
theorem qbdy : qca Try.prog (TIof Try.prog) 74 0 (kret [.t 2] (decI .i64)) (scOf qms) (qzk) :=
  qet tabOk follows (qbbu) (qn (by kernel_rfl)) fun t m K => qbdx _ _ K
def qkz  (v0 : List AV) (v3 : Int) (K : Ex → Env → Mem → Option Int) := (fun (_ : Unit) => K (.exit 2) (qh [(0, (.sl 8 v0)), (3, (.int .i64 v3))]) (qg []))
def qbaz : Shp := ⟨[(0, .one (.l (.sl 8))), (3, .one (.l (.i .i64))), (4, .one (.l (.i .i64)))], []⟩
def qp9 (v0 : List AV) (v3 v4 : Int) : Env := qh [(0, (.sl 8 v0)), (3, (.int .i64 v3)), (4, (.int .i64 v4))]
def qqa (v0 : List AV) (v3 v4 : Int) : Mem := qg []
def qgc  (v0 : List AV) (v3 v4 : Int) (next : Int → Option Int) (kx2 : Unit → Option Int) : Option Int :=
  (bif (decide (v4 < v3)) then (oB (ixB v0 v3) fun y1 => (bif fitC qb y1.cells then (oB (ixB v0 v4) fun y2 => (bif fitC qb y2.cells then (oB (qim (gB y1.cells 0) (gI y1.cells 1) (gI y1.cells 2) (gI y1.cells 3) (gI y1.cells 4) (gS y1.cells 5) (gS y1.cells 6) (gI y1.cells 7) (gB y2.cells 0) (gI y2.cells 1) (gI y2.cells 2) (gI y2.cells 3) (gI y2.cells 4) (gS y2.cells 5) (gS y2.cells 6) (gI y2.cells 7)) fun r3 => (bif r3 then (some (24 : Int)) else (next (IntKind.i64.wrap (v4 + (1 : Int)))))) else none)) else none)) else (kx2 ()))
def qmt  (v0 : List AV) (v3 : Int) (kx2 : Unit → Option Int) : Nat → Int → Option Int
  | 0 => (fun _ => none)
  | n + 1 => (fun v4 => qgc v0 v3 v4 (qmt v0 v3 kx2 n) kx2)
def qlb := hull (qmt)
theorem qyf : qlb = qmt := qj _
def qgd : AC Int :=
  .seq (.seq (.reg [ao 60 (.mv 4),
 ao 61 (.mv 3),
 ao 62 (.bin .lss 60 61)]) (.cond 62 (.skip) (.seq (.view [.sel [0, 3] []]) (.exit 2)))) (.seq (.block 3 (.seq (.draw [] [ao 65 (.mv 0),
 ao 66 (.mv 3),
 ao 67 (.ia 8 65 66),
 .et 67 qb,
 ao 68 (.load true 8 67),
 ao 69 (.mv 0),
 ao 70 (.mv 4),
 ao 71 (.ia 8 69 70),
 .et 71 qb,
 ao 72 (.load true 8 71)] [.call (po 73 (.call 48 [68, 72])) 48 qso]) (.cond 73 (.seq (.reg [ao 2 (.mv (.c (.int .i64 24)))]) (.ret)) (.skip)))) (.seq (.reg [ao 63 (.mv 4),
 ao 64 (.bin .add 63 (.c (.int .i64 1))),
 ao 4 (.mv 64)]) (.view [.sel [0, 3, 4] []])))
theorem qbbv : AC.ok Try.prog (TIof Try.prog) 74 0 (kret [.t 2] (decI .i64)) qgd := qm (zA (qd.ok q59) (zA rfl trivial))
theorem qba0 (v0 : List AV) (v3 v4 : Int) (K : Ex → Env → Mem → Option Int) : den 0 (kret [.t 2] (decI .i64)) qgd (qp9 v0 v3 v4) (qqa v0 v3 v4) K = qgc v0 v3 v4 (fun z_v4 => K .norm (qp9 v0 v3 z_v4) (qqa v0 v3 z_v4)) (qkz v0 v3 K) := by kernel_rfl
theorem qbdz (v0 : List AV) (v3 : Int) (K : Ex → Env → Mem → Option Int) : ∀ (n : Nat) (v4 : Int), qe5 (den 0 (kret [.t 2] (decI .i64)) qgd) n (qp9 v0 v3 v4) (qqa v0 v3 v4) K = qlb v0 v3 (qkz v0 v3 K) n v4 := by
  rw [qyf]
  intro n
  induction n with
  | zero => intros; rfl
  | succ n ih =>
 intro v4
 exact (qba0 v0 v3 v4 (itK (den 0 (kret [.t 2] (decI .i64)) qgd) n K)).trans (congrArg (fun q => qgc v0 v3 v4 q (qkz v0 v3 K)) (funext fun v4 => ih v4))
def qzl := subE (R := Int) qbaz fun t m K => qlb (gL [t 0] 0) (gI [t 3] 0) (qkz (gL [t 0] 0) (gI [t 3] 0) K) FU (gI [t 4] 0)
theorem qbd0 : qca Try.prog (TIof Try.prog) 74 0 (kret [.t 2] (decI .i64)) (.loop (scOf qgd)) (qzl) :=
  qen tabOk follows (qbbv) (qn (by kernel_rfl)) fun t m K => qbdz _ _ K FU _
def qk0  (K : Ex → Env → Mem → Option Int) := (fun (_ : Unit) => K (.exit 0) (qh []) (qg []))
def qba1 : Shp := ⟨[(0, .one (.l (.sl 8))), (3, .one (.l (.i .i64)))], []⟩
def qqb (v0 : List AV) (v3 : Int) : Env := qh [(0, (.sl 8 v0)), (3, (.int .i64 v3))]
def qqc (v0 : List AV) (v3 : Int) : Mem := qg []
def qge  (v0 : List AV) (v3 : Int) (next : Int → Option Int) (kx0 : Unit → Option Int) : Option Int :=
  (bif (decide (v3 < (v0.length : Int))) then (oB (ixB v0 v3) fun y1 => (bif fitC qb y1.cells then (oB (qgb (gB y1.cells 0) (gI y1.cells 1) (gI y1.cells 2) (gI y1.cells 3)) fun r2 => (bif (!r2) then (some (3 : Int)) else (oB (ixB v0 v3) fun y3 => (bif fitC qb y3.cells then (oB (qnl (gB y3.cells 0) (gI y3.cells 1) (gI y3.cells 2) (gI y3.cells 3) (gI y3.cells 4) (gS y3.cells 5) (gS y3.cells 6) (gI y3.cells 7)) fun r4 => (bif (!r4) then (some (1 : Int)) else (qol v0 v3 (fun v43q5 => (bif v43q5 then (some (7 : Int)) else (qom v0 v3 (fun v59q6 => (bif v59q6 then (some (12 : Int)) else (qlb v0 v3 (fun (_ : Unit) => (next (IntKind.i64.wrap (v3 + (1 : Int))))) FU (0 : Int)))))))))) else none)))) else none)) else (kx0 ()))
def qmu  (v0 : List AV) (kx0 : Unit → Option Int) : Nat → Int → Option Int
  | 0 => (fun _ => none)
  | n + 1 => (fun v3 => qge v0 v3 (qmu v0 kx0 n) kx0)
def qon := hull (qmu)
theorem qyg : qon = qmu := qj _
def qgf : AC Int :=
  .seq (.seq (.reg [ao 8 (.mv 3),
 ao 9 (.mv 0),
 ao 10 (.len false 9),
 ao 11 (.bin .lss 8 10)]) (.cond 11 (.skip) (.seq (.view [.sel [] []]) (.exit 0)))) (.seq (.block 1 (.seq (.seq (.reg [ao 14 (.mv 0),
 ao 15 (.mv 3),
 ao 16 (.ia 8 14 15),
 .st (.etac 16 qb),
 ao 17 (.fa 0 16),
 ao 18 (.load true 4 17),
 .call (po 19 (.call 45 [18])) 45 qhn,
 ao 20 (.un .not 19)]) (.cond 20 (.seq (.reg [ao 2 (.mv (.c (.int .i64 3)))]) (.ret)) (.skip))) (.seq (.seq (.reg [ao 21 (.mv 0),
 ao 22 (.mv 3),
 ao 23 (.ia 8 21 22),
 .st (.etac 23 qb),
 ao 24 (.load true 8 23),
 .call (po 25 (.call 46 [24])) 46 qxj,
 ao 26 (.un .not 25)]) (.cond 26 (.seq (.reg [ao 2 (.mv (.c (.int .i64 1)))]) (.ret)) (.skip))) (.seq (.seq (.seq (.view [.sel [0, 3] []]) (.sub (scOf qmr) qzj)) (.cond 43 (.seq (.reg [ao 2 (.mv (.c (.int .i64 7)))]) (.ret)) (.skip))) (.seq (.seq (.seq (.view [.sel [0, 3] []]) (.sub (scOf qms) qzk)) (.cond 59 (.seq (.reg [ao 2 (.mv (.c (.int .i64 12)))]) (.ret)) (.skip))) (.seq (.reg [ao 4 (.mv (.c (.int .i64 0)))]) (.block 2 (.seq (.view [.sel [0, 3, 4] []]) (.sub (.loop (scOf qgd)) qzl))))))))) (.seq (.reg [ao 12 (.mv 3),
 ao 13 (.bin .add 12 (.c (.int .i64 1))),
 ao 3 (.mv 13)]) (.view [.sel [0, 3] []])))
theorem qbbw : AC.ok Try.prog (TIof Try.prog) 74 0 (kret [.t 2] (decI .i64)) qgf := qm (zA (qd.ok qni) (zA (qd.ok qbbq) (zA qbdw (zA qbdy (zA qbd0 trivial)))))
theorem qba2 (v0 : List AV) (v3 : Int) (K : Ex → Env → Mem → Option Int) : den 0 (kret [.t 2] (decI .i64)) qgf (qqb v0 v3) (qqc v0 v3) K = qge v0 v3 (fun z_v3 => K .norm (qqb v0 z_v3) (qqc v0 z_v3)) (qk0 K) := by kernel_rfl
theorem qbd1 (v0 : List AV) (K : Ex → Env → Mem → Option Int) : ∀ (n : Nat) (v3 : Int), qe5 (den 0 (kret [.t 2] (decI .i64)) qgf) n (qqb v0 v3) (qqc v0 v3) K = qon v0 (qk0 K) n v3 := by
  rw [qyg]
  intro n
  induction n with
  | zero => intros; rfl
  | succ n ih =>
 intro v3
 exact (qba2 v0 v3 (itK (den 0 (kret [.t 2] (decI .i64)) qgf) n K)).trans (congrArg (fun q => qge v0 v3 q (qk0 K)) (funext fun v3 => ih v3))
def qzm := subE (R := Int) qba1 fun t m K => qon (gL [t 0] 0) (qk0 K) FU (gI [t 3] 0)
theorem qbd2 : qca Try.prog (TIof Try.prog) 74 0 (kret [.t 2] (decI .i64)) (.loop (scOf qgf)) (qzm) :=
  qen tabOk follows (qbbw) (qn (by kernel_rfl)) fun t m K => qbd1 _ K FU _
def qbip : Shp := ⟨[(0, .one (.l (.sl 8)))], []⟩
def qxl (v0 : List AV) : Option Int :=
  (bif (decide ((v0.length : Int) > (512 : Int))) then (some (9 : Int)) else (qon v0 (fun (_ : Unit) => (some (0 : Int))) FU (0 : Int)))
def qqd := hull qxl
theorem q6a : qqd = qxl := qj _
def qxm : AC Int :=
  .seq (.reg [ao 2 (.mv (.c (.int .i64 0)))]) (.seq (.seq (.reg [ao 5 (.mv 0),
 ao 6 (.len false 5),
 ao 7 (.bin .gtr 6 (.c (.int .i64 512)))]) (.cond 7 (.seq (.reg [ao 2 (.mv (.c (.int .i64 9)))]) (.ret)) (.skip))) (.seq (.seq (.reg [ao 3 (.mv (.c (.int .i64 0)))]) (.block 0 (.seq (.view [.sel [0, 3] []]) (.sub (.loop (scOf qgf)) qzm)))) (.seq (.reg [ao 2 (.mv (.c (.int .i64 0)))]) (.ret))))
theorem qbmn : AC.ok Try.prog (TIof Try.prog) 74 0 (kret [.t 2] (decI .i64)) qxm := qm (zA qbd2 trivial)
theorem qbpt (v0 : List AV) : den 0 (kret [.t 2] (decI .i64)) qxm (qh [(0, (.sl 8 v0))]) (qg []) (kend (kret [.t 2] (decI .i64))) = qqd v0 := by
  rw [q6a]; kernel_rfl
theorem qbpu : cFn (TIof Try.prog) Try.f12 = some ⟨74, [.t 2], scOf qxm⟩ := by kernel_rfl
def qbpv (xs : List AV) : Option Int := qqd (gL [(qk xs) 0] 0)
def q38 {R : Type} : List AV → (AV → Option R) → Option R := entF qbip qbpv (AV.int .i64)
theorem qbpw {R : Type} : qd Try.prog 12 (q38 (R := R)) :=
  qz tabOk follows Try.func12 (by kernel_rfl) qbpu hdeI qbmn (qn (by kernel_rfl)) fun xs => qbpt _
def qbr9 : Shp := ⟨[(0, .one (.l (.i .u64))), (1, .one (.l (.i .i64)))], []⟩
def qbfu (v0 v1 : Int) : Option AV :=
  (some (.agg [(.bool false), (.int .u64 (0 : Int)), (.int .u64 v0), (.int .i64 v1)]))
def qo9 := hull qbfu
theorem qbbx : qo9 = qbfu := qj _
def q5i : AC AV :=
  .seq (.reg [ao 4 (.alloc [(.bool false), (.int .u64 0), (.int .u64 0), (.int .i64 0)])]) (.seq (.reg [ao 5 (.mv 0),
 ao 6 (.build [(.bool false), (.int .u64 0), (.int .u64 0)] [(2, (1, 5))]),
 ao 7 (.mv 1),
 ao 8 (.build [(.bool false), (.int .u64 0), (.int .u64 0), (.int .i64 0)] [(0, (3, 6)), (3, (1, 7))]),
 an (.store 4 4 8)]) (.ret))
theorem qbvj : AC.ok Try.prog (TIof Try.prog) 9 0 (kret [(.cell 4 true 4)] (decT [.b, (.i .u64), (.i .u64), (.i .i64)])) q5i := qm trivial
theorem qbyb (v0 v1 : Int) : den 0 (kret [(.cell 4 true 4)] (decT [.b, (.i .u64), (.i .u64), (.i .i64)])) q5i (qh [(0, (.int .u64 v0)), (1, (.int .i64 v1))]) (qg []) (kend (kret [(.cell 4 true 4)] (decT [.b, (.i .u64), (.i .u64), (.i .i64)]))) = qo9 v0 v1 := by
  rw [qbbx]; kernel_rfl
theorem qbyc : cFn (TIof Try.prog) Try.f87 = some ⟨9, [(.cell 4 true 4)], scOf q5i⟩ := by kernel_rfl
def qbyd (xs : List AV) : Option AV := qo9 (gI [(qk xs) 0] 0) (gI [(qk xs) 1] 0)
def qtb {R : Type} : List AV → (AV → Option R) → Option R := entF qbr9 qbyd (ql5 (.st [.b, (.i .u64), (.i .u64), (.i .i64)]))
theorem q5j {R : Type} : qd Try.prog 87 (qtb (R := R)) :=
  qz tabOk follows Try.func87 (by kernel_rfl) qbyc hdeT qbvj (qn (by kernel_rfl)) fun xs => qbyb _ _
def qbd3 : Shp := ⟨[], []⟩
def qt9 : Option (List AV) :=
  (oB (qo9 (167772160 : Int) (8 : Int)) fun r1 => (oB (qo9 (167772160 : Int) (24 : Int)) fun r2 => (oB (qo9 (167772165 : Int) (32 : Int)) fun r3 => (bif hd ([(.agg [(.bool (gB r1.cells 0)), (.int .u64 (gI r1.cells 1)), (.int .u64 (gI r1.cells 2)), (.int .i64 (gI r1.cells 3)), (.int .i64 (1 : Int)), (.str ([97, 108, 108] : List UInt8)), (.str ([] : List UInt8)), (.int .i64 (0 : Int))]), (.agg [(.bool (gB r2.cells 0)), (.int .u64 (gI r2.cells 1)), (.int .u64 (gI r2.cells 2)), (.int .i64 (gI r2.cells 3)), (.int .i64 (2 : Int)), (.str ([110, 101, 116] : List UInt8)), (.str ([] : List UInt8)), (.int .i64 (0 : Int))]), (.agg [(.bool (gB r3.cells 0)), (.int .u64 (gI r3.cells 1)), (.int .u64 (gI r3.cells 2)), (.int .i64 (gI r3.cells 3)), (.int .i64 (3 : Int)), (.str ([104, 111, 115, 116] : List UInt8)), (.str ([] : List UInt8)), (.int .i64 (0 : Int))])] : List AV) (([(.agg [(.bool (gB r1.cells 0)), (.int .u64 (gI r1.cells 1)), (.int .u64 (gI r1.cells 2)), (.int .i64 (gI r1.cells 3)), (.int .i64 (1 : Int)), (.str ([97, 108, 108] : List UInt8)), (.str ([] : List UInt8)), (.int .i64 (0 : Int))]), (.agg [(.bool (gB r2.cells 0)), (.int .u64 (gI r2.cells 1)), (.int .u64 (gI r2.cells 2)), (.int .i64 (gI r2.cells 3)), (.int .i64 (2 : Int)), (.str ([110, 101, 116] : List UInt8)), (.str ([] : List UInt8)), (.int .i64 (0 : Int))]), (.agg [(.bool (gB r3.cells 0)), (.int .u64 (gI r3.cells 1)), (.int .u64 (gI r3.cells 2)), (.int .i64 (gI r3.cells 3)), (.int .i64 (3 : Int)), (.str ([104, 111, 115, 116] : List UInt8)), (.str ([] : List UInt8)), (.int .i64 (0 : Int))])] : List AV).length) then (some ([(.agg [(.bool (gB r1.cells 0)), (.int .u64 (gI r1.cells 1)), (.int .u64 (gI r1.cells 2)), (.int .i64 (gI r1.cells 3)), (.int .i64 (1 : Int)), (.str ([97, 108, 108] : List UInt8)), (.str ([] : List UInt8)), (.int .i64 (0 : Int))]), (.agg [(.bool (gB r2.cells 0)), (.int .u64 (gI r2.cells 1)), (.int .u64 (gI r2.cells 2)), (.int .i64 (gI r2.cells 3)), (.int .i64 (2 : Int)), (.str ([110, 101, 116] : List UInt8)), (.str ([] : List UInt8)), (.int .i64 (0 : Int))]), (.agg [(.bool (gB r3.cells 0)), (.int .u64 (gI r3.cells 1)), (.int .u64 (gI r3.cells 2)), (.int .i64 (gI r3.cells 3)), (.int .i64 (3 : Int)), (.str ([104, 111, 115, 116] : List UInt8)), (.str ([] : List UInt8)), (.int .i64 (0 : Int))])] : List AV)) else none))))
def qnn := hull qt9
theorem q1j : qnn = qt9 := qj _
def qua : AC (List AV) :=
  .seq (.reg [ao 0 (.mv (.c .nils))]) (.seq (.reg [.call (po 1 (.call 87 [(.c (.int .u64 167772160)), (.c (.int .i64 8))])) 87 qtb,
 ao 2 (.build [(.bool false), (.int .u64 0), (.int .u64 0), (.int .i64 0), (.int .i64 0), (.str []), (.str []), (.int .i64 0)] [(0, (4, 1)), (4, (1, (.c (.int .i64 1)))), (5, (1, (.c (.str [97, 108, 108]))))]),
 .call (po 3 (.call 87 [(.c (.int .u64 167772160)), (.c (.int .i64 24))])) 87 qtb,
 ao 4 (.build [(.bool false), (.int .u64 0), (.int .u64 0), (.int .i64 0), (.int .i64 0), (.str []), (.str []), (.int .i64 0)] [(0, (4, 3)), (4, (1, (.c (.int .i64 2)))), (5, (1, (.c (.str [110, 101, 116]))))]),
 .call (po 5 (.call 87 [(.c (.int .u64 167772165)), (.c (.int .i64 32))])) 87 qtb,
 ao 6 (.build [(.bool false), (.int .u64 0), (.int .u64 0), (.int .i64 0), (.int .i64 0), (.str []), (.str []), (.int .i64 0)] [(0, (4, 5)), (4, (1, (.c (.int .i64 3)))), (5, (1, (.c (.str [104, 111, 115, 116]))))]),
 ao 7 (.bsl 8 [2, 4, 6]),
 ao 0 (.mv 7)]) (.ret))
theorem qbgp : AC.ok Try.prog (TIof Try.prog) 8 0 (kret [.t 0] (decF true 8)) qua := qm (zA (qd.ok q5j) (zA (qd.ok q5j) (zA (qd.ok q5j) trivial)))
theorem qbiq : den 0 (kret [.t 0] (decF true 8)) qua (qh []) (qg []) (kend (kret [.t 0] (decF true 8))) = qnn := by
  rw [q1j]; kernel_rfl
theorem qbir : cFn (TIof Try.prog) Try.f49 = some ⟨8, [.t 0], scOf qua⟩ := by kernel_rfl
def qbis (xs : List AV) : Option (List AV) := qnn
def qzn {R : Type} : List AV → (AV → Option R) → Option R := entF qbd3 qbis (AV.fr true 8)
theorem qbit {R : Type} : qd Try.prog 49 (qzn (R := R)) :=
  qz tabOk follows Try.func49 (by kernel_rfl) qbir hdeF qbgp (qn (by kernel_rfl)) fun xs => qbiq
def qbiu : Shp := ⟨[(0, .st (lk qb)), (1, .one (.ptr 0 0))], [.box true (lk qf)]⟩
def q6b {R : Type} (KK : AV → Mem → Option R) := (fun v3 Ai Aj Ak Al => KK (.bool v3) (qg [(some (.box true [(.bool Ai), (.int .u64 Aj), (.int .u64 Ak), (.int .i64 Al)]))]))
def qxn {R : Type}  (Aa : Bool) (Ab Ac Ad Ae : Int) (Af Ag : List UInt8) (Ah : Int) (Ai : Bool) (Aj Ak Al : Int) (kr : Bool → Bool → Int → Int → Int → Option R) : Option R :=
  (kr ((Aa == Ai) && ((Ab == Aj) && ((Ac == Ak) && ((Ad == Al) && true)))) Ai Aj Ak Al)
def qu1 {R : Type} := hull (qxn (R := R))
theorem q6c {R : Type} : qu1 (R := R) = qxn := qj _
def qkl {R : Type} (KK : AV → Mem → Option R) : AC R :=
  .seq (.reg [ao 2 (.box 0),
 ao 3 (.mv (.c (.bool false)))]) (.seq (.reg [ao 4 (.fa 0 2),
 ao 5 (.load true 4 4),
 ao 6 (.load true 4 1),
 ao 7 (.eq false true [.b, (.i .u64), (.i .u64), (.i .i64)] 5 6),
 ao 3 (.mv 7)]) (.seq (.view [.sel [3] [0]]) (.ret)))
theorem qbmo {R : Type} (KK : AV → Mem → Option R) : AC.ok Try.prog (TIof Try.prog) 8 1 (qq [.t 3] KK) (qkl KK) := qm trivial
theorem qbpx {R : Type} (KK : AV → Mem → Option R) (Aa : Bool) (Ab Ac Ad Ae : Int) (Af Ag : List UInt8) (Ah : Int) (Ai : Bool) (Aj Ak Al : Int) : den 1 (qq [.t 3] KK) (qkl KK) (qh [(0, .agg (qc Aa Ab Ac Ad Ae Af Ag Ah)), (1, (.ptr 0 0))]) (qg [(some (.box true (qa Ai Aj Ak Al)))]) (kend (qq [.t 3] KK)) = qu1 Aa Ab Ac Ad Ae Af Ag Ah Ai Aj Ak Al (q6b KK) := by
  rw [q6c]; kernel_rfl
theorem qbpy : cFn (TIof Try.prog) Try.f89 = some ⟨8, [.t 3], scOf (qkl (R := Unit) (fun _ _ => none))⟩ := by kernel_rfl
theorem qbpz {R : Type} (KK : AV → Mem → Option R) : (qkl KK).er = some (scOf (qkl (R := Unit) (fun _ _ => none))) := by kernel_rfl
def q70 {R : Type} : List AV → Mem → (AV → Mem → Option R) → Option R := refE qbiu fun xs m KK => qe (bxC (m.s 0)) (qi ((qk xs) 0).cells (qu1)) (q6b KK)
theorem qbp0 {R : Type} : qfn Try.prog 89 (q70 (R := R)) :=
  qlm (ac := fun KK => qkl KK) tabOk follows Try.func89 (by kernel_rfl) qbpy (fun KK => qbmo KK) (fun KK => qbpz KK) rfl fun xs m KK => qbpx KK _ _ _ _ _ _ _ _ _ _ _ _
def qb8 {R : Type}  (K : Ex → Env → Mem → Option R) := (fun z_b0_0 z_b0_1 z_b0_2 z_b0_3 => K (.exit 0) (qh []) (qg [(some (.box true (qa z_b0_0 z_b0_1 z_b0_2 z_b0_3)))]))
def qcb {R : Type} (KK : AV → Mem → Option R) := (fun v4 Ai Aj Ak Al => KK (.int .i64 v4) (qg [(some (.box true [(.bool Ai), (.int .u64 Aj), (.int .u64 Ak), (.int .i64 Al)]))]))
def qjf : Shp := ⟨[(0, .one (.l (.sl 8))), (1, .one (.fn 89 [(0, 0)])), (7, .one (.l (.i .i64))), (8, .one (.l (.i .i64)))], [.box true (lk qf)]⟩
def qc6 (v0 : List AV) (v7 v8 : Int) (Ai : Bool) (Aj Ak Al : Int) : Env := qh [(0, (.sl 8 v0)), (1, (.func 89 [(.ptr 0 0)])), (7, (.int .i64 v7)), (8, (.int .i64 v8))]
def qc7 (v0 : List AV) (v7 v8 : Int) (Ai : Bool) (Aj Ak Al : Int) : Mem := qg [(some (.box true (qa Ai Aj Ak Al)))]
def qbg {R : Type}  (v0 : List AV) (v7 v8 : Int) (Ai : Bool) (Aj Ak Al : Int) (next : Int → Bool → Int → Int → Int → Option R) (kx0 : Bool → Int → Int → Int → Option R) (kr : Int → Bool → Int → Int → Int → Option R) : Option R :=
  (bif (decide (v8 < v7)) then (oB (ixB v0 v8) fun y1 => (bif fitC qb y1.cells then (qu1 (gB y1.cells 0) (gI y1.cells 1) (gI y1.cells 2) (gI y1.cells 3) (gI y1.cells 4) (gS y1.cells 5) (gS y1.cells 6) (gI y1.cells 7) Ai Aj Ak Al fun v3q2 b0_0q3 b0_1q4 b0_2q5 b0_3q6 => (bif v3q2 then (kr v8 b0_0q3 b0_1q4 b0_2q5 b0_3q6) else (next (IntKind.i64.wrap (v8 + (1 : Int))) b0_0q3 b0_1q4 b0_2q5 b0_3q6))) else none)) else (kx0 Ai Aj Ak Al))
def qcf {R : Type}  (v0 : List AV) (v7 : Int) (kx0 : Bool → Int → Int → Int → Option R) (kr : Int → Bool → Int → Int → Int → Option R) : Nat → Int → Bool → Int → Int → Int → Option R
  | 0 => (fun _ _ _ _ _ => none)
  | n + 1 => (fun v8 Ai Aj Ak Al => qbg v0 v7 v8 Ai Aj Ak Al (qcf v0 v7 kx0 kr n) kx0 kr)
def qch {R : Type} := hull (qcf (R := R))
theorem qep {R : Type} : qch (R := R) = qcf := qj _
def qbh {R : Type} (KK : AV → Mem → Option R) : AC R :=
  .seq (.reg [ao 9 (.bin .lss 8 7)]) (.seq (.cond 9 (.skip) (.seq (.view [.sel [] [0]]) (.exit 0))) (.seq (.block 1 (.seq (.reg [ao 10 (.mv 8),
 ao 5 (.mv 10)]) (.seq (.reg [ao 11 (.mv 1),
 ao 12 (.mv 0),
 ao 13 (.mv 5),
 ao 14 (.ia 8 12 13),
 .st (.etac 14 qb),
 ao 15 (.load true 8 14),
 .st (.sel [0, 1, 5, 7, 8, 11, 15] [0]),
 .callr (po 16 (.callv 11 [15])) 89 q70]) (.cond 16 (.seq (.reg [ao 17 (.mv 5),
 ao 4 (.mv 17)]) (.seq (.view [.sel [4] [0]]) (.ret))) (.skip))))) (.seq (.reg [ao 18 (.bin .add 8 (.c (.int .i64 1))),
 ao 8 (.mv 18)]) (.view [.sel [0, 1, 7, 8] [0]]))))
theorem qjw {R : Type} (KK : AV → Mem → Option R) : AC.ok Try.prog (TIof Try.prog) 19 1 (qq [.t 4] KK) (qbh KK) := qm (zA qbp0 trivial)
theorem qjg {R : Type} (KK : AV → Mem → Option R) (v0 : List AV) (v7 v8 : Int) (Ai : Bool) (Aj Ak Al : Int) (K : Ex → Env → Mem → Option R) : den 1 (qq [.t 4] KK) (qbh KK) (qc6 v0 v7 v8 Ai Aj Ak Al) (qc7 v0 v7 v8 Ai Aj Ak Al) K = qbg v0 v7 v8 Ai Aj Ak Al (fun z_v8 z_b0_0 z_b0_1 z_b0_2 z_b0_3 => K .norm (qc6 v0 v7 z_v8 z_b0_0 z_b0_1 z_b0_2 z_b0_3) (qc7 v0 v7 z_v8 z_b0_0 z_b0_1 z_b0_2 z_b0_3)) (qb8 K) (qcb KK) := by kernel_rfl
theorem qj2 {R : Type} (KK : AV → Mem → Option R) (v0 : List AV) (v7 : Int) (K : Ex → Env → Mem → Option R) : ∀ (n : Nat) (v8 : Int) (Ai : Bool) (Aj Ak Al : Int), qe5 (den 1 (qq [.t 4] KK) (qbh KK)) n (qc6 v0 v7 v8 Ai Aj Ak Al) (qc7 v0 v7 v8 Ai Aj Ak Al) K = qch v0 v7 (qb8 K) (qcb KK) n v8 Ai Aj Ak Al := by
  rw [qep]
  intro n
  induction n with
  | zero => intros; rfl
  | succ n ih =>
 intro v8 Ai Aj Ak Al
 exact (qjg KK v0 v7 v8 Ai Aj Ak Al (itK (den 1 (qq [.t 4] KK) (qbh KK)) n K)).trans (congrArg (fun q => qbg v0 v7 v8 Ai Aj Ak Al q (qb8 K) (qcb KK)) (funext fun v8 => funext fun Ai => funext fun Aj => funext fun Ak => funext fun Al => ih v8 Ai Aj Ak Al))
def qeu {R : Type} (KK : AV → Mem → Option R) := subE (R := R) qjf fun t m K => qe (bxC (m.s 0)) (qch (gL [t 0] 0) (gI [t 7] 0) (qb8 K) (qcb KK) FU (gI [t 8] 0))
theorem qj3 {R : Type} (KK : AV → Mem → Option R) : qca Try.prog (TIof Try.prog) 19 1 (qq [.t 4] KK) (.loop (scOf (qbh KK))) (qeu KK) :=
  qen tabOk follows (qjw KK) (qn (by kernel_rfl)) fun t m K => qj2 KK _ _ K FU _ _ _ _ _
def qkm : Shp := ⟨[(0, .one (.l (.sl 8))), (1, .one (.fn 89 [(0, 0)]))], [.box true (lk qf)]⟩
def qe2 {R : Type} (KK : AV → Mem → Option R) := (fun v4 Ai Aj Ak Al => KK (.int .i64 v4) (qg [(some (.box true [(.bool Ai), (.int .u64 Aj), (.int .u64 Ak), (.int .i64 Al)]))]))
def qdh {R : Type}  (v0 : List AV) (Ai : Bool) (Aj Ak Al : Int) (kr : Int → Bool → Int → Int → Int → Option R) : Option R :=
  (qch v0 (v0.length : Int) (fun b0_0q1 b0_1q2 b0_2q3 b0_3q4 => (kr (-1 : Int) b0_0q1 b0_1q2 b0_2q3 b0_3q4)) kr FU (0 : Int) Ai Aj Ak Al)
def qck {R : Type} := hull (qdh (R := R))
theorem qe3 {R : Type} : qck (R := R) = qdh := qj _
def qbk {R : Type} (KK : AV → Mem → Option R) : AC R :=
  .seq (.reg [ao 4 (.mv (.c (.int .i64 0)))]) (.seq (.seq (.reg [ao 6 (.mv 0),
 ao 7 (.len false 6),
 ao 8 (.mv (.c (.int .i64 0)))]) (.block 0 (.seq (.view [.sel [0, 1, 7, 8] [0]]) (.sub (.loop (scOf (qbh KK))) (qeu KK))))) (.seq (.reg [ao 4 (.mv (.c (.int .i64 (-1))))]) (.seq (.view [.sel [4] [0]]) (.ret))))
theorem qk1 {R : Type} (KK : AV → Mem → Option R) : AC.ok Try.prog (TIof Try.prog) 19 1 (qq [.t 4] KK) (qbk KK) := qm (zA (qj3 KK) trivial)
theorem qlc {R : Type} (KK : AV → Mem → Option R) (v0 : List AV) (Ai : Bool) (Aj Ak Al : Int) : den 1 (qq [.t 4] KK) (qbk KK) (qh [(0, (.sl 8 v0)), (1, (.func 89 [(.ptr 0 0)]))]) (qg [(some (.box true (qa Ai Aj Ak Al)))]) (kend (qq [.t 4] KK)) = qck v0 Ai Aj Ak Al (qe2 KK) := by
  rw [qe3]; kernel_rfl
theorem qld : cFn (TIof Try.prog) Try.f88 = some ⟨19, [.t 4], scOf (qbk (R := Unit) (fun _ _ => none))⟩ := by kernel_rfl
theorem qle {R : Type} (KK : AV → Mem → Option R) : (qbk KK).er = some (scOf (qbk (R := Unit) (fun _ _ => none))) := by kernel_rfl
def qe7 {R : Type} : List AV → Mem → (AV → Mem → Option R) → Option R := refE qkm fun xs m KK => qe (bxC (m.s 0)) (qck (gL [(qk xs) 0] 0)) (qe2 KK)
theorem qlf {R : Type} : qfn Try.prog 88 (qe7 (R := R)) :=
  qlm (ac := fun KK => qbk KK) tabOk follows Try.func88 (by kernel_rfl) qld (fun KK => qk1 KK) (fun KK => qle KK) rfl fun xs m KK => qlc KK _ _ _ _ _
def qbp1 : Shp := ⟨[(0, .one (.l (.sl 8))), (1, .st (lk qf))], []⟩
def q2o (v0 : List AV) (Aq : Bool) (Ar As At : Int) : Option Int :=
  (qck v0 Aq Ar As At fun v4q1 b0_0q2 b0_1q3 b0_2q4 b0_3q5 => (some v4q1))
def qfu := hull q2o
theorem q9z : qfu = q2o := qj _
def q2p : AC Int :=
  .seq (.reg [ao 3 (.box 1),
 ao 4 (.mv (.c (.int .i64 0)))]) (.seq (.reg [ao 5 (.mv 0),
 ao 6 (.mkf 89 [3]),
 .st (.sel [5, 6] [0]),
 .callr (po 7 (.call 88 [5, 6])) 88 qe7,
 ao 4 (.mv 7)]) (.ret))
theorem qbsa : AC.ok Try.prog (TIof Try.prog) 8 0 (kret [.t 4] (decI .i64)) q2p := qm (zA qlf trivial)
theorem qbvk (v0 : List AV) (Aq : Bool) (Ar As At : Int) : den 0 (kret [.t 4] (decI .i64)) q2p (qh [(0, (.sl 8 v0)), (1, .agg (qa Aq Ar As At))]) (qg []) (kend (kret [.t 4] (decI .i64))) = qfu v0 Aq Ar As At := by
  rw [q9z]; kernel_rfl
theorem qbvl : cFn (TIof Try.prog) Try.f51 = some ⟨8, [.t 4], scOf q2p⟩ := by kernel_rfl
def qbvm (xs : List AV) : Option Int := qe ((qk xs) 1).cells (qfu (gL [(qk xs) 0] 0))
def qfv {R : Type} : List AV → (AV → Option R) → Option R := entF qbp1 qbvm (AV.int .i64)
theorem qkn {R : Type} : qd Try.prog 51 (qfv (R := R)) :=
  qz tabOk follows Try.func51 (by kernel_rfl) qbvl hdeI qbsa (qn (by kernel_rfl)) fun xs => qbvk _ _ _ _ _
def qbby : Shp := ⟨[(0, .st (lk qb)), (1, .one (.ptr 0 0))], [.box true (lk qf)]⟩
def qzo {R : Type} (KK : AV → Mem → Option R) := (fun v3 Ai Aj Ak Al => KK (.bool v3) (qg [(some (.box true [(.bool Ai), (.int .u64 Aj), (.int .u64 Ak), (.int .i64 Al)]))]))
def qsp {R : Type}  (Aa : Bool) (Ab Ac Ad Ae : Int) (Af Ag : List UInt8) (Ah : Int) (Ai : Bool) (Aj Ak Al : Int) (kr : Bool → Bool → Int → Int → Int → Option R) : Option R :=
  (oB (qg3 Aa Ab Ac Ad Ai Aj Ak Al) fun r1 => (kr r1 Ai Aj Ak Al))
def qmg {R : Type} := hull (qsp (R := R))
theorem qzp {R : Type} : qmg (R := R) = qsp := qj _
def qgv {R : Type} (KK : AV → Mem → Option R) : AC R :=
  .seq (.reg [ao 2 (.box 0),
 ao 3 (.mv (.c (.bool false)))]) (.seq (.reg [ao 4 (.fa 0 2),
 ao 5 (.load true 4 4),
 ao 6 (.load true 4 1),
 .call (po 7 (.call 64 [5, 6])) 64 qgq,
 ao 3 (.mv 7)]) (.seq (.view [.sel [3] [0]]) (.ret)))
theorem qbd4 {R : Type} (KK : AV → Mem → Option R) : AC.ok Try.prog (TIof Try.prog) 8 1 (qq [.t 3] KK) (qgv KK) := qm (zA (qd.ok ql7) trivial)
theorem qbgq {R : Type} (KK : AV → Mem → Option R) (Aa : Bool) (Ab Ac Ad Ae : Int) (Af Ag : List UInt8) (Ah : Int) (Ai : Bool) (Aj Ak Al : Int) : den 1 (qq [.t 3] KK) (qgv KK) (qh [(0, .agg (qc Aa Ab Ac Ad Ae Af Ag Ah)), (1, (.ptr 0 0))]) (qg [(some (.box true (qa Ai Aj Ak Al)))]) (kend (qq [.t 3] KK)) = qmg Aa Ab Ac Ad Ae Af Ag Ah Ai Aj Ak Al (qzo KK) := by
  rw [qzp]; kernel_rfl
theorem qbgr : cFn (TIof Try.prog) Try.f90 = some ⟨8, [.t 3], scOf (qgv (R := Unit) (fun _ _ => none))⟩ := by kernel_rfl
theorem qbgs {R : Type} (KK : AV → Mem → Option R) : (qgv KK).er = some (scOf (qgv (R := Unit) (fun _ _ => none))) := by kernel_rfl
def q1k {R : Type} : List AV → Mem → (AV → Mem → Option R) → Option R := refE qbby fun xs m KK => qe (bxC (m.s 0)) (qi ((qk xs) 0).cells (qmg)) (qzo KK)
theorem qbgt {R : Type} : qfn Try.prog 90 (q1k (R := R)) :=
  qlm (ac := fun KK => qgv KK) tabOk follows Try.func90 (by kernel_rfl) qbgr (fun KK => qbd4 KK) (fun KK => qbgs KK) rfl fun xs m KK => qbgq KK _ _ _ _ _ _ _ _ _ _ _ _
def qbv {R : Type}  (K : Ex → Env → Mem → Option R) := (fun z_b0_0 z_b0_1 z_b0_2 z_b0_3 => K (.exit 0) (qh []) (qg [(some (.box true (qa z_b0_0 z_b0_1 z_b0_2 z_b0_3)))]))
def qbz {R : Type} (KK : AV → Mem → Option R) := (fun v4 Ai Aj Ak Al => KK (.int .i64 v4) (qg [(some (.box true [(.bool Ai), (.int .u64 Aj), (.int .u64 Ak), (.int .i64 Al)]))]))
def qh3 : Shp := ⟨[(0, .one (.l (.sl 8))), (1, .one (.fn 90 [(0, 0)])), (7, .one (.l (.i .i64))), (8, .one (.l (.i .i64)))], [.box true (lk qf)]⟩
def qcw (v0 : List AV) (v7 v8 : Int) (Ai : Bool) (Aj Ak Al : Int) : Env := qh [(0, (.sl 8 v0)), (1, (.func 90 [(.ptr 0 0)])), (7, (.int .i64 v7)), (8, (.int .i64 v8))]
def qcx (v0 : List AV) (v7 v8 : Int) (Ai : Bool) (Aj Ak Al : Int) : Mem := qg [(some (.box true (qa Ai Aj Ak Al)))]
def q8 {R : Type}  (v0 : List AV) (v7 v8 : Int) (Ai : Bool) (Aj Ak Al : Int) (next : Int → Bool → Int → Int → Int → Option R) (kx0 : Bool → Int → Int → Int → Option R) (kr : Int → Bool → Int → Int → Int → Option R) : Option R :=
  (bif (decide (v8 < v7)) then (oB (ixB v0 v8) fun y1 => (bif fitC qb y1.cells then (qmg (gB y1.cells 0) (gI y1.cells 1) (gI y1.cells 2) (gI y1.cells 3) (gI y1.cells 4) (gS y1.cells 5) (gS y1.cells 6) (gI y1.cells 7) Ai Aj Ak Al fun v3q2 b0_0q3 b0_1q4 b0_2q5 b0_3q6 => (bif v3q2 then (kr v8 b0_0q3 b0_1q4 b0_2q5 b0_3q6) else (next (IntKind.i64.wrap (v8 + (1 : Int))) b0_0q3 b0_1q4 b0_2q5 b0_3q6))) else none)) else (kx0 Ai Aj Ak Al))
def qb0 {R : Type}  (v0 : List AV) (v7 : Int) (kx0 : Bool → Int → Int → Int → Option R) (kr : Int → Bool → Int → Int → Int → Option R) : Nat → Int → Bool → Int → Int → Int → Option R
  | 0 => (fun _ _ _ _ _ => none)
  | n + 1 => (fun v8 Ai Aj Ak Al => q8 v0 v7 v8 Ai Aj Ak Al (qb0 v0 v7 kx0 kr n) kx0 kr)
def qcc {R : Type} := hull (qb0 (R := R))
theorem qd4 {R : Type} : qcc (R := R) = qb0 := qj _
def q9 {R : Type} (KK : AV → Mem → Option R) : AC R :=
  .seq (.reg [ao 9 (.bin .lss 8 7)]) (.seq (.cond 9 (.skip) (.seq (.view [.sel [] [0]]) (.exit 0))) (.seq (.block 1 (.seq (.reg [ao 10 (.mv 8),
 ao 5 (.mv 10)]) (.seq (.reg [ao 11 (.mv 1),
 ao 12 (.mv 0),
 ao 13 (.mv 5),
 ao 14 (.ia 8 12 13),
 .st (.etac 14 qb),
 ao 15 (.load true 8 14),
 .st (.sel [0, 1, 5, 7, 8, 11, 15] [0]),
 .callr (po 16 (.callv 11 [15])) 90 q1k]) (.cond 16 (.seq (.reg [ao 17 (.mv 5),
 ao 4 (.mv 17)]) (.seq (.view [.sel [4] [0]]) (.ret))) (.skip))))) (.seq (.reg [ao 18 (.bin .add 8 (.c (.int .i64 1))),
 ao 8 (.mv 18)]) (.view [.sel [0, 1, 7, 8] [0]]))))
theorem qii {R : Type} (KK : AV → Mem → Option R) : AC.ok Try.prog (TIof Try.prog) 19 1 (qq [.t 4] KK) (q9 KK) := qm (zA qbgt trivial)
theorem qh4 {R : Type} (KK : AV → Mem → Option R) (v0 : List AV) (v7 v8 : Int) (Ai : Bool) (Aj Ak Al : Int) (K : Ex → Env → Mem → Option R) : den 1 (qq [.t 4] KK) (q9 KK) (qcw v0 v7 v8 Ai Aj Ak Al) (qcx v0 v7 v8 Ai Aj Ak Al) K = q8 v0 v7 v8 Ai Aj Ak Al (fun z_v8 z_b0_0 z_b0_1 z_b0_2 z_b0_3 => K .norm (qcw v0 v7 z_v8 z_b0_0 z_b0_1 z_b0_2 z_b0_3) (qcx v0 v7 z_v8 z_b0_0 z_b0_1 z_b0_2 z_b0_3)) (qbv K) (qbz KK) := by kernel_rfl
theorem qin {R : Type} (KK : AV → Mem → Option R) (v0 : List AV) (v7 : Int) (K : Ex → Env → Mem → Option R) : ∀ (n : Nat) (v8 : Int) (Ai : Bool) (Aj Ak Al : Int), qe5 (den 1 (qq [.t 4] KK) (q9 KK)) n (qcw v0 v7 v8 Ai Aj Ak Al) (qcx v0 v7 v8 Ai Aj Ak Al) K = qcc v0 v7 (qbv K) (qbz KK) n v8 Ai Aj Ak Al := by
  rw [qd4]
  intro n
  induction n with
  | zero => intros; rfl
  | succ n ih =>
 intro v8 Ai Aj Ak Al
 exact (qh4 KK v0 v7 v8 Ai Aj Ak Al (itK (den 1 (qq [.t 4] KK) (q9 KK)) n K)).trans (congrArg (fun q => q8 v0 v7 v8 Ai Aj Ak Al q (qbv K) (qbz KK)) (funext fun v8 => funext fun Ai => funext fun Aj => funext fun Ak => funext fun Al => ih v8 Ai Aj Ak Al))
def qd8 {R : Type} (KK : AV → Mem → Option R) := subE (R := R) qh3 fun t m K => qe (bxC (m.s 0)) (qcc (gL [t 0] 0) (gI [t 7] 0) (qbv K) (qbz KK) FU (gI [t 8] 0))
theorem qio {R : Type} (KK : AV → Mem → Option R) : qca Try.prog (TIof Try.prog) 19 1 (qq [.t 4] KK) (.loop (scOf (q9 KK))) (qd8 KK) :=
  qen tabOk follows (qii KK) (qn (by kernel_rfl)) fun t m K => qin KK _ _ K FU _ _ _ _ _
def qjh : Shp := ⟨[(0, .one (.l (.sl 8))), (1, .one (.fn 90 [(0, 0)]))], [.box true (lk qf)]⟩
def qeq {R : Type} (KK : AV → Mem → Option R) := (fun v4 Ai Aj Ak Al => KK (.int .i64 v4) (qg [(some (.box true [(.bool Ai), (.int .u64 Aj), (.int .u64 Ak), (.int .i64 Al)]))]))
def qdb {R : Type}  (v0 : List AV) (Ai : Bool) (Aj Ak Al : Int) (kr : Int → Bool → Int → Int → Int → Option R) : Option R :=
  (qcc v0 (v0.length : Int) (fun b0_0q1 b0_1q2 b0_2q3 b0_3q4 => (kr (-1 : Int) b0_0q1 b0_1q2 b0_2q3 b0_3q4)) kr FU (0 : Int) Ai Aj Ak Al)
def qbo {R : Type} := hull (qdb (R := R))
theorem qer {R : Type} : qbo (R := R) = qdb := qj _
def qbi {R : Type} (KK : AV → Mem → Option R) : AC R :=
  .seq (.reg [ao 4 (.mv (.c (.int .i64 0)))]) (.seq (.seq (.reg [ao 6 (.mv 0),
 ao 7 (.len false 6),
 ao 8 (.mv (.c (.int .i64 0)))]) (.block 0 (.seq (.view [.sel [0, 1, 7, 8] [0]]) (.sub (.loop (scOf (q9 KK))) (qd8 KK))))) (.seq (.reg [ao 4 (.mv (.c (.int .i64 (-1))))]) (.seq (.view [.sel [4] [0]]) (.ret))))
theorem qjx {R : Type} (KK : AV → Mem → Option R) : AC.ok Try.prog (TIof Try.prog) 19 1 (qq [.t 4] KK) (qbi KK) := qm (zA (qio KK) trivial)
theorem qj4 {R : Type} (KK : AV → Mem → Option R) (v0 : List AV) (Ai : Bool) (Aj Ak Al : Int) : den 1 (qq [.t 4] KK) (qbi KK) (qh [(0, (.sl 8 v0)), (1, (.func 90 [(.ptr 0 0)]))]) (qg [(some (.box true (qa Ai Aj Ak Al)))]) (kend (qq [.t 4] KK)) = qbo v0 Ai Aj Ak Al (qeq KK) := by
  rw [qer]; kernel_rfl
theorem qj5 : cFn (TIof Try.prog) Try.f88 = some ⟨19, [.t 4], scOf (qbi (R := Unit) (fun _ _ => none))⟩ := by kernel_rfl
theorem qj6 {R : Type} (KK : AV → Mem → Option R) : (qbi KK).er = some (scOf (qbi (R := Unit) (fun _ _ => none))) := by kernel_rfl
def qev {R : Type} : List AV → Mem → (AV → Mem → Option R) → Option R := refE qjh fun xs m KK => qe (bxC (m.s 0)) (qbo (gL [(qk xs) 0] 0)) (qeq KK)
theorem qj7 {R : Type} : qfn Try.prog 88 (qev (R := R)) :=
  qlm (ac := fun KK => qbi KK) tabOk follows Try.func88 (by kernel_rfl) qj5 (fun KK => qjx KK) (fun KK => qj6 KK) rfl fun xs m KK => qj4 KK _ _ _ _ _
def qh5 : Shp := ⟨[(0, .one (.l (.sl 8))), (1, .one (.fn 90 [(0, 0)]))], [.box true (lk qf)]⟩
def qd5 {R : Type} (KK : AV → Mem → Option R) := (fun v4 Ai Aj Ak Al => KK (.bool v4) (qg [(some (.box true [(.bool Ai), (.int .u64 Aj), (.int .u64 Ak), (.int .i64 Al)]))]))
def qcy {R : Type}  (v0 : List AV) (Ai : Bool) (Aj Ak Al : Int) (kr : Bool → Bool → Int → Int → Int → Option R) : Option R :=
  (qbo v0 Ai Aj Ak Al fun v4q1 b0_0q2 b0_1q3 b0_2q4 b0_3q5 => (kr (decide (v4q1 ≥ (0 : Int))) b0_0q2 b0_1q3 b0_2q4 b0_3q5))
def qcd {R : Type} := hull (qcy (R := R))
theorem qd6 {R : Type} : qcd (R := R) = qcy := qj _
def qba {R : Type} (KK : AV → Mem → Option R) : AC R :=
  .seq (.reg [ao 4 (.mv (.c (.bool false)))]) (.seq (.reg [ao 5 (.mv 0),
 ao 6 (.mv 1),
 .st (.sel [5, 6] [0]),
 .callr (po 7 (.call 88 [5, 6])) 88 qev,
 ao 8 (.bin .geq 7 (.c (.int .i64 0))),
 ao 4 (.mv 8)]) (.seq (.view [.sel [4] [0]]) (.ret)))
theorem qij {R : Type} (KK : AV → Mem → Option R) : AC.ok Try.prog (TIof Try.prog) 9 1 (qq [.t 4] KK) (qba KK) := qm (zA qj7 trivial)
theorem qip {R : Type} (KK : AV → Mem → Option R) (v0 : List AV) (Ai : Bool) (Aj Ak Al : Int) : den 1 (qq [.t 4] KK) (qba KK) (qh [(0, (.sl 8 v0)), (1, (.func 90 [(.ptr 0 0)]))]) (qg [(some (.box true (qa Ai Aj Ak Al)))]) (kend (qq [.t 4] KK)) = qcd v0 Ai Aj Ak Al (qd5 KK) := by
  rw [qd6]; kernel_rfl
theorem qiq : cFn (TIof Try.prog) Try.f68 = some ⟨9, [.t 4], scOf (qba (R := Unit) (fun _ _ => none))⟩ := by kernel_rfl
theorem qir {R : Type} (KK : AV → Mem → Option R) : (qba KK).er = some (scOf (qba (R := Unit) (fun _ _ => none))) := by kernel_rfl
def qd9 {R : Type} : List AV → Mem → (AV → Mem → Option R) → Option R := refE qh5 fun xs m KK => qe (bxC (m.s 0)) (qcd (gL [(qk xs) 0] 0)) (qd5 KK)
theorem qis {R : Type} : qfn Try.prog 68 (qd9 (R := R)) :=
  qlm (ac := fun KK => qba KK) tabOk follows Try.func68 (by kernel_rfl) qiq (fun KK => qij KK) (fun KK => qir KK) rfl fun xs m KK => qip KK _ _ _ _ _
def qbgu : Shp := ⟨[(0, .one (.l (.sl 8))), (1, .st (lk qf))], []⟩
def qvp (v0 : List AV) (Aq : Bool) (Ar As At : Int) : Option Bool :=
  (qcd v0 Aq Ar As At fun v4q1 b0_0q2 b0_1q3 b0_2q4 b0_3q5 => (some v4q1))
def qit := hull qvp
theorem q39 : qit = qvp := qj _
def qvq : AC Bool :=
  .seq (.reg [ao 3 (.box 1),
 ao 4 (.mv (.c (.bool false)))]) (.seq (.reg [ao 5 (.mv 0),
 ao 6 (.mkf 90 [3]),
 .st (.sel [5, 6] [0]),
 .callr (po 7 (.call 68 [5, 6])) 68 qd9,
 ao 4 (.mv 7)]) (.ret))
theorem qbiv : AC.ok Try.prog (TIof Try.prog) 8 0 (kret [.t 4] decB) qvq := qm (zA qis trivial)
theorem qbmp (v0 : List AV) (Aq : Bool) (Ar As At : Int) : den 0 (kret [.t 4] decB) qvq (qh [(0, (.sl 8 v0)), (1, .agg (qa Aq Ar As At))]) (qg []) (kend (kret [.t 4] decB)) = qit v0 Aq Ar As At := by
  rw [q39]; kernel_rfl
theorem qbmq : cFn (TIof Try.prog) Try.f52 = some ⟨8, [.t 4], scOf qvq⟩ := by kernel_rfl
def qbmr (xs : List AV) : Option Bool := qe ((qk xs) 1).cells (qit (gL [(qk xs) 0] 0))
def qn1 {R : Type} : List AV → (AV → Option R) → Option R := entF qbgu qbmr AV.bool
theorem qvr {R : Type} : qd Try.prog 52 (qn1 (R := R)) :=
  qz tabOk follows Try.func52 (by kernel_rfl) qbmq hdeB qbiv (qn (by kernel_rfl)) fun xs => qbmp _ _ _ _ _
def qbx (l : List AV) : Option (List AV) := qbky 80 l
def qfh {R : Type} (xs : List AV) (K : AV → Option R) : Option R := qbfj 8 80 xs K
theorem qlg {R : Type} : qd Try.prog 93 (qfh (R := R)) := qb66 (ρ := qbra 93 4 22 34) tabOk (qb4d follows "slices.Clone[[]ddi/api.Block,ddi/api.Block]" (by kernel_rfl) (by kernel_rfl) (by kernel_rfl) (by kernel_rfl) (by kernel_rfl) (by kernel_rfl) (by kernel_rfl) (by kernel_rfl)) (by kernel_rfl) (by decide) (by decide)
def qbiw {R : Type} (vs : List AV) (m : Mem) (K : AV → Mem → Option R) : Option R := qbaj 8 vs m K
theorem qbzh {R : Type} : qfn Try.prog 95 (qbiw (R := R)) := qb4e (ρ := qbkz 95 0 3 4 22 34) tabOk (qb3b follows "slices.Delete[[]ddi/api.Block,ddi/api.Block]" (by kernel_rfl) (by kernel_rfl) (by kernel_rfl) (by kernel_rfl) (by kernel_rfl) (by kernel_rfl) (by kernel_rfl) (by kernel_rfl) (by kernel_rfl) (by kernel_rfl) (by kernel_rfl) (by kernel_rfl) (by kernel_rfl) (by kernel_rfl)) (by kernel_rfl) (by decide)
def qbix : Shp := ⟨[(0, .one (.l (.sl 8))), (1, .one (.l (.i .i64)))], []⟩
def qxo (v0 : List AV) (v1 : Int) : Option (List AV) :=
  (oB (qbx v0) fun r1 => (bif hd r1 r1.length then (oB (qbc6 r1 v1 (IntKind.i64.wrap (v1 + (1 : Int)))) fun r2 => (bif hd r2 r2.length then (some r2) else none)) else none))
def qgg := hull qxo
theorem q6d : qgg = qxo := qj _
def qxp : AC (List AV) :=
  .seq (.reg [ao 4 (.mv (.c .nils))]) (.seq (.reg [ao 5 (.mv 0),
 .call (po 6 (.call 93 [5])) 93 qfh,
 ao 7 (.mv 1),
 ao 8 (.mv 1),
 ao 9 (.bin .add 8 (.c (.int .i64 1))),
 .callr (po 10 (.call 95 [6, 7, 9])) 95 qbiw,
 ao 4 (.mv 10)]) (.ret))
theorem qbms : AC.ok Try.prog (TIof Try.prog) 11 0 (kret [.t 4] (decF true 8)) qxp := qm (zA (qd.ok qlg) (zA qbzh trivial))
theorem qbp2 (v0 : List AV) (v1 : Int) : den 0 (kret [.t 4] (decF true 8)) qxp (qh [(0, (.sl 8 v0)), (1, (.int .i64 v1))]) (qg []) (kend (kret [.t 4] (decF true 8))) = qgg v0 v1 := by
  rw [q6d]; kernel_rfl
theorem qbp3 : cFn (TIof Try.prog) Try.f56 = some ⟨11, [.t 4], scOf qxp⟩ := by kernel_rfl
def qbp4 (xs : List AV) : Option (List AV) := qgg (gL [(qk xs) 0] 0) (gI [(qk xs) 1] 0)
def qlh {R : Type} : List AV → (AV → Option R) → Option R := entF qbix qbp4 (AV.fr true 8)
theorem qq8 {R : Type} : qd Try.prog 56 (qlh (R := R)) :=
  qz tabOk follows Try.func56 (by kernel_rfl) qbp3 hdeF qbms (qn (by kernel_rfl)) fun xs => qbp2 _ _
def qvs (z : AV) : Option ((List AV) × Int) := cond (qgm [(.one (.sl 8)), (.one (.i .i64))] z) (some (aL (gC (tpL z) 0), aI (gC (tpL z) 1))) none
def qbmt (r : (List AV) × Int) : AV := .tup [.sl 8 r.1, .int .i64 r.2]
def qbmu : Shp := ⟨[(0, .one (.l (.sl 8))), (1, .st (lk qf))], []⟩
def qzq (v0 : List AV) (Aq : Bool) (Ar As At : Int) : Option ((List AV) × Int) :=
  (oB (qfu v0 Aq Ar As At) fun r1 => (bif (decide (r1 < (0 : Int))) then (some (([] : List AV), (11 : Int))) else (oB (qit v0 Aq Ar As At) fun r2 => (bif r2 then (some (([] : List AV), (25 : Int))) else (oB (qgg v0 r1) fun r3 => (some (r3, (0 : Int))))))))
def ql9 := hull qzq
theorem q71 : ql9 = qzq := qj _
def qzr : AC ((List AV) × Int) :=
  .seq (.reg [ao 3 (.box 1),
 ao 4 (.mv (.c .nils)),
 ao 5 (.mv (.c (.int .i64 0)))]) (.seq (.reg [ao 7 (.mv 0),
 ao 8 (.load true 4 3),
 .call (po 9 (.call 51 [7, 8])) 51 qfv,
 ao 6 (.mv 9)]) (.seq (.seq (.reg [ao 10 (.mv 6),
 ao 11 (.bin .lss 10 (.c (.int .i64 0)))]) (.cond 11 (.seq (.reg [ao 4 (.mv (.c .nils)),
 ao 5 (.mv (.c (.int .i64 11)))]) (.seq (.view [.eta 4 (.one (.sl 8))]) (.ret))) (.skip))) (.seq (.seq (.reg [ao 12 (.mv 0),
 ao 13 (.load true 4 3),
 .call (po 14 (.call 52 [12, 13])) 52 qn1]) (.cond 14 (.seq (.reg [ao 4 (.mv (.c .nils)),
 ao 5 (.mv (.c (.int .i64 25)))]) (.seq (.view [.eta 4 (.one (.sl 8))]) (.ret))) (.skip))) (.seq (.reg [ao 15 (.mv 0),
 ao 16 (.mv 6),
 .callc (po 17 (.call 56 [15, 16])) 56 qlh,
 ao 4 (.mv 17),
 ao 5 (.mv (.c (.int .i64 0)))]) (.ret)))))
theorem qbp5 : AC.ok Try.prog (TIof Try.prog) 18 0 (kret [.t 4, .t 5] qvs) qzr := qm (zA (qd.ok qkn) (zA (qd.ok qvr) (zA (qd.ok qq8) trivial)))
theorem qbsb (v0 : List AV) (Aq : Bool) (Ar As At : Int) : den 0 (kret [.t 4, .t 5] qvs) qzr (qh [(0, (.sl 8 v0)), (1, .agg (qa Aq Ar As At))]) (qg []) (kend (kret [.t 4, .t 5] qvs)) = ql9 v0 Aq Ar As At := by
  rw [q71]; kernel_rfl
theorem qbsc : cFn (TIof Try.prog) Try.f17 = some ⟨18, [.t 4, .t 5], scOf qzr⟩ := by kernel_rfl
def qbsd (xs : List AV) : Option ((List AV) × Int) := qe ((qk xs) 1).cells (ql9 (gL [(qk xs) 0] 0))
def qvt {R : Type} : List AV → (AV → Option R) → Option R := entF qbmu qbsd qbmt
theorem q90 {R : Type} : qd Try.prog 17 (qvt (R := R)) :=
  qz tabOk follows Try.func17 (by kernel_rfl) qbsc (fun z r h => by
 obtain ⟨h1, h2⟩ := qo h
 cases h2
 exact (qds h1).symm) qbp5 (qn (by kernel_rfl)) fun xs => qbsb _ _ _ _ _
def qbse : Shp := ⟨[(0, .one (.l (.i .u64))), (1, .one (.l (.i .i64)))], []⟩
def qbfv (v0 v1 : Int) : Option AV :=
  (some (.agg [(.bool false), (.int .u64 (0 : Int)), (.int .u64 v0), (.int .i64 v1)]))
def qg4 := hull qbfv
theorem qbbz : qg4 = qbfv := qj _
def q5k : AC AV :=
  .seq (.reg [ao 4 (.alloc [(.bool false), (.int .u64 0), (.int .u64 0), (.int .i64 0)])]) (.seq (.reg [ao 5 (.mv 0),
 ao 6 (.build [(.bool false), (.int .u64 0), (.int .u64 0)] [(2, (1, 5))]),
 ao 7 (.mv 1),
 ao 8 (.build [(.bool false), (.int .u64 0), (.int .u64 0), (.int .i64 0)] [(0, (3, 6)), (3, (1, 7))]),
 an (.store 4 4 8)]) (.ret))
theorem qbvn : AC.ok Try.prog (TIof Try.prog) 9 0 (kret [(.cell 4 true 4)] (decT [.b, (.i .u64), (.i .u64), (.i .i64)])) q5k := qm trivial
theorem qbye (v0 v1 : Int) : den 0 (kret [(.cell 4 true 4)] (decT [.b, (.i .u64), (.i .u64), (.i .i64)])) q5k (qh [(0, (.int .u64 v0)), (1, (.int .i64 v1))]) (qg []) (kend (kret [(.cell 4 true 4)] (decT [.b, (.i .u64), (.i .u64), (.i .i64)]))) = qg4 v0 v1 := by
  rw [qbbz]; kernel_rfl
theorem qbyf : cFn (TIof Try.prog) Try.f50 = some ⟨9, [(.cell 4 true 4)], scOf q5k⟩ := by kernel_rfl
def qbyg (xs : List AV) : Option AV := qg4 (gI [(qk xs) 0] 0) (gI [(qk xs) 1] 0)
def qgr {R : Type} : List AV → (AV → Option R) → Option R := entF qbse qbyg (ql5 (.st [.b, (.i .u64), (.i .u64), (.i .i64)]))
theorem qma {R : Type} : qd Try.prog 50 (qgr (R := R)) :=
  qz tabOk follows Try.func50 (by kernel_rfl) qbyf hdeT qbvn (qn (by kernel_rfl)) fun xs => qbye _ _
def qbgv : Shp := ⟨[(0, .st (lk qb)), (1, .one (.ptr 0 0))], [.box true (lk qb)]⟩
def q4a {R : Type} (KK : AV → Mem → Option R) := (fun v3 Ai Aj Ak Al Am An Ao Ap => KK (.bool v3) (qg [(some (.box true [(.bool Ai), (.int .u64 Aj), (.int .u64 Ak), (.int .i64 Al), (.int .i64 Am), (.str An), (.str Ao), (.int .i64 Ap)]))]))
def qvu {R : Type}  (Aa : Bool) (Ab Ac Ad Ae : Int) (Af Ag : List UInt8) (Ah : Int) (Ai : Bool) (Aj Ak Al Am : Int) (An Ao : List UInt8) (Ap : Int) (kr : Bool → Bool → Int → Int → Int → Int → (List UInt8) → (List UInt8) → Int → Option R) : Option R :=
  (oB (qna Aa Ab Ac Ad Ai Aj Ak Al) fun r1 => (kr (decide (r1 > (0 : Int))) Ai Aj Ak Al Am An Ao Ap))
def qoo {R : Type} := hull (qvu (R := R))
theorem q4b {R : Type} : qoo (R := R) = qvu := qj _
def qi5 {R : Type} (KK : AV → Mem → Option R) : AC R :=
  .seq (.reg [ao 2 (.box 0),
 ao 3 (.mv (.c (.bool false)))]) (.seq (.reg [ao 4 (.fa 0 2),
 ao 5 (.load true 4 4),
 ao 6 (.fa 0 1),
 ao 7 (.load true 4 6),
 .call (po 8 (.call 40 [5, 7])) 40 qt0,
 ao 9 (.bin .gtr 8 (.c (.int .i64 0))),
 ao 3 (.mv 9)]) (.seq (.view [.sel [3] [0]]) (.ret)))
theorem qbiy {R : Type} (KK : AV → Mem → Option R) : AC.ok Try.prog (TIof Try.prog) 10 1 (qq [.t 3] KK) (qi5 KK) := qm (zA (qd.ok q7s) trivial)
theorem qbmv {R : Type} (KK : AV → Mem → Option R) (Aa : Bool) (Ab Ac Ad Ae : Int) (Af Ag : List UInt8) (Ah : Int) (Ai : Bool) (Aj Ak Al Am : Int) (An Ao : List UInt8) (Ap : Int) : den 1 (qq [.t 3] KK) (qi5 KK) (qh [(0, .agg (qc Aa Ab Ac Ad Ae Af Ag Ah)), (1, (.ptr 0 0))]) (qg [(some (.box true (qc Ai Aj Ak Al Am An Ao Ap)))]) (kend (qq [.t 3] KK)) = qoo Aa Ab Ac Ad Ae Af Ag Ah Ai Aj Ak Al Am An Ao Ap (q4a KK) := by
  rw [q4b]; kernel_rfl
theorem qbmw : cFn (TIof Try.prog) Try.f91 = some ⟨10, [.t 3], scOf (qi5 (R := Unit) (fun _ _ => none))⟩ := by kernel_rfl
theorem qbmx {R : Type} (KK : AV → Mem → Option R) : (qi5 KK).er = some (scOf (qi5 (R := Unit) (fun _ _ => none))) := by kernel_rfl
def q6e {R : Type} : List AV → Mem → (AV → Mem → Option R) → Option R := refE qbgv fun xs m KK => qi (bxC (m.s 0)) (qi ((qk xs) 0).cells (qoo)) (q4a KK)
theorem qbmy {R : Type} : qfn Try.prog 91 (q6e (R := R)) :=
  qlm (ac := fun KK => qi5 KK) tabOk follows Try.func91 (by kernel_rfl) qbmw (fun KK => qbiy KK) (fun KK => qbmx KK) rfl fun xs m KK => qbmv KK _ _ _ _ _ _ _ _ _ _ _ _ _ _ _ _
def qb1 {R : Type}  (K : Ex → Env → Mem → Option R) := (fun z_b0_0 z_b0_1 z_b0_2 z_b0_3 z_b0_4 z_b0_5 z_b0_6 z_b0_7 => K (.exit 0) (qh []) (qg [(some (.box true (qc z_b0_0 z_b0_1 z_b0_2 z_b0_3 z_b0_4 z_b0_5 z_b0_6 z_b0_7)))]))
def qb9 {R : Type} (KK : AV → Mem → Option R) := (fun v4 Ai Aj Ak Al Am An Ao Ap => KK (.int .i64 v4) (qg [(some (.box true [(.bool Ai), (.int .u64 Aj), (.int .u64 Ak), (.int .i64 Al), (.int .i64 Am), (.str An), (.str Ao), (.int .i64 Ap)]))]))
def qiu : Shp := ⟨[(0, .one (.l (.sl 8))), (1, .one (.fn 91 [(0, 0)])), (7, .one (.l (.i .i64))), (8, .one (.l (.i .i64)))], [.box true (lk qb)]⟩
def qc2 (v0 : List AV) (v7 v8 : Int) (Ai : Bool) (Aj Ak Al Am : Int) (An Ao : List UInt8) (Ap : Int) : Env := qh [(0, (.sl 8 v0)), (1, (.func 91 [(.ptr 0 0)])), (7, (.int .i64 v7)), (8, (.int .i64 v8))]
def qc3 (v0 : List AV) (v7 v8 : Int) (Ai : Bool) (Aj Ak Al Am : Int) (An Ao : List UInt8) (Ap : Int) : Mem := qg [(some (.box true (qc Ai Aj Ak Al Am An Ao Ap)))]
def qbe {R : Type}  (v0 : List AV) (v7 v8 : Int) (Ai : Bool) (Aj Ak Al Am : Int) (An Ao : List UInt8) (Ap : Int) (next : Int → Bool → Int → Int → Int → Int → (List UInt8) → (List UInt8) → Int → Option R) (kx0 : Bool → Int → Int → Int → Int → (List UInt8) → (List UInt8) → Int → Option R) (kr : Int → Bool → Int → Int → Int → Int → (List UInt8) → (List UInt8) → Int → Option R) : Option R :=
  (bif (decide (v8 < v7)) then (oB (ixB v0 v8) fun y1 => (bif fitC qb y1.cells then (qoo (gB y1.cells 0) (gI y1.cells 1) (gI y1.cells 2) (gI y1.cells 3) (gI y1.cells 4) (gS y1.cells 5) (gS y1.cells 6) (gI y1.cells 7) Ai Aj Ak Al Am An Ao Ap fun v3q2 b0_0q3 b0_1q4 b0_2q5 b0_3q6 b0_4q7 b0_5q8 b0_6q9 b0_7q10 => (bif v3q2 then (kr v8 b0_0q3 b0_1q4 b0_2q5 b0_3q6 b0_4q7 b0_5q8 b0_6q9 b0_7q10) else (next (IntKind.i64.wrap (v8 + (1 : Int))) b0_0q3 b0_1q4 b0_2q5 b0_3q6 b0_4q7 b0_5q8 b0_6q9 b0_7q10))) else none)) else (kx0 Ai Aj Ak Al Am An Ao Ap))
def qce {R : Type}  (v0 : List AV) (v7 : Int) (kx0 : Bool → Int → Int → Int → Int → (List UInt8) → (List UInt8) → Int → Option R) (kr : Int → Bool → Int → Int → Int → Int → (List UInt8) → (List UInt8) → Int → Option R) : Nat → Int → Bool → Int → Int → Int → Int → (List UInt8) → (List UInt8) → Int → Option R
  | 0 => (fun _ _ _ _ _ _ _ _ _ => none)
  | n + 1 => (fun v8 Ai Aj Ak Al Am An Ao Ap => qbe v0 v7 v8 Ai Aj Ak Al Am An Ao Ap (qce v0 v7 kx0 kr n) kx0 kr)
def qcg {R : Type} := hull (qce (R := R))
theorem qef {R : Type} : qcg (R := R) = qce := qj _
def qbf {R : Type} (KK : AV → Mem → Option R) : AC R :=
  .seq (.reg [ao 9 (.bin .lss 8 7)]) (.seq (.cond 9 (.skip) (.seq (.view [.sel [] [0]]) (.exit 0))) (.seq (.block 1 (.seq (.reg [ao 10 (.mv 8),
 ao 5 (.mv 10)]) (.seq (.reg [ao 11 (.mv 1),
 ao 12 (.mv 0),
 ao 13 (.mv 5),
 ao 14 (.ia 8 12 13),
 .st (.etac 14 qb),
 ao 15 (.load true 8 14),
 .st (.sel [0, 1, 5, 7, 8, 11, 15] [0]),
 .callr (po 16 (.callv 11 [15])) 91 q6e]) (.cond 16 (.seq (.reg [ao 17 (.mv 5),
 ao 4 (.mv 17)]) (.seq (.view [.sel [4] [0]]) (.ret))) (.skip))))) (.seq (.reg [ao 18 (.bin .add 8 (.c (.int .i64 1))),
 ao 8 (.mv 18)]) (.view [.sel [0, 1, 7, 8] [0]]))))
theorem qji {R : Type} (KK : AV → Mem → Option R) : AC.ok Try.prog (TIof Try.prog) 19 1 (qq [.t 4] KK) (qbf KK) := qm (zA qbmy trivial)
theorem qiv {R : Type} (KK : AV → Mem → Option R) (v0 : List AV) (v7 v8 : Int) (Ai : Bool) (Aj Ak Al Am : Int) (An Ao : List UInt8) (Ap : Int) (K : Ex → Env → Mem → Option R) : den 1 (qq [.t 4] KK) (qbf KK) (qc2 v0 v7 v8 Ai Aj Ak Al Am An Ao Ap) (qc3 v0 v7 v8 Ai Aj Ak Al Am An Ao Ap) K = qbe v0 v7 v8 Ai Aj Ak Al Am An Ao Ap (fun z_v8 z_b0_0 z_b0_1 z_b0_2 z_b0_3 z_b0_4 z_b0_5 z_b0_6 z_b0_7 => K .norm (qc2 v0 v7 z_v8 z_b0_0 z_b0_1 z_b0_2 z_b0_3 z_b0_4 z_b0_5 z_b0_6 z_b0_7) (qc3 v0 v7 z_v8 z_b0_0 z_b0_1 z_b0_2 z_b0_3 z_b0_4 z_b0_5 z_b0_6 z_b0_7)) (qb1 K) (qb9 KK) := by kernel_rfl
theorem qjy {R : Type} (KK : AV → Mem → Option R) (v0 : List AV) (v7 : Int) (K : Ex → Env → Mem → Option R) : ∀ (n : Nat) (v8 : Int) (Ai : Bool) (Aj Ak Al Am : Int) (An Ao : List UInt8) (Ap : Int), qe5 (den 1 (qq [.t 4] KK) (qbf KK)) n (qc2 v0 v7 v8 Ai Aj Ak Al Am An Ao Ap) (qc3 v0 v7 v8 Ai Aj Ak Al Am An Ao Ap) K = qcg v0 v7 (qb1 K) (qb9 KK) n v8 Ai Aj Ak Al Am An Ao Ap := by
  rw [qef]
  intro n
  induction n with
  | zero => intros; rfl
  | succ n ih =>
 intro v8 Ai Aj Ak Al Am An Ao Ap
 exact (qiv KK v0 v7 v8 Ai Aj Ak Al Am An Ao Ap (itK (den 1 (qq [.t 4] KK) (qbf KK)) n K)).trans (congrArg (fun q => qbe v0 v7 v8 Ai Aj Ak Al Am An Ao Ap q (qb1 K) (qb9 KK)) (funext fun v8 => funext fun Ai => funext fun Aj => funext fun Ak => funext fun Al => funext fun Am => funext fun An => funext fun Ao => funext fun Ap => ih v8 Ai Aj Ak Al Am An Ao Ap))
def qes {R : Type} (KK : AV → Mem → Option R) := subE (R := R) qiu fun t m K => qi (bxC (m.s 0)) (qcg (gL [t 0] 0) (gI [t 7] 0) (qb1 K) (qb9 KK) FU (gI [t 8] 0))
theorem qjz {R : Type} (KK : AV → Mem → Option R) : qca Try.prog (TIof Try.prog) 19 1 (qq [.t 4] KK) (.loop (scOf (qbf KK))) (qes KK) :=
  qen tabOk follows (qji KK) (qn (by kernel_rfl)) fun t m K => qjy KK _ _ K FU _ _ _ _ _ _ _ _ _
def qj8 : Shp := ⟨[(0, .one (.l (.sl 8))), (1, .one (.fn 91 [(0, 0)]))], [.box true (lk qb)]⟩
def qey {R : Type} (KK : AV → Mem → Option R) := (fun v4 Ai Aj Ak Al Am An Ao Ap => KK (.int .i64 v4) (qg [(some (.box true [(.bool Ai), (.int .u64 Aj), (.int .u64 Ak), (.int .i64 Al), (.int .i64 Am), (.str An), (.str Ao), (.int .i64 Ap)]))]))
def qdg {R : Type}  (v0 : List AV) (Ai : Bool) (Aj Ak Al Am : Int) (An Ao : List UInt8) (Ap : Int) (kr : Int → Bool → Int → Int → Int → Int → (List UInt8) → (List UInt8) → Int → Option R) : Option R :=
  (qcg v0 (v0.length : Int) (fun b0_0q1 b0_1q2 b0_2q3 b0_3q4 b0_4q5 b0_5q6 b0_6q7 b0_7q8 => (kr (-1 : Int) b0_0q1 b0_1q2 b0_2q3 b0_3q4 b0_4q5 b0_5q6 b0_6q7 b0_7q8)) kr FU (0 : Int) Ai Aj Ak Al Am An Ao Ap)
def qbr {R : Type} := hull (qdg (R := R))
theorem qez {R : Type} : qbr (R := R) = qdg := qj _
def qbj {R : Type} (KK : AV → Mem → Option R) : AC R :=
  .seq (.reg [ao 4 (.mv (.c (.int .i64 0)))]) (.seq (.seq (.reg [ao 6 (.mv 0),
 ao 7 (.len false 6),
 ao 8 (.mv (.c (.int .i64 0)))]) (.block 0 (.seq (.view [.sel [0, 1, 7, 8] [0]]) (.sub (.loop (scOf (qbf KK))) (qes KK))))) (.seq (.reg [ao 4 (.mv (.c (.int .i64 (-1))))]) (.seq (.view [.sel [4] [0]]) (.ret))))
theorem qko {R : Type} (KK : AV → Mem → Option R) : AC.ok Try.prog (TIof Try.prog) 19 1 (qq [.t 4] KK) (qbj KK) := qm (zA (qjz KK) trivial)
theorem qk2 {R : Type} (KK : AV → Mem → Option R) (v0 : List AV) (Ai : Bool) (Aj Ak Al Am : Int) (An Ao : List UInt8) (Ap : Int) : den 1 (qq [.t 4] KK) (qbj KK) (qh [(0, (.sl 8 v0)), (1, (.func 91 [(.ptr 0 0)]))]) (qg [(some (.box true (qc Ai Aj Ak Al Am An Ao Ap)))]) (kend (qq [.t 4] KK)) = qbr v0 Ai Aj Ak Al Am An Ao Ap (qey KK) := by
  rw [qez]; kernel_rfl
theorem qk3 : cFn (TIof Try.prog) Try.f88 = some ⟨19, [.t 4], scOf (qbj (R := Unit) (fun _ _ => none))⟩ := by kernel_rfl
theorem qk4 {R : Type} (KK : AV → Mem → Option R) : (qbj KK).er = some (scOf (qbj (R := Unit) (fun _ _ => none))) := by kernel_rfl
def qe4 {R : Type} : List AV → Mem → (AV → Mem → Option R) → Option R := refE qj8 fun xs m KK => qi (bxC (m.s 0)) (qbr (gL [(qk xs) 0] 0)) (qey KK)
theorem qk5 {R : Type} : qfn Try.prog 88 (qe4 (R := R)) :=
  qlm (ac := fun KK => qbj KK) tabOk follows Try.func88 (by kernel_rfl) qk3 (fun KK => qko KK) (fun KK => qk4 KK) rfl fun xs m KK => qk2 KK _ _ _ _ _ _ _ _ _
def qbiz {R : Type} (vs : List AV) (m : Mem) (K : AV → Mem → Option R) : Option R := qbak 8 80 vs m K
theorem qbzi {R : Type} : qfn Try.prog 92 (qbiz (R := R)) := qb4f (ρ := qbk0 92 102 103 0 3 4 22 34) tabOk (qb3c follows "slices.Insert[[]ddi/api.Block,ddi/api.Block]" (by kernel_rfl) (by kernel_rfl) Try.func102 (by kernel_rfl) (by kernel_rfl) (by kernel_rfl) (by kernel_rfl) (by kernel_rfl) (by kernel_rfl) (by kernel_rfl) (by kernel_rfl) (by kernel_rfl) (by kernel_rfl) (by kernel_rfl) (by kernel_rfl) (by kernel_rfl) (by kernel_rfl) (by kernel_rfl) (by kernel_rfl) (by kernel_rfl)) (by kernel_rfl) (by kernel_rfl) (by decide) (by decide)
def q1l  (v0 : List AV) (Ai : Bool) (Aj Ak Al Am : Int) (An Ao : List UInt8) (Ap : Int) (K : Ex → Env → Mem → Option (List AV)) := (fun z_v5 => K .norm (qh [(0, (.sl 8 v0)), (3, (.ptr 0 0)), (5, (.int .i64 z_v5))]) (qg [(some (.box true (qc Ai Aj Ak Al Am An Ao Ap)))]))
def qbd5 : Shp := ⟨[(0, .one (.l (.sl 8))), (3, .one (.ptr 0 0)), (5, .one (.l (.i .i64)))], [.box true (lk qb)]⟩
def qub  (v0 : List AV) (v5 : Int) (Ai : Bool) (Aj Ak Al Am : Int) (An Ao : List UInt8) (Ap : Int) (kn : Int → Option (List AV)) : Option (List AV) :=
  (bif (decide (v5 < (0 : Int))) then (kn (v0.length : Int)) else (kn v5))
def qq9 := hull (qub)
theorem q1m : qq9 = qub := qj _
def qop : AC (List AV) :=
  .seq (.reg [ao 9 (.mv 5),
 ao 10 (.bin .lss 9 (.c (.int .i64 0)))]) (.cond 10 (.seq (.reg [ao 11 (.mv 0),
 ao 12 (.len false 11),
 ao 5 (.mv 12)]) (.view [.sel [0, 3, 5] [0]])) (.seq (.skip) (.view [.sel [0, 3, 5] [0]])))
theorem qbgw : AC.ok Try.prog (TIof Try.prog) 19 0 (kret [.t 4] (decF true 8)) qop := qm trivial
theorem qbi0 (v0 : List AV) (v5 : Int) (Ai : Bool) (Aj Ak Al Am : Int) (An Ao : List UInt8) (Ap : Int) (K : Ex → Env → Mem → Option (List AV)) : den 0 (kret [.t 4] (decF true 8)) qop (qh [(0, (.sl 8 v0)), (3, (.ptr 0 0)), (5, (.int .i64 v5))]) (qg [(some (.box true (qc Ai Aj Ak Al Am An Ao Ap)))]) K = qq9 v0 v5 Ai Aj Ak Al Am An Ao Ap (q1l v0 Ai Aj Ak Al Am An Ao Ap K) := by
  rw [q1m]; kernel_rfl
def q4c := subE (R := (List AV)) qbd5 fun t m K => qi (bxC (m.s 0)) (qq9 (gL [t 0] 0) (gI [t 5] 0)) (q1l (gL [t 0] 0) (gB (bxC (m.s 0)) 0) (gI (bxC (m.s 0)) 1) (gI (bxC (m.s 0)) 2) (gI (bxC (m.s 0)) 3) (gI (bxC (m.s 0)) 4) (gS (bxC (m.s 0)) 5) (gS (bxC (m.s 0)) 6) (gI (bxC (m.s 0)) 7) K)
theorem qbi1 : qca Try.prog (TIof Try.prog) 19 0 (kret [.t 4] (decF true 8)) (scOf qop) (q4c) :=
  qet tabOk follows (qbgw) (qn (by kernel_rfl)) fun t m K => qbi0 _ _ _ _ _ _ _ _ _ _ K
def qbmz : Shp := ⟨[(0, .one (.l (.sl 8))), (1, .st (lk qb))], []⟩
def qzs (v0 : List AV) (Aq : Bool) (Ar As At Ay : Int) (Az A0 : List UInt8) (A1 : Int) : Option (List AV) :=
  (qbr v0 Aq Ar As At Ay Az A0 A1 fun v4q1 b0_0q2 b0_1q3 b0_2q4 b0_3q5 b0_4q6 b0_5q7 b0_6q8 b0_7q9 => (qq9 v0 v4q1 b0_0q2 b0_1q3 b0_2q4 b0_3q5 b0_4q6 b0_5q7 b0_6q8 b0_7q9 (fun v5q10 => (oB (qbx v0) fun r11 => (bif hd r11 r11.length then (bif hd ([(.agg [(.bool b0_0q2), (.int .u64 b0_1q3), (.int .u64 b0_2q4), (.int .i64 b0_3q5), (.int .i64 b0_4q6), (.str b0_5q7), (.str b0_6q8), (.int .i64 b0_7q9)])] : List AV) (([(.agg [(.bool b0_0q2), (.int .u64 b0_1q3), (.int .u64 b0_2q4), (.int .i64 b0_3q5), (.int .i64 b0_4q6), (.str b0_5q7), (.str b0_6q8), (.int .i64 b0_7q9)])] : List AV).length) then (oB (q3d 80 r11 v5q10 ([(.agg [(.bool b0_0q2), (.int .u64 b0_1q3), (.int .u64 b0_2q4), (.int .i64 b0_3q5), (.int .i64 b0_4q6), (.str b0_5q7), (.str b0_6q8), (.int .i64 b0_7q9)])] : List AV)) fun r12 => (bif hd r12 r12.length then (some r12) else none)) else none) else none)))))
def qg8 := hull qzs
theorem q72 : qg8 = qzs := qj _
def qzt : AC (List AV) :=
  .seq (.reg [ao 3 (.box 1),
 ao 4 (.mv (.c .nils))]) (.seq (.reg [ao 6 (.mv 0),
 ao 7 (.mkf 91 [3]),
 .st (.sel [0, 3, 6, 7] [0]),
 .callr (po 8 (.call 88 [6, 7])) 88 qe4,
 ao 5 (.mv 8)]) (.seq (.seq (.view [.sel [0, 3, 5] [0]]) (.sub (scOf qop) q4c)) (.seq (.draw3 [] [14, 17] [ao 13 (.mv 0),
 .call (po 14 (.call 93 [13])) 93 qfh,
 ao 15 (.mv 5),
 ao 16 (.load true 8 3),
 ao 17 (.bsl 8 [16])] [.callr (po 18 (.call 92 [14, 15, 17])) 92 qbiz,
 ao 4 (.mv 18)]) (.ret))))
theorem qbp6 : AC.ok Try.prog (TIof Try.prog) 19 0 (kret [.t 4] (decF true 8)) qzt := qm (zA qk5 (zA qbi1 (zA (qd.ok qlg) (zA qbzi (zA rfl trivial)))))
theorem qbsf (v0 : List AV) (Aq : Bool) (Ar As At Ay : Int) (Az A0 : List UInt8) (A1 : Int) : den 0 (kret [.t 4] (decF true 8)) qzt (qh [(0, (.sl 8 v0)), (1, .agg (qc Aq Ar As At Ay Az A0 A1))]) (qg []) (kend (kret [.t 4] (decF true 8))) = qg8 v0 Aq Ar As At Ay Az A0 A1 := by
  rw [q72]; kernel_rfl
theorem qbsg : cFn (TIof Try.prog) Try.f53 = some ⟨19, [.t 4], scOf qzt⟩ := by kernel_rfl
def qbsh (xs : List AV) : Option (List AV) := qi ((qk xs) 1).cells (qg8 (gL [(qk xs) 0] 0))
def qmh {R : Type} : List AV → (AV → Option R) → Option R := entF qbmz qbsh (AV.fr true 8)
theorem qtc {R : Type} : qd Try.prog 53 (qmh (R := R)) :=
  qz tabOk follows Try.func53 (by kernel_rfl) qbsg hdeF qbp6 (qn (by kernel_rfl)) fun xs => qbsf _ _ _ _ _ _ _ _ _
def qnb (z : AV) : Option ((List AV) × Int) := cond (qgm [(.one (.sl 8)), (.one (.i .i64))] z) (some (aL (gC (tpL z) 0), aI (gC (tpL z) 1))) none
def qbvo (r : (List AV) × Int) : AV := .tup [.sl 8 r.1, .int .i64 r.2]
def q6f  (v0 : List AV) (Ai : Bool) (Aj Ak Al Am : Int) (An Ao : List UInt8) (Ap : Int) (K : Ex → Env → Mem → Option ((List AV) × Int)) := (fun z_v25 => K .norm (qh [(0, (.sl 8 v0)), (3, (.ptr 0 0)), (25, (.bool z_v25))]) (qg [(some (.box true (qc Ai Aj Ak Al Am An Ao Ap)))]))
def qbi2 : Shp := ⟨[(0, .one (.l (.sl 8))), (3, .one (.ptr 0 0))], [.box true (lk qb)]⟩
def qxq  (v0 : List AV) (Ai : Bool) (Aj Ak Al Am : Int) (An Ao : List UInt8) (Ap : Int) (kn : Bool → Option ((List AV) × Int)) : Option ((List AV) × Int) :=
  (oB (qhb v0 Ai Aj Ak Al Am An Ao Ap) fun r1 => (bif r1 then (kn true) else (oB (qit v0 Ai Aj Ak Al) fun r2 => (kn r2))))
def qu2 := hull (qxq)
theorem q6g : qu2 = qxq := qj _
def qra : AC ((List AV) × Int) :=
  .seq (.reg [ao 17 (.mv 0),
 ao 18 (.load true 8 3),
 .call (po 19 (.call 44 [17, 18])) 44 qqy,
 ao 20 (.mv 19),
 ag 21 20 false (.mv 0),
 ag 22 20 false (.fa 0 3),
 ag 23 20 false (.load true 4 22),
 .call (pg 24 20 false (.call 52 [21, 23])) 52 qn1,
 ao 25 (.pick 20 (.c (.bool true)) 24)]) (.view [.sel [0, 3, 25] [0]])
theorem qbm0 : AC.ok Try.prog (TIof Try.prog) 32 0 (kret [.t 4, .t 5] qnb) qra := qm (zA (qd.ok q3y) (zA (qd.ok qvr) trivial))
theorem qbp7 (v0 : List AV) (Ai : Bool) (Aj Ak Al Am : Int) (An Ao : List UInt8) (Ap : Int) (K : Ex → Env → Mem → Option ((List AV) × Int)) : den 0 (kret [.t 4, .t 5] qnb) qra (qh [(0, (.sl 8 v0)), (3, (.ptr 0 0))]) (qg [(some (.box true (qc Ai Aj Ak Al Am An Ao Ap)))]) K = qu2 v0 Ai Aj Ak Al Am An Ao Ap (q6f v0 Ai Aj Ak Al Am An Ao Ap K) := by
  rw [q6g]; kernel_rfl
def q73 := subE (R := (List AV) × Int) qbi2 fun t m K => qi (bxC (m.s 0)) (qu2 (gL [t 0] 0)) (q6f (gL [t 0] 0) (gB (bxC (m.s 0)) 0) (gI (bxC (m.s 0)) 1) (gI (bxC (m.s 0)) 2) (gI (bxC (m.s 0)) 3) (gI (bxC (m.s 0)) 4) (gS (bxC (m.s 0)) 5) (gS (bxC (m.s 0)) 6) (gI (bxC (m.s 0)) 7) K)
theorem qbp8 : qca Try.prog (TIof Try.prog) 32 0 (kret [.t 4, .t 5] qnb) (scOf qra) (q73) :=
  qet tabOk follows (qbm0) (qn (by kernel_rfl)) fun t m K => qbp7 _ _ _ _ _ _ _ _ _ K
def qbvp : Shp := ⟨[(0, .one (.l (.sl 8))), (1, .st (lk qb))], []⟩
def q74 (v0 : List AV) (Aq : Bool) (Ar As At Ay : Int) (Az A0 : List UInt8) (A1 : Int) : Option ((List AV) × Int) :=
  (oB (qng Aq Ar As At Ay Az A0 A1) fun r1 => (bif (r1 != (0 : Int)) then (some (([] : List AV), r1)) else (oB (qfu v0 Aq Ar As At) fun r2 => (bif (decide (r2 ≥ (0 : Int))) then (some (([] : List AV), (12 : Int))) else (qu2 v0 Aq Ar As At Ay Az A0 A1 (fun v25q3 => (bif v25q3 then (some (([] : List AV), (24 : Int))) else (bif (decide ((v0.length : Int) ≥ (512 : Int))) then (some (([] : List AV), (9 : Int))) else (oB (qg8 v0 Aq Ar As At Ay Az A0 A1) fun r4 => (some (r4, (0 : Int))))))))))))
def qrb := hull q74
theorem qbfw : qrb = q74 := qj _
def q75 : AC ((List AV) × Int) :=
  .seq (.reg [ao 3 (.box 1),
 ao 4 (.mv (.c .nils)),
 ao 5 (.mv (.c (.int .i64 0)))]) (.seq (.seq (.reg [ao 7 (.load true 8 3),
 .call (po 8 (.call 43 [7])) 43 qw8,
 ao 6 (.mv 8)]) (.seq (.reg [ao 9 (.mv 6),
 ao 10 (.bin .neq 9 (.c (.int .i64 0)))]) (.cond 10 (.seq (.reg [ao 11 (.mv 6),
 ao 4 (.mv (.c .nils)),
 ao 5 (.mv 11)]) (.seq (.view [.eta 4 (.one (.sl 8))]) (.ret))) (.skip)))) (.seq (.seq (.reg [ao 12 (.mv 0),
 ao 13 (.fa 0 3),
 ao 14 (.load true 4 13),
 .call (po 15 (.call 51 [12, 14])) 51 qfv,
 ao 16 (.bin .geq 15 (.c (.int .i64 0)))]) (.cond 16 (.seq (.reg [ao 4 (.mv (.c .nils)),
 ao 5 (.mv (.c (.int .i64 12)))]) (.seq (.view [.eta 4 (.one (.sl 8))]) (.ret))) (.skip))) (.seq (.seq (.seq (.view [.sel [0, 3] [0]]) (.sub (scOf qra) q73)) (.cond 25 (.seq (.reg [ao 4 (.mv (.c .nils)),
 ao 5 (.mv (.c (.int .i64 24)))]) (.seq (.view [.eta 4 (.one (.sl 8))]) (.ret))) (.skip))) (.seq (.seq (.reg [ao 26 (.mv 0),
 ao 27 (.len false 26),
 ao 28 (.bin .geq 27 (.c (.int .i64 512)))]) (.cond 28 (.seq (.reg [ao 4 (.mv (.c .nils)),
 ao 5 (.mv (.c (.int .i64 9)))]) (.seq (.view [.eta 4 (.one (.sl 8))]) (.ret))) (.skip))) (.seq (.reg [ao 29 (.mv 0),
 ao 30 (.load true 8 3),
 .callc (po 31 (.call 53 [29, 30])) 53 qmh,
 ao 4 (.mv 31),
 ao 5 (.mv (.c (.int .i64 0)))]) (.ret))))))
theorem qbyh : AC.ok Try.prog (TIof Try.prog) 32 0 (kret [.t 4, .t 5] qnb) q75 := qm (zA (qd.ok qbbi) (zA (qd.ok qkn) (zA qbp8 (zA (qd.ok qtc) trivial))))
theorem qbzj (v0 : List AV) (Aq : Bool) (Ar As At Ay : Int) (Az A0 : List UInt8) (A1 : Int) : den 0 (kret [.t 4, .t 5] qnb) q75 (qh [(0, (.sl 8 v0)), (1, .agg (qc Aq Ar As At Ay Az A0 A1))]) (qg []) (kend (kret [.t 4, .t 5] qnb)) = qrb v0 Aq Ar As At Ay Az A0 A1 := by
  rw [qbfw]; kernel_rfl
theorem qbzk : cFn (TIof Try.prog) Try.f15 = some ⟨32, [.t 4, .t 5], scOf q75⟩ := by kernel_rfl
def qbzl (xs : List AV) : Option ((List AV) × Int) := qi ((qk xs) 1).cells (qrb (gL [(qk xs) 0] 0))
def q2q {R : Type} : List AV → (AV → Option R) → Option R := entF qbvp qbzl qbvo
theorem qbi3 {R : Type} : qd Try.prog 15 (q2q (R := R)) :=
  qz tabOk follows Try.func15 (by kernel_rfl) qbzk (fun z r h => by
 obtain ⟨h1, h2⟩ := qo h
 cases h2
 exact (qds h1).symm) qbyh (qn (by kernel_rfl)) fun xs => qbzj _ _ _ _ _ _ _ _ _
end
end Go.Proofs.Ytmjdngnagiloeaa.Dn
