import Derived.Test.YtmjdngnagiloeaaProg
import Derived.Test.YtmjdngnagiloeaaBcLibD
set_option linter.all false
namespace Go.Proofs.Ytmjdngnagiloeaa.Dn
open Go Go.Pev
set_option linter.unusedVariables false
set_option linter.unusedSimpArgs false
set_option maxRecDepth 100000
set_option maxHeartbeats 4000000
theorem zT : True := True.intro
theorem zA {a b : Prop} (x : a) (y : b) : a ∧ b := ⟨x, y⟩
theorem tabOk : Tab.ok (TIof Try.prog) Try.prog := fun _ _ h => h
theorem follows : Try.prog.follows .mixedOrders = true := by kernel_rfl
def qa : List LT := [.b, (.i .u64), (.i .u64), (.i .i64), (.i .i64), .s, .s, (.i .i64)]
def qc (x0 : Bool) (x1 x2 x3 x4 : Int) (x5 x6 : List UInt8) (x7 : Int) : List AV := [.bool x0, .int .u64 x1, .int .u64 x2, .int .i64 x3, .int .i64 x4, .str x5, .str x6, .int .i64 x7]
def qf {β : Type} (cs : List AV) (f : Bool → Int → Int → Int → Int → List UInt8 → List UInt8 → Int → β) : β := f (gB cs 0) (gI cs 1) (gI cs 2) (gI cs 3) (gI cs 4) (gS cs 5) (gS cs 6) (gI cs 7)
def q19 : Shp := ⟨[(0, .st (lk qa))], []⟩
noncomputable section
def qpz (Aa : Bool) (Ab Ac Ad Ae : Int) (Af Ag : List UInt8) (Ah : Int) : Option AV :=
  (oB (cutI Af none (some (if (100 : Int) < (Af.length : Int) then (100 : Int) else (Af.length : Int)))) fun s1 => (oB (cutI Ag none (some (if (100 : Int) < (Ag.length : Int) then (100 : Int) else (Ag.length : Int)))) fun s2 => (some (.agg [(.bool Aa), (.int .u64 Ab), (.int .u64 Ac), (.int .i64 Ad), (.int .i64 Ae), (.str s1), (.str s2), (.int .i64 Ah)]))))
def qla := hull qpz
theorem qvc : qla = qpz := hull_eq _
def qp0 : AC AV :=
  .seq (.reg [ao 1 (.box 0),
 ao 2 (.alloc [(.bool false), (.int .u64 0), (.int .u64 0), (.int .i64 0), (.int .i64 0), (.str []), (.str []), (.int .i64 0)])]) (.seq (.reg [ao 3 (.fa 5 1),
 ao 4 (.load false 1 3),
 ao 5 (.fa 5 1),
 ao 6 (.load false 1 5),
 ao 7 (.len true 6),
 ao 8 (.mm false 7 [(.c (.int .i64 100))]),
 ao 9 (.slcs 4 none (some 8)),
 ao 10 (.fa 5 1),
 an (.store 1 10 9)]) (.seq (.reg [ao 11 (.fa 6 1),
 ao 12 (.load false 1 11),
 ao 13 (.fa 6 1),
 ao 14 (.load false 1 13),
 ao 15 (.len true 14),
 ao 16 (.mm false 15 [(.c (.int .i64 100))]),
 ao 17 (.slcs 12 none (some 16)),
 ao 18 (.fa 6 1),
 an (.store 1 18 17)]) (.seq (.reg [ao 19 (.load true 8 1),
 an (.store 8 2 19)]) (.ret))))
theorem q30 : AC.ok Try.prog (TIof Try.prog) 20 0 (kret [(.cell 2 true 8)] (decT [.b, (.i .u64), (.i .u64), (.i .i64), (.i .i64), .s, .s, (.i .i64)])) qp0 := ok_of trivial
theorem q53 (Aa : Bool) (Ab Ac Ad Ae : Int) (Af Ag : List UInt8) (Ah : Int) : den 0 (kret [(.cell 2 true 8)] (decT [.b, (.i .u64), (.i .u64), (.i .i64), (.i .i64), .s, .s, (.i .i64)])) qp0 (envOf [(0, .agg (qc Aa Ab Ac Ad Ae Af Ag Ah))]) (memOf []) (kend (kret [(.cell 2 true 8)] (decT [.b, (.i .u64), (.i .u64), (.i .i64), (.i .i64), .s, .s, (.i .i64)]))) = qla Aa Ab Ac Ad Ae Af Ag Ah := by
  rw [qvc]; kernel_rfl
theorem q54 : cFn (TIof Try.prog) Try.f42 = some ⟨20, [(.cell 2 true 8)], scOf qp0⟩ := by kernel_rfl
def q55 (xs : List AV) : Option AV := qf ((entry xs) 0).cells (qla)
def qtt {R : Type} : List AV → (AV → Option R) → Option R := entF q19 q55 (etaRV (.st [.b, (.i .u64), (.i .u64), (.i .i64), (.i .i64), .s, .s, (.i .i64)]))
theorem q56 {R : Type} : EntOkB Try.prog 42 (qtt (R := R)) :=
  ent_mk tabOk follows Try.func42 (by kernel_rfl) q54 hdeT q30 (er_of (by kernel_rfl)) fun xs => q53 _ _ _ _ _ _ _ _
def qjw  (K : Ex → Env → Mem → Option (List AV)) := (fun z_a0 => K (.exit 0) (envOf [(3, (.own 0 z_a0.length))]) (memOf [(some (.arr true 8 z_a0))]))
def q06 : Shp := ⟨[(0, .one (.l (.sl 8))), (3, .one (.own 0)), (4, .one (.l (.i .i64)))], [.arr true 8]⟩
def qnp (v0 : List AV) (v4 : Int) (a0 : List AV) : Env := envOf [(0, (.sl 8 v0)), (3, (.own 0 a0.length)), (4, (.int .i64 v4))]
def qnq (v0 : List AV) (v4 : Int) (a0 : List AV) : Mem := memOf [(some (.arr true 8 a0))]
def qgf  (v0 : List AV) (v4 : Int) (a0 : List AV) (next : Int → (List AV) → Option (List AV)) (kx0 : (List AV) → Option (List AV)) : Option (List AV) :=
  (bif ((decide (v4 < (v0.length : Int))) && (decide (v4 < (30 : Int)))) then (oB (ixB v0 v4) fun y1 => (bif fitC qa y1.cells then (oB (qla (gB y1.cells 0) (gI y1.cells 1) (gI y1.cells 2) (gI y1.cells 3) (gI y1.cells 4) (gS y1.cells 5) (gS y1.cells 6) (gI y1.cells 7)) fun r2 => (bif hd a0 a0.length then (bif hd ([(.agg [(.bool (gB r2.cells 0)), (.int .u64 (gI r2.cells 1)), (.int .u64 (gI r2.cells 2)), (.int .i64 (gI r2.cells 3)), (.int .i64 (gI r2.cells 4)), (.str (gS r2.cells 5)), (.str (gS r2.cells 6)), (.int .i64 (gI r2.cells 7))])] : List AV) (([(.agg [(.bool (gB r2.cells 0)), (.int .u64 (gI r2.cells 1)), (.int .u64 (gI r2.cells 2)), (.int .i64 (gI r2.cells 3)), (.int .i64 (gI r2.cells 4)), (.str (gS r2.cells 5)), (.str (gS r2.cells 6)), (.int .i64 (gI r2.cells 7))])] : List AV).length) then (bif decide ((a0.length + ([(.agg [(.bool (gB r2.cells 0)), (.int .u64 (gI r2.cells 1)), (.int .u64 (gI r2.cells 2)), (.int .i64 (gI r2.cells 3)), (.int .i64 (gI r2.cells 4)), (.str (gS r2.cells 5)), (.str (gS r2.cells 6)), (.int .i64 (gI r2.cells 7))])] : List AV).length) * 80 ≤ 140737488355328) then (next (IntKind.i64.wrap (v4 + (1 : Int))) (a0 ++ ([(.agg [(.bool (gB r2.cells 0)), (.int .u64 (gI r2.cells 1)), (.int .u64 (gI r2.cells 2)), (.int .i64 (gI r2.cells 3)), (.int .i64 (gI r2.cells 4)), (.str (gS r2.cells 5)), (.str (gS r2.cells 6)), (.int .i64 (gI r2.cells 7))])] : List AV))) else none) else none) else none)) else none)) else (kx0 a0))
def qky  (v0 : List AV) (kx0 : (List AV) → Option (List AV)) : Nat → Int → (List AV) → Option (List AV)
  | 0 => (fun _ _ => none)
  | n + 1 => (fun v4 a0 => qgf v0 v4 a0 (qky v0 kx0 n) kx0)
def qm3 := hull (qky)
theorem qtu : qm3 = qky := hull_eq _
def qgg : AC (List AV) :=
  .seq (.seq (.reg [ao 5 (.mv 4),
 ao 6 (.mv 0),
 ao 7 (.len false 6),
 ao 8 (.bin .lss 5 7),
 ao 9 (.mv 8),
 .grp 9 true [(pg 10 9 true (.mv 4)), (pg 11 9 true (.bin .lss 10 (.c (.int .i64 30))))] 12 11]) (.cond 12 (.skip) (.seq (.view [.sel [3] [0]]) (.exit 0)))) (.seq (.block 1 (.reg [ao 15 (.mv 3),
 ao 16 (.mv 0),
 ao 17 (.mv 4),
 ao 18 (.ia 8 16 17),
 .st (.etac 18 qa),
 ao 19 (.load true 8 18),
 .call (po 20 (.call 42 [19])) 42 qtt,
 ao 21 (.bsl 8 [20]),
 ao 22 (.app 8 80 15 21),
 ao 3 (.mv 22)])) (.seq (.reg [ao 13 (.mv 4),
 ao 14 (.bin .add 13 (.c (.int .i64 1))),
 ao 4 (.mv 14)]) (.view [.sel [0, 3, 4] [0]])))
theorem q2a : AC.ok Try.prog (TIof Try.prog) 24 0 (kret [.t 2] (decF true 8)) qgg := ok_of (zA (EntOkB.ok q56) trivial)
theorem q07 (v0 : List AV) (v4 : Int) (a0 : List AV) (K : Ex → Env → Mem → Option (List AV)) : den 0 (kret [.t 2] (decF true 8)) qgg (qnp v0 v4 a0) (qnq v0 v4 a0) K = qgf v0 v4 a0 (fun z_v4 z_a0 => K .norm (qnp v0 z_v4 z_a0) (qnq v0 z_v4 z_a0)) (qjw K) := by kernel_rfl
theorem q31 (v0 : List AV) (K : Ex → Env → Mem → Option (List AV)) : ∀ (n : Nat) (v4 : Int) (a0 : List AV), iterD (den 0 (kret [.t 2] (decF true 8)) qgg) n (qnp v0 v4 a0) (qnq v0 v4 a0) K = qm3 v0 (qjw K) n v4 a0 := by
  rw [qtu]
  intro n
  induction n with
  | zero => intros; rfl
  | succ n ih =>
 intro v4 a0
 exact (q07 v0 v4 a0 (itK (den 0 (kret [.t 2] (decF true 8)) qgg) n K)).trans (congrArg (fun q => qgf v0 v4 a0 q (qjw K)) (funext fun v4 => funext fun a0 => ih v4 a0))
def qvd := subE (R := (List AV)) q06 fun t m K => qm3 (gL [t 0] 0) (qjw K) FU (gI [t 4] 0) (arL (m.s 0))
theorem q32 : SubOk Try.prog (TIof Try.prog) 24 0 (kret [.t 2] (decF true 8)) (.loop (scOf qgg)) (qvd) :=
  loop_mk tabOk follows (q2a) (er_of (by kernel_rfl)) fun t m K => q31 _ K FU _ _
def q57 : Shp := ⟨[(0, .one (.l (.sl 8)))], []⟩
def qs5 (v0 : List AV) : Option (List AV) :=
  (bif (hd ([] : List AV) (([] : List AV).length) && true) then (qm3 v0 (fun a0q1 => (bif hd a0q1 a0q1.length then (some a0q1) else none)) FU (0 : Int) ([] : List AV)) else none)
def qnr := hull qs5
theorem qxs : qnr = qs5 := hull_eq _
def qs6 : AC (List AV) :=
  .seq (.reg [ao 2 (.mv (.c .nils))]) (.seq (.reg [ao 3 (.mv (.c .nils))]) (.seq (.seq (.reg [ao 4 (.mv (.c (.int .i64 0)))]) (.block 0 (.seq (.view [.own 3 8, .sel [0, 3, 4] [0]]) (.sub (.loop (scOf qgg)) qvd)))) (.seq (.reg [ao 23 (.mv 3),
 ao 2 (.mv 23)]) (.ret))))
theorem q72 : AC.ok Try.prog (TIof Try.prog) 24 0 (kret [.t 2] (decF true 8)) qs6 := ok_of (zA q32 trivial)
theorem q9t (v0 : List AV) : den 0 (kret [.t 2] (decF true 8)) qs6 (envOf [(0, (.sl 8 v0))]) (memOf []) (kend (kret [.t 2] (decF true 8))) = qnr v0 := by
  rw [qxs]; kernel_rfl
theorem q9u : cFn (TIof Try.prog) Try.f10 = some ⟨24, [.t 2], scOf qs6⟩ := by kernel_rfl
def q9v (xs : List AV) : Option (List AV) := qnr (gL [(entry xs) 0] 0)
def qwg {R : Type} : List AV → (AV → Option R) → Option R := entF q57 q9v (AV.fr true 8)
theorem q9w {R : Type} : EntOkB Try.prog 10 (qwg (R := R)) :=
  ent_mk tabOk follows Try.func10 (by kernel_rfl) q9u hdeF q72 (er_of (by kernel_rfl)) fun xs => q9t _
def qcs : List LT := [.b, (.i .u64), (.i .u64)]
def qba (x0 : Bool) (x1 x2 : Int) : List AV := [.bool x0, .int .u64 x1, .int .u64 x2]
def qb0 {β : Type} (cs : List AV) (f : Bool → Int → Int → β) : β := f (gB cs 0) (gI cs 1) (gI cs 2)
def q9x : Shp := ⟨[(0, .st (lk qcs))], []⟩
def qwh (Aa : Bool) (Ab Ac : Int) : Option Bool :=
  (bif Aa then (some true) else (bif (Ab == (0 : Int)) then (some (decide (Ac ≤ (4294967295 : Int)))) else (some false)))
def qog := hull qwh
theorem q0z : qog = qwh := hull_eq _
def qwi : AC Bool :=
  .seq (.reg [ao 1 (.box 0),
 ao 2 (.mv (.c (.bool false)))]) (.seq (.reg [ao 3 (.fa 0 1),
 ao 4 (.load false 1 3),
 ao 5 (.mv 4),
 ag 6 5 false (.fa 1 1),
 ag 7 5 false (.load false 1 6),
 ag 8 5 false (.bin .eql 7 (.c (.int .u64 0))),
 ag 9 5 false (.mv 8),
 ag 10 9 true (.fa 2 1),
 ag 11 9 true (.load false 1 10),
 ag 12 9 true (.bin .leq 11 (.c (.int .u64 4294967295))),
 ag 13 5 false (.pick 9 12 (.c (.bool false))),
 ao 14 (.pick 5 (.c (.bool true)) 13),
 ao 2 (.mv 14)]) (.ret))
theorem qba8 : AC.ok Try.prog (TIof Try.prog) 15 0 (kret [.t 2] decB) qwi := ok_of trivial
theorem qbce (Aa : Bool) (Ab Ac : Int) : den 0 (kret [.t 2] decB) qwi (envOf [(0, .agg (qba Aa Ab Ac))]) (memOf []) (kend (kret [.t 2] decB)) = qog Aa Ab Ac := by
  rw [q0z]; kernel_rfl
theorem qbcf : cFn (TIof Try.prog) Try.f73 = some ⟨15, [.t 2], scOf qwi⟩ := by kernel_rfl
def qbcg (xs : List AV) : Option Bool := qb0 ((entry xs) 0).cells (qog)
def qs7 {R : Type} : List AV → (AV → Option R) → Option R := entF q9x qbcg AV.bool
theorem q2b {R : Type} : EntOkB Try.prog 73 (qs7 (R := R)) :=
  ent_mk tabOk follows Try.func73 (by kernel_rfl) qbcf hdeB qba8 (er_of (by kernel_rfl)) fun xs => qbce _ _ _
def q33 : Shp := ⟨[(0, .st (lk qcs))], []⟩
def qrb (Aa : Bool) (Ab Ac : Int) : Option Int :=
  (bif Aa then (some (128 : Int)) else (some (32 : Int)))
def qgw := hull qrb
theorem qwj : qgw = qrb := hull_eq _
def qrc : AC Int :=
  .seq (.reg [ao 1 (.box 0),
 ao 2 (.mv (.c (.int .i64 0)))]) (.seq (.seq (.reg [ao 3 (.fa 0 1),
 ao 4 (.load false 1 3)]) (.cond 4 (.seq (.reg [ao 2 (.mv (.c (.int .i64 128)))]) (.ret)) (.skip))) (.seq (.reg [ao 2 (.mv (.c (.int .i64 32)))]) (.ret)))
theorem q58 : AC.ok Try.prog (TIof Try.prog) 5 0 (kret [.t 2] (decI .i64)) qrc := ok_of trivial
theorem q73 (Aa : Bool) (Ab Ac : Int) : den 0 (kret [.t 2] (decI .i64)) qrc (envOf [(0, .agg (qba Aa Ab Ac))]) (memOf []) (kend (kret [.t 2] (decI .i64))) = qgw Aa Ab Ac := by
  rw [qwj]; kernel_rfl
theorem q74 : cFn (TIof Try.prog) Try.f76 = some ⟨5, [.t 2], scOf qrc⟩ := by kernel_rfl
def q75 (xs : List AV) : Option Int := qb0 ((entry xs) 0).cells (qgw)
def qix {R : Type} : List AV → (AV → Option R) → Option R := entF q33 q75 (AV.int .i64)
theorem qm4 {R : Type} : EntOkB Try.prog 76 (qix (R := R)) :=
  ent_mk tabOk follows Try.func76 (by kernel_rfl) q74 hdeI q58 (er_of (by kernel_rfl)) fun xs => q73 _ _ _
def qp1 (z : AV) : Option (Int × Int) := cond (fitTup [(.one (.i .u64)), (.one (.i .u64))] z) (some (aI (gC (tpL z) 0), aI (gC (tpL z) 1))) none
def q59 (r : Int × Int) : AV := .tup [.int .u64 r.1, .int .u64 r.2]
def q6a : Shp := ⟨[(0, .one (.l .b)), (1, .one (.l (.i .i64)))], []⟩
def qoh (v0 : Bool) (v1 : Int) : Option (Int × Int) :=
  (bif (!v0) then (bif decide ((IntKind.u64.wrap (IntKind.i64.wrap ((32 : Int) - v1))) < 0) then none else (some ((0 : Int), (IntKind.u64.wrap ((IntKind.u64.wrap ((1 : Int) * 2 ^ min (IntKind.u64.wrap (IntKind.i64.wrap ((32 : Int) - v1))).toNat IntKind.u64.bits)) - (1 : Int)))))) else (bif (decide (v1 ≥ (64 : Int))) then (bif decide ((IntKind.u64.wrap (IntKind.i64.wrap ((128 : Int) - v1))) < 0) then none else (some ((0 : Int), (IntKind.u64.wrap ((IntKind.u64.wrap ((1 : Int) * 2 ^ min (IntKind.u64.wrap (IntKind.i64.wrap ((128 : Int) - v1))).toNat IntKind.u64.bits)) - (1 : Int)))))) else (bif decide ((IntKind.u64.wrap (IntKind.i64.wrap ((64 : Int) - v1))) < 0) then none else (some ((IntKind.u64.wrap ((IntKind.u64.wrap ((1 : Int) * 2 ^ min (IntKind.u64.wrap (IntKind.i64.wrap ((64 : Int) - v1))).toNat IntKind.u64.bits)) - (1 : Int))), (18446744073709551615 : Int))))))
def qlb := hull qoh
theorem qxt : qlb = qoh := hull_eq _
def qs8 : AC (Int × Int) :=
  .seq (.reg [ao 4 (.mv (.c (.int .u64 0))),
 ao 5 (.mv (.c (.int .u64 0)))]) (.seq (.seq (.reg [ao 6 (.mv 0),
 ao 7 (.un .not 6)]) (.cond 7 (.seq (.reg [ao 8 (.mv 1),
 ao 9 (.bin .sub (.c (.int .i64 32)) 8),
 ao 10 (.conv (.int .u64) 9),
 ao 11 (.bin .shl (.c (.int .u64 1)) 10),
 ao 12 (.bin .sub 11 (.c (.int .u64 1))),
 ao 4 (.mv (.c (.int .u64 0))),
 ao 5 (.mv 12)]) (.ret)) (.skip))) (.seq (.seq (.reg [ao 13 (.mv 1),
 ao 14 (.bin .geq 13 (.c (.int .i64 64)))]) (.cond 14 (.seq (.reg [ao 15 (.mv 1),
 ao 16 (.bin .sub (.c (.int .i64 128)) 15),
 ao 17 (.conv (.int .u64) 16),
 ao 18 (.bin .shl (.c (.int .u64 1)) 17),
 ao 19 (.bin .sub 18 (.c (.int .u64 1))),
 ao 4 (.mv (.c (.int .u64 0))),
 ao 5 (.mv 19)]) (.ret)) (.skip))) (.seq (.reg [ao 20 (.mv 1),
 ao 21 (.bin .sub (.c (.int .i64 64)) 20),
 ao 22 (.conv (.int .u64) 21),
 ao 23 (.bin .shl (.c (.int .u64 1)) 22),
 ao 24 (.bin .sub 23 (.c (.int .u64 1))),
 ao 4 (.mv 24),
 ao 5 (.mv (.c (.int .u64 18446744073709551615)))]) (.ret))))
theorem q76 : AC.ok Try.prog (TIof Try.prog) 25 0 (kret [.t 4, .t 5] qp1) qs8 := ok_of trivial
theorem q9y (v0 : Bool) (v1 : Int) : den 0 (kret [.t 4, .t 5] qp1) qs8 (envOf [(0, (.bool v0)), (1, (.int .i64 v1))]) (memOf []) (kend (kret [.t 4, .t 5] qp1)) = qlb v0 v1 := by
  rw [qxt]; kernel_rfl
theorem q9z : cFn (TIof Try.prog) Try.f72 = some ⟨25, [.t 4, .t 5], scOf qs8⟩ := by kernel_rfl
def q90 (xs : List AV) : Option (Int × Int) := qlb (gB [(entry xs) 0] 0) (gI [(entry xs) 1] 0)
def qp2 {R : Type} : List AV → (AV → Option R) → Option R := entF q6a q90 q59
theorem qyt {R : Type} : EntOkB Try.prog 72 (qp2 (R := R)) :=
  ent_mk tabOk follows Try.func72 (by kernel_rfl) q9z (fun z r h => by
 obtain ⟨h1, h2⟩ := cond_some h
 cases h2
 exact (fitTup_eq h1).symm) q76 (er_of (by kernel_rfl)) fun xs => q9y _ _
def qe : List LT := [.b, (.i .u64), (.i .u64), (.i .i64)]
def qb (x0 : Bool) (x1 x2 x3 : Int) : List AV := [.bool x0, .int .u64 x1, .int .u64 x2, .int .i64 x3]
def qd {β : Type} (cs : List AV) (f : Bool → Int → Int → Int → β) : β := f (gB cs 0) (gI cs 1) (gI cs 2) (gI cs 3)
def qtv  (Ai : Bool) (Aj Ak Al : Int) (K : Ex → Env → Mem → Option Bool) := (fun z_v21 => K .norm (envOf [(1, (.ptr 0 0)), (21, (.bool z_v21))]) (memOf [(some (.box true (qb Ai Aj Ak Al)))]))
def q08 : Shp := ⟨[(1, .one (.ptr 0 0))], [.box true (lk qe)]⟩
def qos  (Ai : Bool) (Aj Ak Al : Int) (kn : Bool → Option Bool) : Option Bool :=
  (oB (qog Ai Aj Ak) fun r1 => (bif (!r1) then (kn true) else (bif (decide (Al < (0 : Int))) then (kn true) else (oB (qgw Ai Aj Ak) fun r2 => (kn (decide (Al > r2)))))))
def qm5 := hull (qos)
theorem qtw : qm5 = qos := hull_eq _
def qkz : AC Bool :=
  .seq (.draw [] [ao 5 (.fa 0 1),
 ao 6 (.load true 3 5),
 .call (po 7 (.call 73 [6])) 73 qs7,
 ao 8 (.un .not 7),
 ao 9 (.mv 8),
 ag 10 9 false (.fa 3 1),
 ag 11 9 false (.load false 1 10),
 ag 12 9 false (.bin .lss 11 (.c (.int .i64 0))),
 ao 13 (.pick 9 (.c (.bool true)) 12),
 ao 14 (.mv 13),
 ag 15 14 false (.fa 3 1),
 ag 16 14 false (.load false 1 15),
 ag 17 14 false (.fa 0 1),
 ag 18 14 false (.load true 3 17),
 .call (pg 19 14 false (.call 76 [18])) 76 qix] [ag 20 14 false (.bin .gtr 16 19),
 ao 21 (.pick 14 (.c (.bool true)) 20)]) (.view [.sel [1, 21] [0]])
theorem q2c : AC.ok Try.prog (TIof Try.prog) 45 0 (kret [.t 2] decB) qkz := ok_of (zA (EntOkB.ok q2b) (zA (EntOkB.ok qm4) (zA rfl trivial)))
theorem q34 (Ai : Bool) (Aj Ak Al : Int) (K : Ex → Env → Mem → Option Bool) : den 0 (kret [.t 2] decB) qkz (envOf [(1, (.ptr 0 0))]) (memOf [(some (.box true (qb Ai Aj Ak Al)))]) K = qm5 Ai Aj Ak Al (qtv Ai Aj Ak Al K) := by
  rw [qtw]; kernel_rfl
def qve := subE (R := Bool) q08 fun t m K => qd (bxC (m.s 0)) (qm5) (qtv (gB (bxC (m.s 0)) 0) (gI (bxC (m.s 0)) 1) (gI (bxC (m.s 0)) 2) (gI (bxC (m.s 0)) 3) K)
theorem q35 : SubOk Try.prog (TIof Try.prog) 45 0 (kret [.t 2] decB) (scOf qkz) (qve) :=
  sub_mk tabOk follows (q2c) (er_of (by kernel_rfl)) fun t m K => q34 _ _ _ _ K
def q6b : Shp := ⟨[(0, .st (lk qe))], []⟩
def qs9 (Aa : Bool) (Ab Ac Ad : Int) : Option Bool :=
  (qm5 Aa Ab Ac Ad (fun v21q1 => (bif v21q1 then (some false) else (oB (qlb Aa Ad) fun r2 => (some (((ibits .and .u64 Ab r2.1) == (0 : Int)) && ((ibits .and .u64 Ac r2.2) == (0 : Int))))))))
def qey := hull qs9
theorem qxu : qey = qs9 := hull_eq _
def qta : AC Bool :=
  .seq (.reg [ao 1 (.box 0),
 ao 2 (.mv (.c (.bool false)))]) (.seq (.seq (.seq (.view [.sel [1] [0]]) (.sub (scOf qkz) qve)) (.cond 21 (.seq (.reg [ao 2 (.mv (.c (.bool false)))]) (.ret)) (.skip))) (.seq (.reg [ao 23 (.fa 0 1),
 ao 24 (.fa 0 23),
 ao 25 (.load false 1 24),
 ao 26 (.fa 3 1),
 ao 27 (.load false 1 26),
 .call (po 28 (.call 72 [25, 27])) 72 qp2,
 ao 22 (.mv 28),
 ao 29 (.ext 22 0),
 ao 30 (.ext 22 1),
 ao 3 (.mv 29),
 ao 4 (.mv 30)]) (.seq (.reg [ao 31 (.fa 0 1),
 ao 32 (.fa 1 31),
 ao 33 (.load false 1 32),
 ao 34 (.mv 3),
 ao 35 (.bin .and 33 34),
 ao 36 (.bin .eql 35 (.c (.int .u64 0))),
 ao 37 (.mv 36),
 .grp 37 true [(pg 38 37 true (.fa 0 1)), (pg 39 37 true (.fa 2 38)), (pg 40 37 true (.load false 1 39)), (pg 41 37 true (.mv 4)), (pg 42 37 true (.bin .and 40 41)), (pg 43 37 true (.bin .eql 42 (.c (.int .u64 0))))] 44 43,
 ao 2 (.mv 44)]) (.ret))))
theorem q77 : AC.ok Try.prog (TIof Try.prog) 45 0 (kret [.t 2] decB) qta := ok_of (zA q35 (zA (EntOkB.ok qyt) trivial))
theorem q91 (Aa : Bool) (Ab Ac Ad : Int) : den 0 (kret [.t 2] decB) qta (envOf [(0, .agg (qb Aa Ab Ac Ad))]) (memOf []) (kend (kret [.t 2] decB)) = qey Aa Ab Ac Ad := by
  rw [qxu]; kernel_rfl
theorem q92 : cFn (TIof Try.prog) Try.f71 = some ⟨45, [.t 2], scOf qta⟩ := by kernel_rfl
def q93 (xs : List AV) : Option Bool := qd ((entry xs) 0).cells (qey)
def qe4 {R : Type} : List AV → (AV → Option R) → Option R := entF q6b q93 AV.bool
theorem qjj {R : Type} : EntOkB Try.prog 71 (qe4 (R := R)) :=
  ent_mk tabOk follows Try.func71 (by kernel_rfl) q92 hdeB q77 (er_of (by kernel_rfl)) fun xs => q91 _ _ _ _
def q6c : Shp := ⟨[(0, .st (lk qe))], []⟩
def qtb (Aa : Bool) (Ab Ac Ad : Int) : Option Int :=
  (bif Aa then (some (128 : Int)) else (some (32 : Int)))
def qns := hull qtb
theorem qxv : qns = qtb := hull_eq _
def qtc : AC Int :=
  .seq (.reg [ao 1 (.box 0),
 ao 2 (.mv (.c (.int .i64 0)))]) (.seq (.seq (.reg [ao 3 (.fa 0 1),
 ao 4 (.fa 0 3),
 ao 5 (.load false 1 4)]) (.cond 5 (.seq (.reg [ao 2 (.mv (.c (.int .i64 128)))]) (.ret)) (.skip))) (.seq (.reg [ao 2 (.mv (.c (.int .i64 32)))]) (.ret)))
theorem q78 : AC.ok Try.prog (TIof Try.prog) 6 0 (kret [.t 2] (decI .i64)) qtc := ok_of trivial
theorem q94 (Aa : Bool) (Ab Ac Ad : Int) : den 0 (kret [.t 2] (decI .i64)) qtc (envOf [(0, .agg (qb Aa Ab Ac Ad))]) (memOf []) (kend (kret [.t 2] (decI .i64))) = qns Aa Ab Ac Ad := by
  rw [qxv]; kernel_rfl
theorem q95 : cFn (TIof Try.prog) Try.f77 = some ⟨6, [.t 2], scOf qtc⟩ := by kernel_rfl
def q96 (xs : List AV) : Option Int := qd ((entry xs) 0).cells (qns)
def qwk {R : Type} : List AV → (AV → Option R) → Option R := entF q6c q96 (AV.int .i64)
theorem q97 {R : Type} : EntOkB Try.prog 77 (qwk (R := R)) :=
  ent_mk tabOk follows Try.func77 (by kernel_rfl) q95 hdeI q78 (er_of (by kernel_rfl)) fun xs => q94 _ _ _ _
def qhz  (K : Ex → Env → Mem → Option Bool) := (fun (_ : Unit) => K (.exit 0) (envOf []) (memOf []))
def qx9 : Shp := ⟨[(0, .one (.l .s)), (19, .one (.l (.i .i64))), (20, .one (.l (.i .i64)))], []⟩
def qlc (v0 : List UInt8) (v19 v20 : Int) : Env := envOf [(0, (.str v0)), (19, (.int .i64 v19)), (20, (.int .i64 v20))]
def qld (v0 : List UInt8) (v19 v20 : Int) : Mem := memOf []
def qej  (v0 : List UInt8) (v19 v20 : Int) (next : Int → Option Bool) (kx0 : Unit → Option Bool) : Option Bool :=
  (bif (decide (v20 < v19)) then (oB (ixB v0 v20) fun c1 => (bif (decide ((c1.toNat : Int) < (33 : Int))) then (some false) else (oB (ixB v0 v20) fun c2 => (bif (decide ((c2.toNat : Int) > (126 : Int))) then (some false) else (next (IntKind.i64.wrap (v20 + (1 : Int)))))))) else (kx0 ()))
def qi7  (v0 : List UInt8) (v19 : Int) (kx0 : Unit → Option Bool) : Nat → Int → Option Bool
  | 0 => (fun _ => none)
  | n + 1 => (fun v20 => qej v0 v19 v20 (qi7 v0 v19 kx0 n) kx0)
def qia := hull (qi7)
theorem qqu : qia = qi7 := hull_eq _
def qek : AC Bool :=
  .seq (.reg [ao 21 (.bin .lss 20 19)]) (.seq (.cond 21 (.skip) (.seq (.view [.sel [] []]) (.exit 0))) (.seq (.block 1 (.seq (.reg [ao 22 (.mv 20),
 ao 7 (.mv 22)]) (.seq (.reg [ao 23 (.mv 0),
 ao 24 (.mv 7),
 ao 25 (.ixs 23 24),
 ao 26 (.bin .lss 25 (.c (.int .u8 33))),
 ao 27 (.mv 26),
 ag 28 27 false (.mv 0),
 ag 29 27 false (.mv 7),
 ag 30 27 false (.ixs 28 29),
 ag 31 27 false (.bin .gtr 30 (.c (.int .u8 126))),
 ao 32 (.pick 27 (.c (.bool true)) 31)]) (.cond 32 (.seq (.reg [ao 6 (.mv (.c (.bool false)))]) (.ret)) (.skip))))) (.seq (.reg [ao 33 (.bin .add 20 (.c (.int .i64 1))),
 ao 20 (.mv 33)]) (.view [.sel [0, 19, 20] []]))))
theorem qyu : AC.ok Try.prog (TIof Try.prog) 34 0 (kret [.t 6] decB) qek := ok_of trivial
theorem qya (v0 : List UInt8) (v19 v20 : Int) (K : Ex → Env → Mem → Option Bool) : den 0 (kret [.t 6] decB) qek (qlc v0 v19 v20) (qld v0 v19 v20) K = qej v0 v19 v20 (fun z_v20 => K .norm (qlc v0 v19 z_v20) (qld v0 v19 z_v20)) (qhz K) := by kernel_rfl
theorem qzu (v0 : List UInt8) (v19 : Int) (K : Ex → Env → Mem → Option Bool) : ∀ (n : Nat) (v20 : Int), iterD (den 0 (kret [.t 6] decB) qek) n (qlc v0 v19 v20) (qld v0 v19 v20) K = qia v0 v19 (qhz K) n v20 := by
  rw [qqu]
  intro n
  induction n with
  | zero => intros; rfl
  | succ n ih =>
 intro v20
 exact (qya v0 v19 v20 (itK (den 0 (kret [.t 6] decB) qek) n K)).trans (congrArg (fun q => qej v0 v19 v20 q (qhz K)) (funext fun v20 => ih v20))
def qrd := subE (R := Bool) qx9 fun t m K => qia (gS [t 0] 0) (gI [t 19] 0) (qhz K) FU (gI [t 20] 0)
theorem qzv : SubOk Try.prog (TIof Try.prog) 34 0 (kret [.t 6] decB) (.loop (scOf qek)) (qrd) :=
  loop_mk tabOk follows (qyu) (er_of (by kernel_rfl)) fun t m K => qzu _ _ K FU _
def q2d : Shp := ⟨[(0, .one (.l .s)), (1, .one (.l (.i .i64))), (2, .one (.l (.i .i64)))], []⟩
def qp3 (v0 : List UInt8) (v1 v2 : Int) : Option Bool :=
  (bif ((decide ((v0.length : Int) < v1)) || (decide ((v0.length : Int) > v2))) then (some false) else (qia v0 (v0.length : Int) (fun (_ : Unit) => (some true)) FU (0 : Int)))
def qjk := hull qp3
theorem qvf : qjk = qp3 := hull_eq _
def qp4 : AC Bool :=
  .seq (.reg [ao 6 (.mv (.c (.bool false)))]) (.seq (.seq (.reg [ao 8 (.mv 0),
 ao 9 (.len true 8),
 ao 10 (.mv 1),
 ao 11 (.bin .lss 9 10),
 ao 12 (.mv 11),
 .grp 12 false [(pg 13 12 false (.mv 0)), (pg 14 12 false (.len true 13)), (pg 15 12 false (.mv 2)), (pg 16 12 false (.bin .gtr 14 15))] 17 16]) (.cond 17 (.seq (.reg [ao 6 (.mv (.c (.bool false)))]) (.ret)) (.skip))) (.seq (.seq (.reg [ao 18 (.mv 0),
 ao 19 (.len true 18),
 ao 20 (.mv (.c (.int .i64 0)))]) (.block 0 (.seq (.view [.sel [0, 19, 20] []]) (.sub (.loop (scOf qek)) qrd)))) (.seq (.reg [ao 6 (.mv (.c (.bool true)))]) (.ret))))
theorem q36 : AC.ok Try.prog (TIof Try.prog) 34 0 (kret [.t 6] decB) qp4 := ok_of (zA qzv trivial)
theorem q6d (v0 : List UInt8) (v1 v2 : Int) : den 0 (kret [.t 6] decB) qp4 (envOf [(0, (.str v0)), (1, (.int .i64 v1)), (2, (.int .i64 v2))]) (memOf []) (kend (kret [.t 6] decB)) = qjk v0 v1 v2 := by
  rw [qvf]; kernel_rfl
theorem q6e : cFn (TIof Try.prog) Try.f78 = some ⟨34, [.t 6], scOf qp4⟩ := by kernel_rfl
def q6f (xs : List AV) : Option Bool := qjk (gS [(entry xs) 0] 0) (gI [(entry xs) 1] 0) (gI [(entry xs) 2] 0)
def qnt {R : Type} : List AV → (AV → Option R) → Option R := entF q2d q6f AV.bool
theorem qwl {R : Type} : EntOkB Try.prog 78 (qnt (R := R)) :=
  ent_mk tabOk follows Try.func78 (by kernel_rfl) q6e hdeB q36 (er_of (by kernel_rfl)) fun xs => q6d _ _ _
def qsl  (Ai : Bool) (Aj Ak Al Am : Int) (An Ao : List UInt8) (Ap : Int) (K : Ex → Env → Mem → Option Int) := (fun z_v28 => K .norm (envOf [(1, (.ptr 0 0)), (28, (.bool z_v28))]) (memOf [(some (.box true (qc Ai Aj Ak Al Am An Ao Ap)))]))
def qzw : Shp := ⟨[(1, .one (.ptr 0 0))], [.box true (lk qa)]⟩
def qnu  (Ai : Bool) (Aj Ak Al Am : Int) (An Ao : List UInt8) (Ap : Int) (kn : Bool → Option Int) : Option Int :=
  (bif (decide (Am < (1 : Int))) then (kn true) else (bif (decide (Am > (3 : Int))) then (kn true) else (bif (Am == (3 : Int)) then (oB (qns Ai Aj Ak Al) fun r1 => (kn (Al != r1))) else (kn false))))
def qlt := hull (qnu)
theorem qsm : qlt = qnu := hull_eq _
def qka : AC Int :=
  .seq (.draw [] [ao 7 (.fa 4 1),
 ao 8 (.load false 1 7),
 ao 9 (.bin .lss 8 (.c (.int .i64 1))),
 ao 10 (.mv 9),
 ag 11 10 false (.fa 4 1),
 ag 12 10 false (.load false 1 11),
 ag 13 10 false (.bin .gtr 12 (.c (.int .i64 3))),
 ao 14 (.pick 10 (.c (.bool true)) 13),
 ao 15 (.mv 14),
 ag 16 15 false (.fa 4 1),
 ag 17 15 false (.load false 1 16),
 ag 18 15 false (.bin .eql 17 (.c (.int .i64 3))),
 ag 19 15 false (.mv 18),
 ag 20 19 true (.fa 0 1),
 ag 21 19 true (.fa 3 20),
 ag 22 19 true (.load false 1 21),
 ag 23 19 true (.fa 0 1),
 ag 24 19 true (.load true 4 23),
 .call (pg 25 19 true (.call 77 [24])) 77 qwk] [ag 26 19 true (.bin .neq 22 25),
 ag 27 15 false (.pick 19 26 (.c (.bool false))),
 ao 28 (.pick 15 (.c (.bool true)) 27)]) (.view [.sel [1, 28] [0]])
theorem q09 : AC.ok Try.prog (TIof Try.prog) 49 0 (kret [.t 2] (decI .i64)) qka := ok_of (zA (EntOkB.ok q97) (zA rfl trivial))
theorem q2e (Ai : Bool) (Aj Ak Al Am : Int) (An Ao : List UInt8) (Ap : Int) (K : Ex → Env → Mem → Option Int) : den 0 (kret [.t 2] (decI .i64)) qka (envOf [(1, (.ptr 0 0))]) (memOf [(some (.box true (qc Ai Aj Ak Al Am An Ao Ap)))]) K = qlt Ai Aj Ak Al Am An Ao Ap (qsl Ai Aj Ak Al Am An Ao Ap K) := by
  rw [qsm]; kernel_rfl
def qtx := subE (R := Int) qzw fun t m K => qf (bxC (m.s 0)) (qlt) (qsl (gB (bxC (m.s 0)) 0) (gI (bxC (m.s 0)) 1) (gI (bxC (m.s 0)) 2) (gI (bxC (m.s 0)) 3) (gI (bxC (m.s 0)) 4) (gS (bxC (m.s 0)) 5) (gS (bxC (m.s 0)) 6) (gI (bxC (m.s 0)) 7) K)
theorem q2f : SubOk Try.prog (TIof Try.prog) 49 0 (kret [.t 2] (decI .i64)) (scOf qka) (qtx) :=
  sub_mk tabOk follows (q09) (er_of (by kernel_rfl)) fun t m K => q2e _ _ _ _ _ _ _ _ K
def q6g : Shp := ⟨[(0, .st (lk qa))], []⟩
def qtd (Aa : Bool) (Ab Ac Ad Ae : Int) (Af Ag : List UInt8) (Ah : Int) : Option Int :=
  (oB (qey Aa Ab Ac Ad) fun r1 => (bif (!r1) then (some (3 : Int)) else (qlt Aa Ab Ac Ad Ae Af Ag Ah (fun v28q2 => (bif v28q2 then (some (1 : Int)) else (oB (qjk Af (1 : Int) (63 : Int)) fun r3 => (bif (!r3) then (some (1 : Int)) else (oB (qjk Ag (0 : Int) (32 : Int)) fun r4 => (bif (((!r4) || (decide (Ah < (0 : Int)))) || (decide (Ah > (4294967295 : Int)))) then (some (1 : Int)) else (some (0 : Int)))))))))))
def qjn := hull qtd
theorem qxw : qjn = qtd := hull_eq _
def qte : AC Int :=
  .seq (.reg [ao 1 (.box 0),
 ao 2 (.mv (.c (.int .i64 0)))]) (.seq (.seq (.reg [ao 3 (.fa 0 1),
 ao 4 (.load true 4 3),
 .call (po 5 (.call 71 [4])) 71 qe4,
 ao 6 (.un .not 5)]) (.cond 6 (.seq (.reg [ao 2 (.mv (.c (.int .i64 3)))]) (.ret)) (.skip))) (.seq (.seq (.seq (.view [.sel [1] [0]]) (.sub (scOf qka) qtx)) (.cond 28 (.seq (.reg [ao 2 (.mv (.c (.int .i64 1)))]) (.ret)) (.skip))) (.seq (.seq (.reg [ao 29 (.fa 5 1),
 ao 30 (.load false 1 29),
 .call (po 31 (.call 78 [30, (.c (.int .i64 1)), (.c (.int .i64 63))])) 78 qnt,
 ao 32 (.un .not 31),
 ao 33 (.mv 32),
 ag 34 33 false (.fa 6 1),
 ag 35 33 false (.load false 1 34),
 .call (pg 36 33 false (.call 78 [35, (.c (.int .i64 0)), (.c (.int .i64 32))])) 78 qnt,
 ag 37 33 false (.un .not 36),
 ao 38 (.pick 33 (.c (.bool true)) 37),
 ao 39 (.mv 38),
 .grp 39 false [(pg 40 39 false (.fa 7 1)), (pg 41 39 false (.load false 1 40)), (pg 42 39 false (.bin .lss 41 (.c (.int .i64 0))))] 43 42,
 ao 44 (.mv 43),
 .grp 44 false [(pg 45 44 false (.fa 7 1)), (pg 46 44 false (.load false 1 45)), (pg 47 44 false (.bin .gtr 46 (.c (.int .i64 4294967295))))] 48 47]) (.cond 48 (.seq (.reg [ao 2 (.mv (.c (.int .i64 1)))]) (.ret)) (.skip))) (.seq (.reg [ao 2 (.mv (.c (.int .i64 0)))]) (.ret)))))
theorem q79 : AC.ok Try.prog (TIof Try.prog) 49 0 (kret [.t 2] (decI .i64)) qte := ok_of (zA (EntOkB.ok qjj) (zA q2f (zA (EntOkB.ok qwl) (zA (EntOkB.ok qwl) trivial))))
theorem q98 (Aa : Bool) (Ab Ac Ad Ae : Int) (Af Ag : List UInt8) (Ah : Int) : den 0 (kret [.t 2] (decI .i64)) qte (envOf [(0, .agg (qc Aa Ab Ac Ad Ae Af Ag Ah))]) (memOf []) (kend (kret [.t 2] (decI .i64))) = qjn Aa Ab Ac Ad Ae Af Ag Ah := by
  rw [qxw]; kernel_rfl
theorem q99 : cFn (TIof Try.prog) Try.f43 = some ⟨49, [.t 2], scOf qte⟩ := by kernel_rfl
def qbaa (xs : List AV) : Option Int := qf ((entry xs) 0).cells (qjn)
def qp5 {R : Type} : List AV → (AV → Option R) → Option R := entF q6g qbaa (AV.int .i64)
theorem qyv {R : Type} : EntOkB Try.prog 43 (qp5 (R := R)) :=
  ent_mk tabOk follows Try.func43 (by kernel_rfl) q99 hdeI q79 (er_of (by kernel_rfl)) fun xs => q98 _ _ _ _ _ _ _ _
def q8a : Shp := ⟨[(0, .one (.l (.i .u64))), (1, .one (.l (.i .u64)))], []⟩
def qus (v0 v1 : Int) : Option Int :=
  (bif (decide (v0 < v1)) then (some (-1 : Int)) else (bif (decide (v0 > v1)) then (some (1 : Int)) else (some (0 : Int))))
def qph := hull qus
theorem qyw : qph = qus := hull_eq _
def qut : AC Int :=
  .seq (.reg [ao 4 (.mv (.c (.int .i64 0)))]) (.seq (.block 0 (.seq (.reg [ao 6 (.mv 0),
 ao 7 (.mv 1),
 ao 8 (.bin .lss 6 7),
 ao 5 (.mv 8)]) (.cond 5 (.seq (.reg [ao 4 (.mv (.c (.int .i64 (-1))))]) (.ret)) (.seq (.reg [ao 10 (.mv 0),
 ao 11 (.mv 1),
 ao 12 (.bin .gtr 10 11),
 ao 9 (.mv 12)]) (.cond 9 (.seq (.reg [ao 4 (.mv (.c (.int .i64 1)))]) (.ret)) (.skip)))))) (.seq (.reg [ao 4 (.mv (.c (.int .i64 0)))]) (.ret)))
theorem qbab : AC.ok Try.prog (TIof Try.prog) 13 0 (kret [.t 4] (decI .i64)) qut := ok_of trivial
theorem qba9 (v0 v1 : Int) : den 0 (kret [.t 4] (decI .i64)) qut (envOf [(0, (.int .u64 v0)), (1, (.int .u64 v1))]) (memOf []) (kend (kret [.t 4] (decI .i64))) = qph v0 v1 := by
  rw [qyw]; kernel_rfl
theorem qbba : cFn (TIof Try.prog) Try.f101 = some ⟨13, [.t 4], scOf qut⟩ := by kernel_rfl
def qbbb (xs : List AV) : Option Int := qph (gI [(entry xs) 0] 0) (gI [(entry xs) 1] 0)
def qre {R : Type} : List AV → (AV → Option R) → Option R := entF q8a qbbb (AV.int .i64)
theorem q00 {R : Type} : EntOkB Try.prog 101 (qre (R := R)) :=
  ent_mk tabOk follows Try.func101 (by kernel_rfl) qbba hdeI qbab (er_of (by kernel_rfl)) fun xs => qba9 _ _
def q6h : Shp := ⟨[(0, .st (lk qcs)), (1, .st (lk qcs))], []⟩
def qtf (Aa : Bool) (Ab Ac : Int) (Aq : Bool) (Ar As : Int) : Option Int :=
  (bif ((!((Aa == Aq) && true)) && Aq) then (some (-1 : Int)) else (bif (!((Aa == Aq) && true)) then (some (1 : Int)) else (bif (Ab != Ar) then (oB (qph Ab Ar) fun r1 => (some r1)) else (oB (qph Ac As) fun r2 => (some r2)))))
def qnv := hull qtf
theorem qxx : qnv = qtf := hull_eq _
def qtg : AC Int :=
  .seq (.reg [ao 2 (.box 0),
 ao 3 (.box 1),
 ao 4 (.mv (.c (.int .i64 0)))]) (.seq (.block 0 (.seq (.reg [ao 6 (.fa 0 2),
 ao 7 (.load false 1 6),
 ao 8 (.fa 0 3),
 ao 9 (.load false 1 8),
 ao 10 (.eq true false [.b] 7 9),
 ao 11 (.mv 10),
 .grp 11 true [(pg 12 11 true (.fa 0 3)), (pg 13 11 true (.load false 1 12))] 14 13,
 ao 5 (.mv 14)]) (.cond 5 (.seq (.reg [ao 4 (.mv (.c (.int .i64 (-1))))]) (.ret)) (.seq (.reg [ao 16 (.fa 0 2),
 ao 17 (.load false 1 16),
 ao 18 (.fa 0 3),
 ao 19 (.load false 1 18),
 ao 20 (.eq true false [.b] 17 19),
 ao 15 (.mv 20)]) (.cond 15 (.seq (.reg [ao 4 (.mv (.c (.int .i64 1)))]) (.ret)) (.seq (.reg [ao 22 (.fa 1 2),
 ao 23 (.load false 1 22),
 ao 24 (.fa 1 3),
 ao 25 (.load false 1 24),
 ao 26 (.bin .neq 23 25),
 ao 21 (.mv 26)]) (.cond 21 (.seq (.reg [ao 27 (.fa 1 2),
 ao 28 (.load false 1 27),
 ao 29 (.fa 1 3),
 ao 30 (.load false 1 29),
 .call (po 31 (.call 101 [28, 30])) 101 qre,
 ao 4 (.mv 31)]) (.ret)) (.skip)))))))) (.seq (.reg [ao 32 (.fa 2 2),
 ao 33 (.load false 1 32),
 ao 34 (.fa 2 3),
 ao 35 (.load false 1 34),
 .call (po 36 (.call 101 [33, 35])) 101 qre,
 ao 4 (.mv 36)]) (.ret)))
theorem q8b : AC.ok Try.prog (TIof Try.prog) 37 0 (kret [.t 4] (decI .i64)) qtg := ok_of (zA (EntOkB.ok q00) (zA (EntOkB.ok q00) trivial))
theorem qbac (Aa : Bool) (Ab Ac : Int) (Aq : Bool) (Ar As : Int) : den 0 (kret [.t 4] (decI .i64)) qtg (envOf [(0, .agg (qba Aa Ab Ac)), (1, .agg (qba Aq Ar As))]) (memOf []) (kend (kret [.t 4] (decI .i64))) = qnv Aa Ab Ac Aq Ar As := by
  rw [qxx]; kernel_rfl
theorem qbad : cFn (TIof Try.prog) Try.f75 = some ⟨37, [.t 4], scOf qtg⟩ := by kernel_rfl
def qbae (xs : List AV) : Option Int := qb0 ((entry xs) 1).cells (qb0 ((entry xs) 0).cells (qnv))
def qwm {R : Type} : List AV → (AV → Option R) → Option R := entF q6h qbae (AV.int .i64)
theorem qbaf {R : Type} : EntOkB Try.prog 75 (qwm (R := R)) :=
  ent_mk tabOk follows Try.func75 (by kernel_rfl) qbad hdeI q8b (er_of (by kernel_rfl)) fun xs => qbac _ _ _ _ _ _
def q2g : Shp := ⟨[(0, .st (lk qe)), (1, .st (lk qe))], []⟩
def qp6 (Aa : Bool) (Ab Ac Ad : Int) (Aq : Bool) (Ar As At : Int) : Option Int :=
  (oB (qnv Aa Ab Ac Aq Ar As) fun r1 => (bif (r1 != (0 : Int)) then (some r1) else (bif (decide (Ad < At)) then (some (-1 : Int)) else (bif (decide (Ad > At)) then (some (1 : Int)) else (some (0 : Int))))))
def qjl := hull qp6
theorem qvg : qjl = qp6 := hull_eq _
def qp7 : AC Int :=
  .seq (.reg [ao 2 (.box 0),
 ao 3 (.box 1),
 ao 4 (.mv (.c (.int .i64 0)))]) (.seq (.seq (.reg [ao 6 (.fa 0 2),
 ao 7 (.load true 3 6),
 ao 8 (.fa 0 3),
 ao 9 (.load true 3 8),
 .call (po 10 (.call 75 [7, 9])) 75 qwm,
 ao 5 (.mv 10)]) (.seq (.reg [ao 11 (.mv 5),
 ao 12 (.bin .neq 11 (.c (.int .i64 0)))]) (.cond 12 (.seq (.reg [ao 13 (.mv 5),
 ao 4 (.mv 13)]) (.ret)) (.skip)))) (.seq (.block 0 (.seq (.reg [ao 15 (.fa 3 2),
 ao 16 (.load false 1 15),
 ao 17 (.fa 3 3),
 ao 18 (.load false 1 17),
 ao 19 (.bin .lss 16 18),
 ao 14 (.mv 19)]) (.cond 14 (.seq (.reg [ao 4 (.mv (.c (.int .i64 (-1))))]) (.ret)) (.seq (.reg [ao 21 (.fa 3 2),
 ao 22 (.load false 1 21),
 ao 23 (.fa 3 3),
 ao 24 (.load false 1 23),
 ao 25 (.bin .gtr 22 24),
 ao 20 (.mv 25)]) (.cond 20 (.seq (.reg [ao 4 (.mv (.c (.int .i64 1)))]) (.ret)) (.skip)))))) (.seq (.reg [ao 4 (.mv (.c (.int .i64 0)))]) (.ret))))
theorem q37 : AC.ok Try.prog (TIof Try.prog) 26 0 (kret [.t 4] (decI .i64)) qp7 := ok_of (zA (EntOkB.ok qbaf) trivial)
theorem q6i (Aa : Bool) (Ab Ac Ad : Int) (Aq : Bool) (Ar As At : Int) : den 0 (kret [.t 4] (decI .i64)) qp7 (envOf [(0, .agg (qb Aa Ab Ac Ad)), (1, .agg (qb Aq Ar As At))]) (memOf []) (kend (kret [.t 4] (decI .i64))) = qjl Aa Ab Ac Ad Aq Ar As At := by
  rw [qvg]; kernel_rfl
theorem q6j : cFn (TIof Try.prog) Try.f40 = some ⟨26, [.t 4], scOf qp7⟩ := by kernel_rfl
def q6k (xs : List AV) : Option Int := qd ((entry xs) 1).cells (qd ((entry xs) 0).cells (qjl))
def qnw {R : Type} : List AV → (AV → Option R) → Option R := entF q2g q6k (AV.int .i64)
theorem qwn {R : Type} : EntOkB Try.prog 40 (qnw (R := R)) :=
  ent_mk tabOk follows Try.func40 (by kernel_rfl) q6j hdeI q37 (er_of (by kernel_rfl)) fun xs => q6i _ _ _ _ _ _ _ _
def qj5 (z : AV) : Option (AV × Bool) := cond (fitTup [(.st [.b, (.i .u64), (.i .u64), (.i .i64)]), (.one .b)] z) (some ((gC (tpL z) 0), aB (gC (tpL z) 1))) none
def qbbc (r : AV × Bool) : AV := .tup [etaRV (.st [.b, (.i .u64), (.i .u64), (.i .i64)]) r.1, .bool r.2]
def qxy  (v1 : Int) (Ai : Bool) (Aj Ak : Int) (Au : Bool) (Av Aw Ax : Int) (K : Ex → Env → Mem → Option (AV × Bool)) := (fun z_v20 => K .norm (envOf [(1, (.int .i64 v1)), (2, (.ptr 0 0)), (4, (.ptr 1 0)), (20, (.bool z_v20))]) (memOf [(some (.box true (qba Ai Aj Ak))), (some (.box true (qb Au Av Aw Ax)))]))
def q6l : Shp := ⟨[(1, .one (.l (.i .i64))), (2, .one (.ptr 0 0)), (4, .one (.ptr 1 0))], [.box true (lk qcs), .box true (lk qe)]⟩
def qth  (v1 : Int) (Ai : Bool) (Aj Ak : Int) (Au : Bool) (Av Aw Ax : Int) (kn : Bool → Option (AV × Bool)) : Option (AV × Bool) :=
  (oB (qog Ai Aj Ak) fun r1 => (bif ((!r1) || (decide (v1 < (0 : Int)))) then (kn true) else (oB (qgw Ai Aj Ak) fun r2 => (kn (decide (v1 > r2))))))
def qrf := hull (qth)
theorem qxz : qrf = qth := hull_eq _
def qoi : AC (AV × Bool) :=
  .seq (.reg [ao 8 (.load true 3 2),
 .call (po 9 (.call 73 [8])) 73 qs7,
 ao 10 (.un .not 9),
 ao 11 (.mv 10),
 .grp 11 false [(pg 12 11 false (.mv 1)), (pg 13 11 false (.bin .lss 12 (.c (.int .i64 0))))] 14 13,
 ao 15 (.mv 14),
 ag 16 15 false (.mv 1),
 ag 17 15 false (.load true 3 2),
 .call (pg 18 15 false (.call 76 [17])) 76 qix,
 ag 19 15 false (.bin .gtr 16 18),
 ao 20 (.pick 15 (.c (.bool true)) 19)]) (.view [.sel [1, 2, 4, 20] [0, 1]])
theorem q8c : AC.ok Try.prog (TIof Try.prog) 42 0 (kret [(.cell 4 true 4), .t 5] qj5) qoi := ok_of (zA (EntOkB.ok q2b) (zA (EntOkB.ok qm4) trivial))
theorem qbag (v1 : Int) (Ai : Bool) (Aj Ak : Int) (Au : Bool) (Av Aw Ax : Int) (K : Ex → Env → Mem → Option (AV × Bool)) : den 0 (kret [(.cell 4 true 4), .t 5] qj5) qoi (envOf [(1, (.int .i64 v1)), (2, (.ptr 0 0)), (4, (.ptr 1 0))]) (memOf [(some (.box true (qba Ai Aj Ak))), (some (.box true (qb Au Av Aw Ax)))]) K = qrf v1 Ai Aj Ak Au Av Aw Ax (qxy v1 Ai Aj Ak Au Av Aw Ax K) := by
  rw [qxz]; kernel_rfl
def qyx := subE (R := AV × Bool) q6l fun t m K => qd (bxC (m.s 1)) (qb0 (bxC (m.s 0)) (qrf (gI [t 1] 0))) (qxy (gI [t 1] 0) (gB (bxC (m.s 0)) 0) (gI (bxC (m.s 0)) 1) (gI (bxC (m.s 0)) 2) (gB (bxC (m.s 1)) 0) (gI (bxC (m.s 1)) 1) (gI (bxC (m.s 1)) 2) (gI (bxC (m.s 1)) 3) K)
theorem qbah : SubOk Try.prog (TIof Try.prog) 42 0 (kret [(.cell 4 true 4), .t 5] qj5) (scOf qoi) (qyx) :=
  sub_mk tabOk follows (q8c) (er_of (by kernel_rfl)) fun t m K => qbag _ _ _ _ _ _ _ _ K
def qbbd : Shp := ⟨[(0, .st (lk qcs)), (1, .one (.l (.i .i64)))], []⟩
def qyb (Aa : Bool) (Ab Ac v1 : Int) : Option (AV × Bool) :=
  (qrf v1 Aa Ab Ac false (0 : Int) (0 : Int) (0 : Int) (fun v20q1 => (bif v20q1 then (some ((.agg [(.bool false), (.int .u64 (0 : Int)), (.int .u64 (0 : Int)), (.int .i64 (0 : Int))]), false)) else (oB (qlb Aa v1) fun r2 => (some ((.agg [(.bool Aa), (.int .u64 (ibits .andNot .u64 Ab r2.1)), (.int .u64 (ibits .andNot .u64 Ac r2.2)), (.int .i64 v1)]), true))))))
def qty := hull qyb
theorem q2h : qty = qyb := hull_eq _
def qyc : AC (AV × Bool) :=
  .seq (.reg [ao 2 (.box 0),
 ao 4 (.alloc [(.bool false), (.int .u64 0), (.int .u64 0), (.int .i64 0)]),
 ao 5 (.mv (.c (.bool false)))]) (.seq (.seq (.seq (.view [.sel [1, 2, 4] [0, 1]]) (.sub (scOf qoi) qyx)) (.cond 20 (.seq (.reg [ao 21 (.build [(.bool false), (.int .u64 0), (.int .u64 0), (.int .i64 0)] []),
 an (.store 4 4 21),
 ao 5 (.mv (.c (.bool false)))]) (.ret)) (.skip))) (.seq (.reg [ao 23 (.fa 0 2),
 ao 24 (.load false 1 23),
 ao 25 (.mv 1),
 .call (po 26 (.call 72 [24, 25])) 72 qp2,
 ao 22 (.mv 26),
 ao 27 (.ext 22 0),
 ao 28 (.ext 22 1),
 ao 6 (.mv 27),
 ao 7 (.mv 28)]) (.seq (.reg [ao 29 (.fa 1 2),
 ao 30 (.load false 1 29),
 ao 31 (.mv 6),
 ao 32 (.bin .andNot 30 31),
 ao 33 (.fa 1 2),
 an (.store 1 33 32)]) (.seq (.reg [ao 34 (.fa 2 2),
 ao 35 (.load false 1 34),
 ao 36 (.mv 7),
 ao 37 (.bin .andNot 35 36),
 ao 38 (.fa 2 2),
 an (.store 1 38 37)]) (.seq (.reg [ao 39 (.load true 3 2),
 ao 40 (.mv 1),
 ao 41 (.build [(.bool false), (.int .u64 0), (.int .u64 0), (.int .i64 0)] [(0, (3, 39)), (3, (1, 40))]),
 an (.store 4 4 41),
 ao 5 (.mv (.c (.bool true)))]) (.ret))))))
theorem qbch : AC.ok Try.prog (TIof Try.prog) 42 0 (kret [(.cell 4 true 4), .t 5] qj5) qyc := ok_of (zA qbah (zA (EntOkB.ok qyt) trivial))
theorem qbco (Aa : Bool) (Ab Ac v1 : Int) : den 0 (kret [(.cell 4 true 4), .t 5] qj5) qyc (envOf [(0, .agg (qba Aa Ab Ac)), (1, (.int .i64 v1))]) (memOf []) (kend (kret [(.cell 4 true 4), .t 5] qj5)) = qty Aa Ab Ac v1 := by
  rw [q2h]; kernel_rfl
theorem qbcp : cFn (TIof Try.prog) Try.f41 = some ⟨42, [(.cell 4 true 4), .t 5], scOf qyc⟩ := by kernel_rfl
def qbcq (xs : List AV) : Option (AV × Bool) := qb0 ((entry xs) 0).cells (qty) (gI [(entry xs) 1] 0)
def q01 {R : Type} : List AV → (AV → Option R) → Option R := entF qbbd qbcq qbbc
theorem qbcr {R : Type} : EntOkB Try.prog 41 (q01 (R := R)) :=
  ent_mk tabOk follows Try.func41 (by kernel_rfl) qbcp (fun z r h => by
 obtain ⟨h1, h2⟩ := cond_some h
 cases h2
 exact (fitTup_eq h1).symm) qbch (er_of (by kernel_rfl)) fun xs => qbco _ _ _ _
def q1a : Shp := ⟨[(0, .st (lk qe)), (1, .st (lk qcs))], []⟩
def qot (Aa : Bool) (Ab Ac Ad : Int) (Aq : Bool) (Ar As : Int) : Option Bool :=
  (oB (qey Aa Ab Ac Ad) fun r1 => (bif ((!r1) || (!((Aa == Aq) && true))) then (some false) else (oB (qty Aq Ar As Ad) fun r2 => (some (r2.2 && (((gB r2.1.cells 0) == Aa) && (((gI r2.1.cells 1) == Ab) && (((gI r2.1.cells 2) == Ac) && (((gI r2.1.cells 3) == Ad) && true)))))))))
def qil := hull qot
theorem qtz : qil = qot := hull_eq _
def qou : AC Bool :=
  .seq (.reg [ao 2 (.box 0),
 ao 3 (.box 1),
 ao 4 (.mv (.c (.bool false)))]) (.seq (.seq (.reg [ao 7 (.load true 4 2),
 .call (po 8 (.call 71 [7])) 71 qe4,
 ao 9 (.un .not 8),
 ao 10 (.mv 9),
 .grp 10 false [(pg 11 10 false (.fa 0 2)), (pg 12 10 false (.fa 0 11)), (pg 13 10 false (.load false 1 12)), (pg 14 10 false (.fa 0 3)), (pg 15 10 false (.load false 1 14)), (pg 16 10 false (.eq true false [.b] 13 15))] 17 16]) (.cond 17 (.seq (.reg [ao 4 (.mv (.c (.bool false)))]) (.ret)) (.skip))) (.seq (.reg [ao 19 (.load true 3 3),
 ao 20 (.fa 3 2),
 ao 21 (.load false 1 20),
 .call (po 22 (.call 41 [19, 21])) 41 q01,
 ao 18 (.mv 22),
 ao 23 (.ext 18 0),
 ao 24 (.ext 18 1),
 ao 5 (.alloc [(.bool false), (.int .u64 0), (.int .u64 0), (.int .i64 0)]),
 an (.store 4 5 23),
 ao 6 (.mv 24)]) (.seq (.reg [ao 25 (.mv 6),
 ao 26 (.mv 25),
 .grp 26 true [(pg 27 26 true (.load true 4 5)), (pg 28 26 true (.load true 4 2)), (pg 29 26 true (.eq false true [.b, (.i .u64), (.i .u64), (.i .i64)] 27 28))] 30 29,
 ao 4 (.mv 30)]) (.ret))))
theorem q2i : AC.ok Try.prog (TIof Try.prog) 31 0 (kret [.t 4] decB) qou := ok_of (zA (EntOkB.ok qjj) (zA (EntOkB.ok qbcr) trivial))
theorem q38 (Aa : Bool) (Ab Ac Ad : Int) (Aq : Bool) (Ar As : Int) : den 0 (kret [.t 4] decB) qou (envOf [(0, .agg (qb Aa Ab Ac Ad)), (1, .agg (qba Aq Ar As))]) (memOf []) (kend (kret [.t 4] decB)) = qil Aa Ab Ac Ad Aq Ar As := by
  rw [qtz]; kernel_rfl
theorem q39 : cFn (TIof Try.prog) Try.f35 = some ⟨31, [.t 4], scOf qou⟩ := by kernel_rfl
def q4a (xs : List AV) : Option Bool := qb0 ((entry xs) 1).cells (qd ((entry xs) 0).cells (qil))
def qmq {R : Type} : List AV → (AV → Option R) → Option R := entF q1a q4a AV.bool
theorem qvh {R : Type} : EntOkB Try.prog 35 (qmq (R := R)) :=
  ent_mk tabOk follows Try.func35 (by kernel_rfl) q39 hdeB q2i (er_of (by kernel_rfl)) fun xs => q38 _ _ _ _ _ _ _
def q4b : Shp := ⟨[(0, .st (lk qe)), (1, .st (lk qe))], []⟩
def qrg (Aa : Bool) (Ab Ac Ad : Int) (Aq : Bool) (Ar As At : Int) : Option Bool :=
  (oB (qey Aa Ab Ac Ad) fun r1 => (bif r1 then (oB (qey Aq Ar As At) fun r2 => (bif (r2 && (decide (Ad ≥ At))) then (oB (qil Aq Ar As At Aa Ab Ac) fun r3 => (some r3)) else (some false))) else (some false)))
def qgx := hull qrg
theorem qwo : qgx = qrg := hull_eq _
def qrh : AC Bool :=
  .seq (.reg [ao 2 (.box 0),
 ao 3 (.box 1),
 ao 4 (.mv (.c (.bool false)))]) (.seq (.reg [ao 5 (.load true 4 2),
 .call (po 6 (.call 71 [5])) 71 qe4,
 ao 7 (.mv 6),
 ag 8 7 true (.load true 4 3),
 .call (pg 9 7 true (.call 71 [8])) 71 qe4,
 ao 10 (.pick 7 9 (.c (.bool false))),
 ao 11 (.mv 10),
 .grp 11 true [(pg 12 11 true (.fa 3 2)), (pg 13 11 true (.load false 1 12)), (pg 14 11 true (.fa 3 3)), (pg 15 11 true (.load false 1 14)), (pg 16 11 true (.bin .geq 13 15))] 17 16,
 ao 18 (.mv 17),
 ag 19 18 true (.load true 4 3),
 ag 20 18 true (.fa 0 2),
 ag 21 18 true (.load true 3 20),
 .call (pg 22 18 true (.call 35 [19, 21])) 35 qmq,
 ao 23 (.pick 18 22 (.c (.bool false))),
 ao 4 (.mv 23)]) (.ret))
theorem q6m : AC.ok Try.prog (TIof Try.prog) 24 0 (kret [.t 4] decB) qrh := ok_of (zA (EntOkB.ok qjj) (zA (EntOkB.ok qjj) (zA (EntOkB.ok qvh) trivial)))
theorem q8d (Aa : Bool) (Ab Ac Ad : Int) (Aq : Bool) (Ar As At : Int) : den 0 (kret [.t 4] decB) qrh (envOf [(0, .agg (qb Aa Ab Ac Ad)), (1, .agg (qb Aq Ar As At))]) (memOf []) (kend (kret [.t 4] decB)) = qgx Aa Ab Ac Ad Aq Ar As At := by
  rw [qwo]; kernel_rfl
theorem q8e : cFn (TIof Try.prog) Try.f37 = some ⟨24, [.t 4], scOf qrh⟩ := by kernel_rfl
def q8f (xs : List AV) : Option Bool := qd ((entry xs) 1).cells (qd ((entry xs) 0).cells (qgx))
def qiy {R : Type} : List AV → (AV → Option R) → Option R := entF q4b q8f AV.bool
theorem qm6 {R : Type} : EntOkB Try.prog 37 (qiy (R := R)) :=
  ent_mk tabOk follows Try.func37 (by kernel_rfl) q8e hdeB q6m (er_of (by kernel_rfl)) fun xs => q8d _ _ _ _ _ _ _ _
def q8g : Shp := ⟨[(0, .st (lk qe)), (1, .st (lk qe))], []⟩
def quu (Aa : Bool) (Ab Ac Ad : Int) (Aq : Bool) (Ar As At : Int) : Option Bool :=
  (bif (decide (Ad > At)) then (oB (qgx Aa Ab Ac Ad Aq Ar As At) fun r1 => (some r1)) else (some false))
def qez := hull quu
theorem qyy : qez = quu := hull_eq _
def quv : AC Bool :=
  .seq (.reg [ao 2 (.box 0),
 ao 3 (.box 1),
 ao 4 (.mv (.c (.bool false)))]) (.seq (.reg [ao 5 (.fa 3 2),
 ao 6 (.load false 1 5),
 ao 7 (.fa 3 3),
 ao 8 (.load false 1 7),
 ao 9 (.bin .gtr 6 8),
 ao 10 (.mv 9),
 ag 11 10 true (.load true 4 2),
 ag 12 10 true (.load true 4 3),
 .call (pg 13 10 true (.call 37 [11, 12])) 37 qiy,
 ao 14 (.pick 10 13 (.c (.bool false))),
 ao 4 (.mv 14)]) (.ret))
theorem qbai : AC.ok Try.prog (TIof Try.prog) 15 0 (kret [.t 4] decB) quv := ok_of (zA (EntOkB.ok qm6) trivial)
theorem qbbe (Aa : Bool) (Ab Ac Ad : Int) (Aq : Bool) (Ar As At : Int) : den 0 (kret [.t 4] decB) quv (envOf [(0, .agg (qb Aa Ab Ac Ad)), (1, .agg (qb Aq Ar As At))]) (memOf []) (kend (kret [.t 4] decB)) = qez Aa Ab Ac Ad Aq Ar As At := by
  rw [qyy]; kernel_rfl
theorem qbbf : cFn (TIof Try.prog) Try.f64 = some ⟨15, [.t 4], scOf quv⟩ := by kernel_rfl
def qbbg (xs : List AV) : Option Bool := qd ((entry xs) 1).cells (qd ((entry xs) 0).cells (qez))
def qet {R : Type} : List AV → (AV → Option R) → Option R := entF q8g qbbg AV.bool
theorem qit {R : Type} : EntOkB Try.prog 64 (qet (R := R)) :=
  ent_mk tabOk follows Try.func64 (by kernel_rfl) qbbf hdeB qbai (er_of (by kernel_rfl)) fun xs => qbbe _ _ _ _ _ _ _ _
def q4c : Shp := ⟨[(0, .st (lk qa)), (1, .st (lk qa))], []⟩
def qri (Aa : Bool) (Ab Ac Ad Ae : Int) (Af Ag : List UInt8) (Ah : Int) (Aq : Bool) (Ar As At Ay : Int) (Az A0 : List UInt8) (A1 : Int) : Option Bool :=
  (bif (Ae == (1 : Int)) then (some true) else (bif (Ae == (2 : Int)) then (some (Ay == (3 : Int))) else (some false)))
def qmf := hull qri
theorem qwp : qmf = qri := hull_eq _
def qrj : AC Bool :=
  .seq (.reg [ao 2 (.box 0),
 ao 3 (.box 1),
 ao 4 (.mv (.c (.bool false)))]) (.seq (.reg [ao 5 (.fa 4 2),
 ao 6 (.load false 1 5),
 ao 7 (.bin .eql 6 (.c (.int .i64 1))),
 ao 8 (.mv 7),
 ag 9 8 false (.fa 4 2),
 ag 10 8 false (.load false 1 9),
 ag 11 8 false (.bin .eql 10 (.c (.int .i64 2))),
 ag 12 8 false (.mv 11),
 ag 13 12 true (.fa 4 3),
 ag 14 12 true (.load false 1 13),
 ag 15 12 true (.bin .eql 14 (.c (.int .i64 3))),
 ag 16 8 false (.pick 12 15 (.c (.bool false))),
 ao 17 (.pick 8 (.c (.bool true)) 16),
 ao 4 (.mv 17)]) (.ret))
theorem q6n : AC.ok Try.prog (TIof Try.prog) 18 0 (kret [.t 4] decB) qrj := ok_of trivial
theorem q8h (Aa : Bool) (Ab Ac Ad Ae : Int) (Af Ag : List UInt8) (Ah : Int) (Aq : Bool) (Ar As At Ay : Int) (Az A0 : List UInt8) (A1 : Int) : den 0 (kret [.t 4] decB) qrj (envOf [(0, .agg (qc Aa Ab Ac Ad Ae Af Ag Ah)), (1, .agg (qc Aq Ar As At Ay Az A0 A1))]) (memOf []) (kend (kret [.t 4] decB)) = qmf Aa Ab Ac Ad Ae Af Ag Ah Aq Ar As At Ay Az A0 A1 := by
  rw [qwp]; kernel_rfl
theorem q8i : cFn (TIof Try.prog) Try.f80 = some ⟨18, [.t 4], scOf qrj⟩ := by kernel_rfl
def q8j (xs : List AV) : Option Bool := qf ((entry xs) 1).cells (qf ((entry xs) 0).cells (qmf))
def qvi {R : Type} : List AV → (AV → Option R) → Option R := entF q4c q8j AV.bool
theorem q8k {R : Type} : EntOkB Try.prog 80 (qvi (R := R)) :=
  ent_mk tabOk follows Try.func80 (by kernel_rfl) q8i hdeB q6n (er_of (by kernel_rfl)) fun xs => q8h _ _ _ _ _ _ _ _ _ _ _ _ _ _ _ _
def qyd : Shp := ⟨[(0, .st (lk qa)), (1, .one (.ptr 0 0))], [.box true (lk qa)]⟩
def qqv {R : Type} (KK : AV → Mem → Option R) := (fun v3 Ai Aj Ak Al Am An Ao Ap => KK (.bool v3) (memOf [(some (.box true [(.bool Ai), (.int .u64 Aj), (.int .u64 Ak), (.int .i64 Al), (.int .i64 Am), (.str An), (.str Ao), (.int .i64 Ap)]))]))
def qlu {R : Type}  (Aa : Bool) (Ab Ac Ad Ae : Int) (Af Ag : List UInt8) (Ah : Int) (Ai : Bool) (Aj Ak Al Am : Int) (An Ao : List UInt8) (Ap : Int) (kr : Bool → Bool → Int → Int → Int → Int → (List UInt8) → (List UInt8) → Int → Option R) : Option R :=
  (oB (qez Ai Aj Ak Al Aa Ab Ac Ad) fun r1 => (bif r1 then (oB (qmf Aa Ab Ac Ad Ae Af Ag Ah Ai Aj Ak Al Am An Ao Ap) fun r2 => (kr (!r2) Ai Aj Ak Al Am An Ao Ap)) else (kr false Ai Aj Ak Al Am An Ao Ap)))
def qib {R : Type} := hull (qlu (R := R))
theorem qqw {R : Type} : qib (R := R) = qlu := hull_eq _
def qel {R : Type} (KK : AV → Mem → Option R) : AC R :=
  .seq (.reg [ao 2 (.box 0),
 ao 3 (.mv (.c (.bool false)))]) (.seq (.reg [ao 4 (.fa 0 1),
 ao 5 (.load true 4 4),
 ao 6 (.fa 0 2),
 ao 7 (.load true 4 6),
 .call (po 8 (.call 64 [5, 7])) 64 qet,
 ao 9 (.mv 8),
 ag 10 9 true (.load true 8 2),
 ag 11 9 true (.load true 8 1),
 .call (pg 12 9 true (.call 80 [10, 11])) 80 qvi,
 ag 13 9 true (.un .not 12),
 ao 14 (.pick 9 13 (.c (.bool false))),
 ao 3 (.mv 14)]) (.seq (.view [.sel [3] [0]]) (.ret)))
theorem qyz {R : Type} (KK : AV → Mem → Option R) : AC.ok Try.prog (TIof Try.prog) 15 1 (kretr [.t 3] KK) (qel KK) := ok_of (zA (EntOkB.ok qit) (zA (EntOkB.ok q8k) trivial))
theorem qzx {R : Type} (KK : AV → Mem → Option R) (Aa : Bool) (Ab Ac Ad Ae : Int) (Af Ag : List UInt8) (Ah : Int) (Ai : Bool) (Aj Ak Al Am : Int) (An Ao : List UInt8) (Ap : Int) : den 1 (kretr [.t 3] KK) (qel KK) (envOf [(0, .agg (qc Aa Ab Ac Ad Ae Af Ag Ah)), (1, (.ptr 0 0))]) (memOf [(some (.box true (qc Ai Aj Ak Al Am An Ao Ap)))]) (kend (kretr [.t 3] KK)) = qib Aa Ab Ac Ad Ae Af Ag Ah Ai Aj Ak Al Am An Ao Ap (qqv KK) := by
  rw [qqw]; kernel_rfl
theorem qzy : cFn (TIof Try.prog) Try.f79 = some ⟨15, [.t 3], scOf (qel (R := Unit) (fun _ _ => none))⟩ := by kernel_rfl
theorem qzz {R : Type} (KK : AV → Mem → Option R) : (qel KK).er = some (scOf (qel (R := Unit) (fun _ _ => none))) := by kernel_rfl
def qrk {R : Type} : List AV → Mem → (AV → Mem → Option R) → Option R := refE qyd fun xs m KK => qf (bxC (m.s 0)) (qf ((entry xs) 0).cells (qib)) (qqv KK)
theorem qz0 {R : Type} : RefOk Try.prog 79 (qrk (R := R)) :=
  ref_mk (ac := fun KK => qel KK) tabOk follows Try.func79 (by kernel_rfl) qzy (fun KK => qyz KK) (fun KK => qzz KK) rfl fun xs m KK => qzx KK _ _ _ _ _ _ _ _ _ _ _ _ _ _ _ _
def qbd {R : Type}  (K : Ex → Env → Mem → Option R) := (fun z_b0_0 z_b0_1 z_b0_2 z_b0_3 z_b0_4 z_b0_5 z_b0_6 z_b0_7 => K (.exit 0) (envOf []) (memOf [(some (.box true (qc z_b0_0 z_b0_1 z_b0_2 z_b0_3 z_b0_4 z_b0_5 z_b0_6 z_b0_7)))]))
def qbf {R : Type} (KK : AV → Mem → Option R) := (fun v4 Ai Aj Ak Al Am An Ao Ap => KK (.int .i64 v4) (memOf [(some (.box true [(.bool Ai), (.int .u64 Aj), (.int .u64 Ak), (.int .i64 Al), (.int .i64 Am), (.str An), (.str Ao), (.int .i64 Ap)]))]))
def qe9 : Shp := ⟨[(0, .one (.l (.sl 8))), (1, .one (.fn 79 [(0, 0)])), (7, .one (.l (.i .i64))), (8, .one (.l (.i .i64)))], [.box true (lk qa)]⟩
def qb8 (v0 : List AV) (v7 v8 : Int) (Ai : Bool) (Aj Ak Al Am : Int) (An Ao : List UInt8) (Ap : Int) : Env := envOf [(0, (.sl 8 v0)), (1, (.func 79 [(.ptr 0 0)])), (7, (.int .i64 v7)), (8, (.int .i64 v8))]
def qb9 (v0 : List AV) (v7 v8 : Int) (Ai : Bool) (Aj Ak Al Am : Int) (An Ao : List UInt8) (Ap : Int) : Mem := memOf [(some (.box true (qc Ai Aj Ak Al Am An Ao Ap)))]
def qj {R : Type}  (v0 : List AV) (v7 v8 : Int) (Ai : Bool) (Aj Ak Al Am : Int) (An Ao : List UInt8) (Ap : Int) (next : Int → Bool → Int → Int → Int → Int → (List UInt8) → (List UInt8) → Int → Option R) (kx0 : Bool → Int → Int → Int → Int → (List UInt8) → (List UInt8) → Int → Option R) (kr : Int → Bool → Int → Int → Int → Int → (List UInt8) → (List UInt8) → Int → Option R) : Option R :=
  (bif (decide (v8 < v7)) then (oB (ixB v0 v8) fun y1 => (bif fitC qa y1.cells then (qib (gB y1.cells 0) (gI y1.cells 1) (gI y1.cells 2) (gI y1.cells 3) (gI y1.cells 4) (gS y1.cells 5) (gS y1.cells 6) (gI y1.cells 7) Ai Aj Ak Al Am An Ao Ap fun v3q2 b0_0q3 b0_1q4 b0_2q5 b0_3q6 b0_4q7 b0_5q8 b0_6q9 b0_7q10 => (bif v3q2 then (kr v8 b0_0q3 b0_1q4 b0_2q5 b0_3q6 b0_4q7 b0_5q8 b0_6q9 b0_7q10) else (next (IntKind.i64.wrap (v8 + (1 : Int))) b0_0q3 b0_1q4 b0_2q5 b0_3q6 b0_4q7 b0_5q8 b0_6q9 b0_7q10))) else none)) else (kx0 Ai Aj Ak Al Am An Ao Ap))
def qbj {R : Type}  (v0 : List AV) (v7 : Int) (kx0 : Bool → Int → Int → Int → Int → (List UInt8) → (List UInt8) → Int → Option R) (kr : Int → Bool → Int → Int → Int → Int → (List UInt8) → (List UInt8) → Int → Option R) : Nat → Int → Bool → Int → Int → Int → Int → (List UInt8) → (List UInt8) → Int → Option R
  | 0 => (fun _ _ _ _ _ _ _ _ _ => none)
  | n + 1 => (fun v8 Ai Aj Ak Al Am An Ao Ap => qj v0 v7 v8 Ai Aj Ak Al Am An Ao Ap (qbj v0 v7 kx0 kr n) kx0 kr)
def qbp {R : Type} := hull (qbj (R := R))
theorem qcz {R : Type} : qbp (R := R) = qbj := hull_eq _
def qk {R : Type} (KK : AV → Mem → Option R) : AC R :=
  .seq (.reg [ao 9 (.bin .lss 8 7)]) (.seq (.cond 9 (.skip) (.seq (.view [.sel [] [0]]) (.exit 0))) (.seq (.block 1 (.seq (.reg [ao 10 (.mv 8),
 ao 5 (.mv 10)]) (.seq (.reg [ao 11 (.mv 1),
 ao 12 (.mv 0),
 ao 13 (.mv 5),
 ao 14 (.ia 8 12 13),
 .st (.etac 14 qa),
 ao 15 (.load true 8 14),
 .st (.sel [0, 1, 5, 7, 8, 11, 15] [0]),
 .callr (po 16 (.callv 11 [15])) 79 qrk]) (.cond 16 (.seq (.reg [ao 17 (.mv 5),
 ao 4 (.mv 17)]) (.seq (.view [.sel [4] [0]]) (.ret))) (.skip))))) (.seq (.reg [ao 18 (.bin .add 8 (.c (.int .i64 1))),
 ao 8 (.mv 18)]) (.view [.sel [0, 1, 7, 8] [0]]))))
theorem qfj {R : Type} (KK : AV → Mem → Option R) : AC.ok Try.prog (TIof Try.prog) 19 1 (kretr [.t 4] KK) (qk KK) := ok_of (zA qz0 trivial)
theorem qfa {R : Type} (KK : AV → Mem → Option R) (v0 : List AV) (v7 v8 : Int) (Ai : Bool) (Aj Ak Al Am : Int) (An Ao : List UInt8) (Ap : Int) (K : Ex → Env → Mem → Option R) : den 1 (kretr [.t 4] KK) (qk KK) (qb8 v0 v7 v8 Ai Aj Ak Al Am An Ao Ap) (qb9 v0 v7 v8 Ai Aj Ak Al Am An Ao Ap) K = qj v0 v7 v8 Ai Aj Ak Al Am An Ao Ap (fun z_v8 z_b0_0 z_b0_1 z_b0_2 z_b0_3 z_b0_4 z_b0_5 z_b0_6 z_b0_7 => K .norm (qb8 v0 v7 z_v8 z_b0_0 z_b0_1 z_b0_2 z_b0_3 z_b0_4 z_b0_5 z_b0_6 z_b0_7) (qb9 v0 v7 z_v8 z_b0_0 z_b0_1 z_b0_2 z_b0_3 z_b0_4 z_b0_5 z_b0_6 z_b0_7)) (qbd K) (qbf KK) := by kernel_rfl
theorem qfu {R : Type} (KK : AV → Mem → Option R) (v0 : List AV) (v7 : Int) (K : Ex → Env → Mem → Option R) : ∀ (n : Nat) (v8 : Int) (Ai : Bool) (Aj Ak Al Am : Int) (An Ao : List UInt8) (Ap : Int), iterD (den 1 (kretr [.t 4] KK) (qk KK)) n (qb8 v0 v7 v8 Ai Aj Ak Al Am An Ao Ap) (qb9 v0 v7 v8 Ai Aj Ak Al Am An Ao Ap) K = qbp v0 v7 (qbd K) (qbf KK) n v8 Ai Aj Ak Al Am An Ao Ap := by
  rw [qcz]
  intro n
  induction n with
  | zero => intros; rfl
  | succ n ih =>
 intro v8 Ai Aj Ak Al Am An Ao Ap
 exact (qfa KK v0 v7 v8 Ai Aj Ak Al Am An Ao Ap (itK (den 1 (kretr [.t 4] KK) (qk KK)) n K)).trans (congrArg (fun q => qj v0 v7 v8 Ai Aj Ak Al Am An Ao Ap q (qbd K) (qbf KK)) (funext fun v8 => funext fun Ai => funext fun Aj => funext fun Ak => funext fun Al => funext fun Am => funext fun An => funext fun Ao => funext fun Ap => ih v8 Ai Aj Ak Al Am An Ao Ap))
def qc6 {R : Type} (KK : AV → Mem → Option R) := subE (R := R) qe9 fun t m K => qf (bxC (m.s 0)) (qbp (gL [t 0] 0) (gI [t 7] 0) (qbd K) (qbf KK) FU (gI [t 8] 0))
theorem qfv {R : Type} (KK : AV → Mem → Option R) : SubOk Try.prog (TIof Try.prog) 19 1 (kretr [.t 4] KK) (.loop (scOf (qk KK))) (qc6 KK) :=
  loop_mk tabOk follows (qfj KK) (er_of (by kernel_rfl)) fun t m K => qfu KK _ _ K FU _ _ _ _ _ _ _ _ _
def qf3 : Shp := ⟨[(0, .one (.l (.sl 8))), (1, .one (.fn 79 [(0, 0)]))], [.box true (lk qa)]⟩
def qdf {R : Type} (KK : AV → Mem → Option R) := (fun v4 Ai Aj Ak Al Am An Ao Ap => KK (.int .i64 v4) (memOf [(some (.box true [(.bool Ai), (.int .u64 Aj), (.int .u64 Ak), (.int .i64 Al), (.int .i64 Am), (.str An), (.str Ao), (.int .i64 Ap)]))]))
def qci {R : Type}  (v0 : List AV) (Ai : Bool) (Aj Ak Al Am : Int) (An Ao : List UInt8) (Ap : Int) (kr : Int → Bool → Int → Int → Int → Int → (List UInt8) → (List UInt8) → Int → Option R) : Option R :=
  (qbp v0 (v0.length : Int) (fun b0_0q1 b0_1q2 b0_2q3 b0_3q4 b0_4q5 b0_5q6 b0_6q7 b0_7q8 => (kr (-1 : Int) b0_0q1 b0_1q2 b0_2q3 b0_3q4 b0_4q5 b0_5q6 b0_6q7 b0_7q8)) kr FU (0 : Int) Ai Aj Ak Al Am An Ao Ap)
def q8 {R : Type} := hull (qci (R := R))
theorem qdg {R : Type} : q8 (R := R) = qci := hull_eq _
def qq {R : Type} (KK : AV → Mem → Option R) : AC R :=
  .seq (.reg [ao 4 (.mv (.c (.int .i64 0)))]) (.seq (.seq (.reg [ao 6 (.mv 0),
 ao 7 (.len false 6),
 ao 8 (.mv (.c (.int .i64 0)))]) (.block 0 (.seq (.view [.sel [0, 1, 7, 8] [0]]) (.sub (.loop (scOf (qk KK))) (qc6 KK))))) (.seq (.reg [ao 4 (.mv (.c (.int .i64 (-1))))]) (.seq (.view [.sel [4] [0]]) (.ret))))
theorem qgn {R : Type} (KK : AV → Mem → Option R) : AC.ok Try.prog (TIof Try.prog) 19 1 (kretr [.t 4] KK) (qq KK) := ok_of (zA (qfv KK) trivial)
theorem qgz {R : Type} (KK : AV → Mem → Option R) (v0 : List AV) (Ai : Bool) (Aj Ak Al Am : Int) (An Ao : List UInt8) (Ap : Int) : den 1 (kretr [.t 4] KK) (qq KK) (envOf [(0, (.sl 8 v0)), (1, (.func 79 [(.ptr 0 0)]))]) (memOf [(some (.box true (qc Ai Aj Ak Al Am An Ao Ap)))]) (kend (kretr [.t 4] KK)) = q8 v0 Ai Aj Ak Al Am An Ao Ap (qdf KK) := by
  rw [qdg]; kernel_rfl
theorem qg0 : cFn (TIof Try.prog) Try.f88 = some ⟨19, [.t 4], scOf (qq (R := Unit) (fun _ _ => none))⟩ := by kernel_rfl
theorem qg1 {R : Type} (KK : AV → Mem → Option R) : (qq KK).er = some (scOf (qq (R := Unit) (fun _ _ => none))) := by kernel_rfl
def qdn {R : Type} : List AV → Mem → (AV → Mem → Option R) → Option R := refE qf3 fun xs m KK => qf (bxC (m.s 0)) (q8 (gL [(entry xs) 0] 0)) (qdf KK)
theorem qg2 {R : Type} : RefOk Try.prog 88 (qdn (R := R)) :=
  ref_mk (ac := fun KK => qq KK) tabOk follows Try.func88 (by kernel_rfl) qg0 (fun KK => qgn KK) (fun KK => qg1 KK) rfl fun xs m KK => qgz KK _ _ _ _ _ _ _ _ _
def qfb : Shp := ⟨[(0, .one (.l (.sl 8))), (1, .one (.fn 79 [(0, 0)]))], [.box true (lk qa)]⟩
def qc0 {R : Type} (KK : AV → Mem → Option R) := (fun v4 Ai Aj Ak Al Am An Ao Ap => KK (.bool v4) (memOf [(some (.box true [(.bool Ai), (.int .u64 Aj), (.int .u64 Ak), (.int .i64 Al), (.int .i64 Am), (.str An), (.str Ao), (.int .i64 Ap)]))]))
def qcb {R : Type}  (v0 : List AV) (Ai : Bool) (Aj Ak Al Am : Int) (An Ao : List UInt8) (Ap : Int) (kr : Bool → Bool → Int → Int → Int → Int → (List UInt8) → (List UInt8) → Int → Option R) : Option R :=
  (q8 v0 Ai Aj Ak Al Am An Ao Ap fun v4q1 b0_0q2 b0_1q3 b0_2q4 b0_3q5 b0_4q6 b0_5q7 b0_6q8 b0_7q9 => (kr (decide (v4q1 ≥ (0 : Int))) b0_0q2 b0_1q3 b0_2q4 b0_3q5 b0_4q6 b0_5q7 b0_6q8 b0_7q9))
def qbq {R : Type} := hull (qcb (R := R))
theorem qc1 {R : Type} : qbq (R := R) = qcb := hull_eq _
def ql {R : Type} (KK : AV → Mem → Option R) : AC R :=
  .seq (.reg [ao 4 (.mv (.c (.bool false)))]) (.seq (.reg [ao 5 (.mv 0),
 ao 6 (.mv 1),
 .st (.sel [5, 6] [0]),
 .callr (po 7 (.call 88 [5, 6])) 88 qdn,
 ao 8 (.bin .geq 7 (.c (.int .i64 0))),
 ao 4 (.mv 8)]) (.seq (.view [.sel [4] [0]]) (.ret)))
theorem qfk {R : Type} (KK : AV → Mem → Option R) : AC.ok Try.prog (TIof Try.prog) 9 1 (kretr [.t 4] KK) (ql KK) := ok_of (zA qg2 trivial)
theorem qfw {R : Type} (KK : AV → Mem → Option R) (v0 : List AV) (Ai : Bool) (Aj Ak Al Am : Int) (An Ao : List UInt8) (Ap : Int) : den 1 (kretr [.t 4] KK) (ql KK) (envOf [(0, (.sl 8 v0)), (1, (.func 79 [(.ptr 0 0)]))]) (memOf [(some (.box true (qc Ai Aj Ak Al Am An Ao Ap)))]) (kend (kretr [.t 4] KK)) = qbq v0 Ai Aj Ak Al Am An Ao Ap (qc0 KK) := by
  rw [qc1]; kernel_rfl
theorem qfx : cFn (TIof Try.prog) Try.f68 = some ⟨9, [.t 4], scOf (ql (R := Unit) (fun _ _ => none))⟩ := by kernel_rfl
theorem qfy {R : Type} (KK : AV → Mem → Option R) : (ql KK).er = some (scOf (ql (R := Unit) (fun _ _ => none))) := by kernel_rfl
def qc7 {R : Type} : List AV → Mem → (AV → Mem → Option R) → Option R := refE qfb fun xs m KK => qf (bxC (m.s 0)) (qbq (gL [(entry xs) 0] 0)) (qc0 KK)
theorem qfz {R : Type} : RefOk Try.prog 68 (qc7 (R := R)) :=
  ref_mk (ac := fun KK => ql KK) tabOk follows Try.func68 (by kernel_rfl) qfx (fun KK => qfk KK) (fun KK => qfy KK) rfl fun xs m KK => qfw KK _ _ _ _ _ _ _ _ _
def qz1 : Shp := ⟨[(0, .one (.l (.sl 8))), (1, .st (lk qa))], []⟩
def qnx (v0 : List AV) (Aq : Bool) (Ar As At Ay : Int) (Az A0 : List UInt8) (A1 : Int) : Option Bool :=
  (qbq v0 Aq Ar As At Ay Az A0 A1 fun v4q1 b0_0q2 b0_1q3 b0_2q4 b0_3q5 b0_4q6 b0_5q7 b0_6q8 b0_7q9 => (some v4q1))
def qe5 := hull qnx
theorem qsn : qe5 = qnx := hull_eq _
def qny : AC Bool :=
  .seq (.reg [ao 3 (.box 1),
 ao 4 (.mv (.c (.bool false)))]) (.seq (.reg [ao 5 (.mv 0),
 ao 6 (.mkf 79 [3]),
 .st (.sel [5, 6] [0]),
 .callr (po 7 (.call 68 [5, 6])) 68 qc7,
 ao 4 (.mv 7)]) (.ret))
theorem q1b : AC.ok Try.prog (TIof Try.prog) 8 0 (kret [.t 4] decB) qny := ok_of (zA qfz trivial)
theorem q2j (v0 : List AV) (Aq : Bool) (Ar As At Ay : Int) (Az A0 : List UInt8) (A1 : Int) : den 0 (kret [.t 4] decB) qny (envOf [(0, (.sl 8 v0)), (1, .agg (qc Aq Ar As At Ay Az A0 A1))]) (memOf []) (kend (kret [.t 4] decB)) = qe5 v0 Aq Ar As At Ay Az A0 A1 := by
  rw [qsn]; kernel_rfl
theorem q2k : cFn (TIof Try.prog) Try.f44 = some ⟨8, [.t 4], scOf qny⟩ := by kernel_rfl
def q2l (xs : List AV) : Option Bool := qf ((entry xs) 1).cells (qe5 (gL [(entry xs) 0] 0))
def qlv {R : Type} : List AV → (AV → Option R) → Option R := entF qz1 q2l AV.bool
theorem qt0 {R : Type} : EntOkB Try.prog 44 (qlv (R := R)) :=
  ent_mk tabOk follows Try.func44 (by kernel_rfl) q2k hdeB q1b (er_of (by kernel_rfl)) fun xs => q2j _ _ _ _ _ _ _ _ _
def qso  (v0 : List AV) (v3 : Int) (v10 : List AV) (v11 v12 : Int) (Ai : Bool) (Aj Ak Al Am : Int) (An Ao : List UInt8) (Ap : Int) (K : Ex → Env → Mem → Option Int) := (fun (_ : Unit) => K .norm (envOf [(0, (.sl 8 v0)), (3, (.int .i64 v3)), (4, (.ptr 0 0)), (10, (.sl 8 v10)), (11, (.int .i64 v11)), (12, (.int .i64 v12))]) (memOf [(some (.box true (qc Ai Aj Ak Al Am An Ao Ap)))]))
def qz2 : Shp := ⟨[(0, .one (.l (.sl 8))), (3, .one (.l (.i .i64))), (4, .one (.ptr 0 0)), (10, .one (.l (.sl 8))), (11, .one (.l (.i .i64))), (12, .one (.l (.i .i64)))], [.box true (lk qa)]⟩
def qnz  (v0 : List AV) (v3 : Int) (v10 : List AV) (v11 v12 : Int) (Ai : Bool) (Aj Ak Al Am : Int) (An Ao : List UInt8) (Ap : Int) (kn : Unit → Option Int) : Option Int :=
  (bif (decide (v3 > (0 : Int))) then (oB (ixB v0 (IntKind.i64.wrap (v3 - (1 : Int)))) fun y1 => (bif fitC qa y1.cells then (oB (qjl Ai Aj Ak Al (gB y1.cells 0) (gI y1.cells 1) (gI y1.cells 2) (gI y1.cells 3)) fun r2 => (bif (decide (r2 < (0 : Int))) then (some (7 : Int)) else (bif (r2 == (0 : Int)) then (some (12 : Int)) else (kn ())))) else none)) else (kn ()))
def qlw := hull (qnz)
theorem qsp : qlw = qnz := hull_eq _
def qkb : AC Int :=
  .seq (.reg [ao 22 (.mv 3),
 ao 23 (.bin .gtr 22 (.c (.int .i64 0)))]) (.cond 23 (.seq (.draw [] [ao 24 (.fa 0 4),
 ao 25 (.load true 4 24),
 ao 26 (.mv 0),
 ao 27 (.mv 3),
 ao 28 (.bin .sub 27 (.c (.int .i64 1))),
 ao 29 (.ia 8 26 28),
 .et 29 qa,
 ao 30 (.fa 0 29),
 ao 31 (.load true 4 30)] [.call (po 32 (.call 40 [25, 31])) 40 qnw,
 ao 6 (.mv 32)]) (.seq (.seq (.reg [ao 33 (.mv 6),
 ao 34 (.bin .lss 33 (.c (.int .i64 0)))]) (.cond 34 (.seq (.reg [ao 2 (.mv (.c (.int .i64 7)))]) (.ret)) (.skip))) (.seq (.reg [ao 35 (.mv 6),
 ao 36 (.bin .eql 35 (.c (.int .i64 0)))]) (.cond 36 (.seq (.reg [ao 2 (.mv (.c (.int .i64 12)))]) (.ret)) (.seq (.skip) (.view [.sel [0, 3, 4, 10, 11, 12] [0]])))))) (.seq (.skip) (.view [.sel [0, 3, 4, 10, 11, 12] [0]])))
theorem q1c : AC.ok Try.prog (TIof Try.prog) 43 0 (kret [.t 2] (decI .i64)) qkb := ok_of (zA (EntOkB.ok qwn) (zA rfl trivial))
theorem q2m (v0 : List AV) (v3 : Int) (v10 : List AV) (v11 v12 : Int) (Ai : Bool) (Aj Ak Al Am : Int) (An Ao : List UInt8) (Ap : Int) (K : Ex → Env → Mem → Option Int) : den 0 (kret [.t 2] (decI .i64)) qkb (envOf [(0, (.sl 8 v0)), (3, (.int .i64 v3)), (4, (.ptr 0 0)), (10, (.sl 8 v10)), (11, (.int .i64 v11)), (12, (.int .i64 v12))]) (memOf [(some (.box true (qc Ai Aj Ak Al Am An Ao Ap)))]) K = qlw v0 v3 v10 v11 v12 Ai Aj Ak Al Am An Ao Ap (qso v0 v3 v10 v11 v12 Ai Aj Ak Al Am An Ao Ap K) := by
  rw [qsp]; kernel_rfl
def qt1 := subE (R := Int) qz2 fun t m K => qf (bxC (m.s 0)) (qlw (gL [t 0] 0) (gI [t 3] 0) (gL [t 10] 0) (gI [t 11] 0) (gI [t 12] 0)) (qso (gL [t 0] 0) (gI [t 3] 0) (gL [t 10] 0) (gI [t 11] 0) (gI [t 12] 0) (gB (bxC (m.s 0)) 0) (gI (bxC (m.s 0)) 1) (gI (bxC (m.s 0)) 2) (gI (bxC (m.s 0)) 3) (gI (bxC (m.s 0)) 4) (gS (bxC (m.s 0)) 5) (gS (bxC (m.s 0)) 6) (gI (bxC (m.s 0)) 7) K)
theorem q2n : SubOk Try.prog (TIof Try.prog) 43 0 (kret [.t 2] (decI .i64)) (scOf qkb) (qt1) :=
  sub_mk tabOk follows (q1c) (er_of (by kernel_rfl)) fun t m K => q2m _ _ _ _ _ _ _ _ _ _ _ _ _ K
def qi8  (K : Ex → Env → Mem → Option Int) := (fun (_ : Unit) => K (.exit 0) (envOf []) (memOf []))
def qz3 : Shp := ⟨[(0, .one (.l (.sl 8))), (10, .one (.l (.sl 8))), (11, .one (.l (.i .i64))), (12, .one (.l (.i .i64)))], []⟩
def qmr (v0 v10 : List AV) (v11 v12 : Int) : Env := envOf [(0, (.sl 8 v0)), (10, (.sl 8 v10)), (11, (.int .i64 v11)), (12, (.int .i64 v12))]
def qms (v0 v10 : List AV) (v11 v12 : Int) : Mem := memOf []
def qfc  (v0 v10 : List AV) (v11 v12 : Int) (next : Int → Option Int) (kx0 : Unit → Option Int) : Option Int :=
  (bif (decide (v12 < v11)) then (oB (ixB v10 v12) fun y1 => (bif fitC qa y1.cells then (oB (qjn (gB y1.cells 0) (gI y1.cells 1) (gI y1.cells 2) (gI y1.cells 3) (gI y1.cells 4) (gS y1.cells 5) (gS y1.cells 6) (gI y1.cells 7)) fun r2 => (bif (r2 != (0 : Int)) then (some r2) else (qlw v0 v12 v10 v11 v12 (gB y1.cells 0) (gI y1.cells 1) (gI y1.cells 2) (gI y1.cells 3) (gI y1.cells 4) (gS y1.cells 5) (gS y1.cells 6) (gI y1.cells 7) (fun (_ : Unit) => (oB (cutI v0 none (some v12)) fun s3 => (oB (qe5 s3 (gB y1.cells 0) (gI y1.cells 1) (gI y1.cells 2) (gI y1.cells 3) (gI y1.cells 4) (gS y1.cells 5) (gS y1.cells 6) (gI y1.cells 7)) fun r4 => (bif r4 then (some (24 : Int)) else (next (IntKind.i64.wrap (v12 + (1 : Int))))))))))) else none)) else (kx0 ()))
def qkc  (v0 v10 : List AV) (v11 : Int) (kx0 : Unit → Option Int) : Nat → Int → Option Int
  | 0 => (fun _ => none)
  | n + 1 => (fun v12 => qfc v0 v10 v11 v12 (qkc v0 v10 v11 kx0 n) kx0)
def qlx := hull (qkc)
theorem qsq : qlx = qkc := hull_eq _
def qfd : AC Int :=
  .seq (.reg [ao 13 (.bin .lss 12 11)]) (.seq (.cond 13 (.skip) (.seq (.view [.sel [] []]) (.exit 0))) (.seq (.block 1 (.seq (.reg [ao 14 (.mv 12),
 ao 15 (.ia 8 10 12),
 .st (.etac 15 qa),
 ao 16 (.load true 8 15),
 ao 4 (.alloc [(.bool false), (.int .u64 0), (.int .u64 0), (.int .i64 0), (.int .i64 0), (.str []), (.str []), (.int .i64 0)]),
 ao 3 (.mv 14),
 an (.store 8 4 16)]) (.seq (.seq (.reg [ao 17 (.load true 8 4),
 .call (po 18 (.call 43 [17])) 43 qp5,
 ao 5 (.mv 18)]) (.seq (.reg [ao 19 (.mv 5),
 ao 20 (.bin .neq 19 (.c (.int .i64 0)))]) (.cond 20 (.seq (.reg [ao 21 (.mv 5),
 ao 2 (.mv 21)]) (.ret)) (.skip)))) (.seq (.seq (.view [.sel [0, 3, 4, 10, 11, 12] [0]]) (.sub (scOf qkb) qt1)) (.seq (.draw [] [ao 37 (.mv 0),
 ao 38 (.mv 3),
 ao 39 (.slc 8 37 none (some 38)),
 ao 40 (.load true 8 4)] [.call (po 41 (.call 44 [39, 40])) 44 qlv]) (.cond 41 (.seq (.reg [ao 2 (.mv (.c (.int .i64 24)))]) (.ret)) (.skip))))))) (.seq (.reg [ao 42 (.bin .add 12 (.c (.int .i64 1))),
 ao 12 (.mv 42)]) (.view [.sel [0, 10, 11, 12] []]))))
theorem q1d : AC.ok Try.prog (TIof Try.prog) 43 0 (kret [.t 2] (decI .i64)) qfd := ok_of (zA (EntOkB.ok qyv) (zA q2n (zA (EntOkB.ok qt0) (zA rfl trivial))))
theorem qz4 (v0 v10 : List AV) (v11 v12 : Int) (K : Ex → Env → Mem → Option Int) : den 0 (kret [.t 2] (decI .i64)) qfd (qmr v0 v10 v11 v12) (qms v0 v10 v11 v12) K = qfc v0 v10 v11 v12 (fun z_v12 => K .norm (qmr v0 v10 v11 z_v12) (qms v0 v10 v11 z_v12)) (qi8 K) := by kernel_rfl
theorem q2o (v0 v10 : List AV) (v11 : Int) (K : Ex → Env → Mem → Option Int) : ∀ (n : Nat) (v12 : Int), iterD (den 0 (kret [.t 2] (decI .i64)) qfd) n (qmr v0 v10 v11 v12) (qms v0 v10 v11 v12) K = qlx v0 v10 v11 (qi8 K) n v12 := by
  rw [qsq]
  intro n
  induction n with
  | zero => intros; rfl
  | succ n ih =>
 intro v12
 exact (qz4 v0 v10 v11 v12 (itK (den 0 (kret [.t 2] (decI .i64)) qfd) n K)).trans (congrArg (fun q => qfc v0 v10 v11 v12 q (qi8 K)) (funext fun v12 => ih v12))
def qt2 := subE (R := Int) qz3 fun t m K => qlx (gL [t 0] 0) (gL [t 10] 0) (gI [t 11] 0) (qi8 K) FU (gI [t 12] 0)
theorem q2p : SubOk Try.prog (TIof Try.prog) 43 0 (kret [.t 2] (decI .i64)) (.loop (scOf qfd)) (qt2) :=
  loop_mk tabOk follows (q1d) (er_of (by kernel_rfl)) fun t m K => q2o _ _ _ K FU _
def q6o : Shp := ⟨[(0, .one (.l (.sl 8)))], []⟩
def qti (v0 : List AV) : Option Int :=
  (bif (decide ((v0.length : Int) > (512 : Int))) then (some (9 : Int)) else (qlx v0 v0 (v0.length : Int) (fun (_ : Unit) => (some (0 : Int))) FU (0 : Int)))
def qjo := hull qti
theorem qx0 : qjo = qti := hull_eq _
def qtj : AC Int :=
  .seq (.reg [ao 2 (.mv (.c (.int .i64 0)))]) (.seq (.seq (.reg [ao 7 (.mv 0),
 ao 8 (.len false 7),
 ao 9 (.bin .gtr 8 (.c (.int .i64 512)))]) (.cond 9 (.seq (.reg [ao 2 (.mv (.c (.int .i64 9)))]) (.ret)) (.skip))) (.seq (.seq (.reg [ao 10 (.mv 0),
 ao 11 (.len false 10),
 ao 12 (.mv (.c (.int .i64 0)))]) (.block 0 (.seq (.view [.sel [0, 10, 11, 12] []]) (.sub (.loop (scOf qfd)) qt2)))) (.seq (.reg [ao 2 (.mv (.c (.int .i64 0)))]) (.ret))))
theorem q8l : AC.ok Try.prog (TIof Try.prog) 43 0 (kret [.t 2] (decI .i64)) qtj := ok_of (zA q2p trivial)
theorem qbaj (v0 : List AV) : den 0 (kret [.t 2] (decI .i64)) qtj (envOf [(0, (.sl 8 v0))]) (memOf []) (kend (kret [.t 2] (decI .i64))) = qjo v0 := by
  rw [qx0]; kernel_rfl
theorem qbak : cFn (TIof Try.prog) Try.f11 = some ⟨43, [.t 2], scOf qtj⟩ := by kernel_rfl
def qbal (xs : List AV) : Option Int := qjo (gL [(entry xs) 0] 0)
def qp8 {R : Type} : List AV → (AV → Option R) → Option R := entF q6o qbal (AV.int .i64)
theorem qy0 {R : Type} : EntOkB Try.prog 11 (qp8 (R := R)) :=
  ent_mk tabOk follows Try.func11 (by kernel_rfl) qbak hdeI q8l (er_of (by kernel_rfl)) fun xs => qbaj _
def q2q : Shp := ⟨[(0, .st (lk qcs))], []⟩
def qp9 (Aa : Bool) (Ab Ac : Int) : Option Bool :=
  (bif Aa then (some true) else (bif (Ab == (0 : Int)) then (some (decide (Ac < (4294967296 : Int)))) else (some false)))
def qhn := hull qp9
theorem qvj : qhn = qp9 := hull_eq _
def qqa : AC Bool :=
  .seq (.reg [ao 1 (.box 0),
 ao 2 (.mv (.c (.bool false)))]) (.seq (.reg [ao 3 (.fa 0 1),
 ao 4 (.load false 1 3),
 ao 5 (.mv 4),
 ag 6 5 false (.fa 1 1),
 ag 7 5 false (.load false 1 6),
 ag 8 5 false (.bin .eql 7 (.c (.int .u64 0))),
 ag 9 5 false (.mv 8),
 ag 10 9 true (.fa 2 1),
 ag 11 9 true (.load false 1 10),
 ag 12 9 true (.bin .lss 11 (.c (.int .u64 4294967296))),
 ag 13 5 false (.pick 9 12 (.c (.bool false))),
 ao 14 (.pick 5 (.c (.bool true)) 13),
 ao 2 (.mv 14)]) (.ret))
theorem q4d : AC.ok Try.prog (TIof Try.prog) 15 0 (kret [.t 2] decB) qqa := ok_of trivial
theorem q6p (Aa : Bool) (Ab Ac : Int) : den 0 (kret [.t 2] decB) qqa (envOf [(0, .agg (qba Aa Ab Ac))]) (memOf []) (kend (kret [.t 2] decB)) = qhn Aa Ab Ac := by
  rw [qvj]; kernel_rfl
theorem q6q : cFn (TIof Try.prog) Try.f81 = some ⟨15, [.t 2], scOf qqa⟩ := by kernel_rfl
def q6r (xs : List AV) : Option Bool := qb0 ((entry xs) 0).cells (qhn)
def qkd {R : Type} : List AV → (AV → Option R) → Option R := entF q2q q6r AV.bool
theorem qqb {R : Type} : EntOkB Try.prog 81 (qkd (R := R)) :=
  ent_mk tabOk follows Try.func81 (by kernel_rfl) q6q hdeB q4d (er_of (by kernel_rfl)) fun xs => q6p _ _ _
def q4e : Shp := ⟨[(0, .one (.l .b))], []⟩
def qrl (v0 : Bool) : Option Int :=
  (bif v0 then (some (128 : Int)) else (some (32 : Int)))
def qgy := hull qrl
theorem qwq : qgy = qrl := hull_eq _
def qrm : AC Int :=
  .seq (.reg [ao 2 (.mv (.c (.int .i64 0)))]) (.seq (.seq (.reg [ao 3 (.mv 0)]) (.cond 3 (.seq (.reg [ao 2 (.mv (.c (.int .i64 128)))]) (.ret)) (.skip))) (.seq (.reg [ao 2 (.mv (.c (.int .i64 32)))]) (.ret)))
theorem q6s : AC.ok Try.prog (TIof Try.prog) 4 0 (kret [.t 2] (decI .i64)) qrm := ok_of trivial
theorem q8m (v0 : Bool) : den 0 (kret [.t 2] (decI .i64)) qrm (envOf [(0, (.bool v0))]) (memOf []) (kend (kret [.t 2] (decI .i64))) = qgy v0 := by
  rw [qwq]; kernel_rfl
theorem q8n : cFn (TIof Try.prog) Try.f82 = some ⟨4, [.t 2], scOf qrm⟩ := by kernel_rfl
def q8o (xs : List AV) : Option Int := qgy (gB [(entry xs) 0] 0)
def qiz {R : Type} : List AV → (AV → Option R) → Option R := entF q4e q8o (AV.int .i64)
theorem qm7 {R : Type} : EntOkB Try.prog 82 (qiz (R := R)) :=
  ent_mk tabOk follows Try.func82 (by kernel_rfl) q8n hdeI q6s (er_of (by kernel_rfl)) fun xs => q8m _
def qd5 (z : AV) : Option (Int × Int) := cond (fitTup [(.one (.i .u64)), (.one (.i .u64))] z) (some (aI (gC (tpL z) 0), aI (gC (tpL z) 1))) none
def q4f (r : Int × Int) : AV := .tup [.int .u64 r.1, .int .u64 r.2]
def qi9  (K : Ex → Env → Mem → Option (Int × Int)) := (fun z_v4 z_v5 => K (.exit 0) (envOf [(4, (.int .u64 z_v4)), (5, (.int .u64 z_v5))]) (memOf []))
def qz5 : Shp := ⟨[(0, .one (.l (.i .i64))), (4, .one (.l (.i .u64))), (5, .one (.l (.i .u64))), (6, .one (.l (.i .i64)))], []⟩
def qmt (v0 v4 v5 v6 : Int) : Env := envOf [(0, (.int .i64 v0)), (4, (.int .u64 v4)), (5, (.int .u64 v5)), (6, (.int .i64 v6))]
def qmu (v0 v4 v5 v6 : Int) : Mem := memOf []
def qic  (v0 v4 v5 v6 : Int) (next : Int → Int → Int → Option (Int × Int)) (kx0 : Int → Int → Option (Int × Int)) : Option (Int × Int) :=
  (bif ((decide (v6 < v0)) && (decide (v6 < (128 : Int)))) then (next (IntKind.u64.wrap ((IntKind.u64.wrap (v4 * (2 : Int))) + (IntKind.u64.wrap (v5.tdiv (9223372036854775808 : Int))))) (IntKind.u64.wrap ((IntKind.u64.wrap (v5 * (2 : Int))) + (1 : Int))) (IntKind.i64.wrap (v6 + (1 : Int)))) else (kx0 v4 v5))
def qke  (v0 : Int) (kx0 : Int → Int → Option (Int × Int)) : Nat → Int → Int → Int → Option (Int × Int)
  | 0 => (fun _ _ _ => none)
  | n + 1 => (fun v4 v5 v6 => qic v0 v4 v5 v6 (qke v0 kx0 n) kx0)
def qly := hull (qke)
theorem qsr : qly = qke := hull_eq _
def qfe : AC (Int × Int) :=
  .seq (.seq (.reg [ao 7 (.mv 6),
 ao 8 (.mv 0),
 ao 9 (.bin .lss 7 8),
 ao 10 (.mv 9),
 .grp 10 true [(pg 11 10 true (.mv 6)), (pg 12 10 true (.bin .lss 11 (.c (.int .i64 128))))] 13 12]) (.cond 13 (.skip) (.seq (.view [.sel [4, 5] []]) (.exit 0)))) (.seq (.block 1 (.seq (.reg [ao 16 (.mv 4),
 ao 17 (.bin .mul 16 (.c (.int .u64 2))),
 ao 18 (.mv 5),
 ao 19 (.bin .quo 18 (.c (.int .u64 9223372036854775808))),
 ao 20 (.bin .add 17 19),
 ao 4 (.mv 20)]) (.reg [ao 21 (.mv 5),
 ao 22 (.bin .mul 21 (.c (.int .u64 2))),
 ao 23 (.bin .add 22 (.c (.int .u64 1))),
 ao 5 (.mv 23)]))) (.seq (.reg [ao 14 (.mv 6),
 ao 15 (.bin .add 14 (.c (.int .i64 1))),
 ao 6 (.mv 15)]) (.view [.sel [0, 4, 5, 6] []])))
theorem q1e : AC.ok Try.prog (TIof Try.prog) 26 0 (kret [.t 2, .t 3] qd5) qfe := ok_of trivial
theorem qz6 (v0 v4 v5 v6 : Int) (K : Ex → Env → Mem → Option (Int × Int)) : den 0 (kret [.t 2, .t 3] qd5) qfe (qmt v0 v4 v5 v6) (qmu v0 v4 v5 v6) K = qic v0 v4 v5 v6 (fun z_v4 z_v5 z_v6 => K .norm (qmt v0 z_v4 z_v5 z_v6) (qmu v0 z_v4 z_v5 z_v6)) (qi9 K) := by kernel_rfl
theorem q2r (v0 : Int) (K : Ex → Env → Mem → Option (Int × Int)) : ∀ (n : Nat) (v4 v5 v6 : Int), iterD (den 0 (kret [.t 2, .t 3] qd5) qfe) n (qmt v0 v4 v5 v6) (qmu v0 v4 v5 v6) K = qly v0 (qi9 K) n v4 v5 v6 := by
  rw [qsr]
  intro n
  induction n with
  | zero => intros; rfl
  | succ n ih =>
 intro v4 v5 v6
 exact (qz6 v0 v4 v5 v6 (itK (den 0 (kret [.t 2, .t 3] qd5) qfe) n K)).trans (congrArg (fun q => qic v0 v4 v5 v6 q (qi9 K)) (funext fun v4 => funext fun v5 => funext fun v6 => ih v4 v5 v6))
def qt3 := subE (R := Int × Int) qz5 fun t m K => qly (gI [t 0] 0) (qi9 K) FU (gI [t 4] 0) (gI [t 5] 0) (gI [t 6] 0)
theorem q2s : SubOk Try.prog (TIof Try.prog) 26 0 (kret [.t 2, .t 3] qd5) (.loop (scOf qfe)) (qt3) :=
  loop_mk tabOk follows (q1e) (er_of (by kernel_rfl)) fun t m K => q2r _ K FU _ _ _
def q4g : Shp := ⟨[(0, .one (.l (.i .i64)))], []⟩
def qrn (v0 : Int) : Option (Int × Int) :=
  (qly v0 (fun v4q1 v5q2 => (some (v4q1, v5q2))) FU (0 : Int) (0 : Int) (0 : Int))
def qj6 := hull qrn
theorem qwr : qj6 = qrn := hull_eq _
def qro : AC (Int × Int) :=
  .seq (.reg [ao 2 (.mv (.c (.int .u64 0))),
 ao 3 (.mv (.c (.int .u64 0)))]) (.seq (.reg [ao 4 (.mv (.c (.int .u64 0))),
 ao 5 (.mv (.c (.int .u64 0)))]) (.seq (.seq (.reg [ao 6 (.mv (.c (.int .i64 0)))]) (.block 0 (.seq (.view [.sel [0, 4, 5, 6] []]) (.sub (.loop (scOf qfe)) qt3)))) (.seq (.reg [ao 24 (.mv 4),
 ao 25 (.mv 5),
 ao 2 (.mv 24),
 ao 3 (.mv 25)]) (.ret))))
theorem q6t : AC.ok Try.prog (TIof Try.prog) 26 0 (kret [.t 2, .t 3] qd5) qro := ok_of (zA q2s trivial)
theorem q8p (v0 : Int) : den 0 (kret [.t 2, .t 3] qd5) qro (envOf [(0, (.int .i64 v0))]) (memOf []) (kend (kret [.t 2, .t 3] qd5)) = qj6 v0 := by
  rw [qwr]; kernel_rfl
theorem q8q : cFn (TIof Try.prog) Try.f83 = some ⟨26, [.t 2, .t 3], scOf qro⟩ := by kernel_rfl
def q8r (xs : List AV) : Option (Int × Int) := qj6 (gI [(entry xs) 0] 0)
def qov {R : Type} : List AV → (AV → Option R) → Option R := entF q4g q8r q4f
theorem qx1 {R : Type} : EntOkB Try.prog 83 (qov (R := R)) :=
  ent_mk tabOk follows Try.func83 (by kernel_rfl) q8q (fun z r h => by
 obtain ⟨h1, h2⟩ := cond_some h
 cases h2
 exact (fitTup_eq h1).symm) q6t (er_of (by kernel_rfl)) fun xs => q8p _
def qrp  (Ai : Bool) (Aj Ak Al : Int) (K : Ex → Env → Mem → Option Bool) := (fun z_v22 => K .norm (envOf [(1, (.ptr 0 0)), (22, (.bool z_v22))]) (memOf [(some (.box true (qb Ai Aj Ak Al)))]))
def qy1 : Shp := ⟨[(1, .one (.ptr 0 0))], [.box true (lk qe)]⟩
def qmv  (Ai : Bool) (Aj Ak Al : Int) (kn : Bool → Option Bool) : Option Bool :=
  (oB (qhn Ai Aj Ak) fun r1 => (bif (!r1) then (kn true) else (bif (decide (Al < (0 : Int))) then (kn true) else (oB (qgy Ai) fun r2 => (kn (decide (Al > r2)))))))
def qk0 := hull (qmv)
theorem qrq : qk0 = qmv := hull_eq _
def qjx : AC Bool :=
  .seq (.draw [] [ao 5 (.fa 0 1),
 ao 6 (.load true 3 5),
 .call (po 7 (.call 81 [6])) 81 qkd,
 ao 8 (.un .not 7),
 ao 9 (.mv 8),
 ag 10 9 false (.fa 3 1),
 ag 11 9 false (.load false 1 10),
 ag 12 9 false (.bin .lss 11 (.c (.int .i64 0))),
 ao 13 (.pick 9 (.c (.bool true)) 12),
 ao 14 (.mv 13),
 ag 15 14 false (.fa 3 1),
 ag 16 14 false (.load false 1 15),
 ag 17 14 false (.fa 0 1),
 ag 18 14 false (.fa 0 17),
 ag 19 14 false (.load false 1 18),
 .call (pg 20 14 false (.call 82 [19])) 82 qiz] [ag 21 14 false (.bin .gtr 16 20),
 ao 22 (.pick 14 (.c (.bool true)) 21)]) (.view [.sel [1, 22] [0]])
theorem qz7 : AC.ok Try.prog (TIof Try.prog) 48 0 (kret [.t 2] decB) qjx := ok_of (zA (EntOkB.ok qqb) (zA (EntOkB.ok qm7) (zA rfl trivial)))
theorem q1f (Ai : Bool) (Aj Ak Al : Int) (K : Ex → Env → Mem → Option Bool) : den 0 (kret [.t 2] decB) qjx (envOf [(1, (.ptr 0 0))]) (memOf [(some (.box true (qb Ai Aj Ak Al)))]) K = qk0 Ai Aj Ak Al (qrp Ai Aj Ak Al K) := by
  rw [qrq]; kernel_rfl
def qss := subE (R := Bool) qy1 fun t m K => qd (bxC (m.s 0)) (qk0) (qrp (gB (bxC (m.s 0)) 0) (gI (bxC (m.s 0)) 1) (gI (bxC (m.s 0)) 2) (gI (bxC (m.s 0)) 3) K)
theorem q1g : SubOk Try.prog (TIof Try.prog) 48 0 (kret [.t 2] decB) (scOf qjx) (qss) :=
  sub_mk tabOk follows (qz7) (er_of (by kernel_rfl)) fun t m K => q1f _ _ _ _ K
def q2t : Shp := ⟨[(0, .st (lk qe))], []⟩
def qqc (Aa : Bool) (Ab Ac Ad : Int) : Option Bool :=
  (qk0 Aa Ab Ac Ad (fun v22q1 => (bif v22q1 then (some false) else (oB (qgy Aa) fun r2 => (oB (qj6 (IntKind.i64.wrap (r2 - Ad))) fun r3 => (some (((ibits .and .u64 Ab r3.1) == (0 : Int)) && ((ibits .and .u64 Ac r3.2) == (0 : Int)))))))))
def qho := hull qqc
theorem qvk : qho = qqc := hull_eq _
def qqd : AC Bool :=
  .seq (.reg [ao 1 (.box 0),
 ao 2 (.mv (.c (.bool false)))]) (.seq (.seq (.seq (.view [.sel [1] [0]]) (.sub (scOf qjx) qss)) (.cond 22 (.seq (.reg [ao 2 (.mv (.c (.bool false)))]) (.ret)) (.skip))) (.seq (.draw [] [ao 24 (.fa 0 1),
 ao 25 (.fa 0 24),
 ao 26 (.load false 1 25),
 .call (po 27 (.call 82 [26])) 82 qiz,
 ao 28 (.fa 3 1),
 ao 29 (.load false 1 28),
 ao 30 (.bin .sub 27 29),
 .call (po 31 (.call 83 [30])) 83 qov,
 ao 23 (.mv 31),
 ao 32 (.ext 23 0),
 ao 33 (.ext 23 1),
 ao 3 (.mv 32)] [ao 4 (.mv 33)]) (.seq (.reg [ao 34 (.fa 0 1),
 ao 35 (.fa 1 34),
 ao 36 (.load false 1 35),
 ao 37 (.mv 3),
 ao 38 (.bin .and 36 37),
 ao 39 (.bin .eql 38 (.c (.int .u64 0))),
 ao 40 (.mv 39),
 .grp 40 true [(pg 41 40 true (.fa 0 1)), (pg 42 40 true (.fa 2 41)), (pg 43 40 true (.load false 1 42)), (pg 44 40 true (.mv 4)), (pg 45 40 true (.bin .and 43 44)), (pg 46 40 true (.bin .eql 45 (.c (.int .u64 0))))] 47 46,
 ao 2 (.mv 47)]) (.ret))))
theorem q4h : AC.ok Try.prog (TIof Try.prog) 48 0 (kret [.t 2] decB) qqd := ok_of (zA q1g (zA (EntOkB.ok qm7) (zA (EntOkB.ok qx1) (zA rfl trivial))))
theorem q6u (Aa : Bool) (Ab Ac Ad : Int) : den 0 (kret [.t 2] decB) qqd (envOf [(0, .agg (qb Aa Ab Ac Ad))]) (memOf []) (kend (kret [.t 2] decB)) = qho Aa Ab Ac Ad := by
  rw [qvk]; kernel_rfl
theorem q6v : cFn (TIof Try.prog) Try.f45 = some ⟨48, [.t 2], scOf qqd⟩ := by kernel_rfl
def q6w (xs : List AV) : Option Bool := qd ((entry xs) 0).cells (qho)
def qkf {R : Type} : List AV → (AV → Option R) → Option R := entF q2t q6w AV.bool
theorem qqe {R : Type} : EntOkB Try.prog 45 (qkf (R := R)) :=
  ent_mk tabOk follows Try.func45 (by kernel_rfl) q6v hdeB q4h (er_of (by kernel_rfl)) fun xs => q6u _ _ _ _
def q2u : Shp := ⟨[(0, .st (lk qe))], []⟩
def qqf (Aa : Bool) (Ab Ac Ad : Int) : Option Int :=
  (bif Aa then (some (128 : Int)) else (some (32 : Int)))
def qle := hull qqf
theorem qvl : qle = qqf := hull_eq _
def qqg : AC Int :=
  .seq (.reg [ao 1 (.box 0),
 ao 2 (.mv (.c (.int .i64 0)))]) (.seq (.seq (.reg [ao 3 (.fa 0 1),
 ao 4 (.fa 0 3),
 ao 5 (.load false 1 4)]) (.cond 5 (.seq (.reg [ao 2 (.mv (.c (.int .i64 128)))]) (.ret)) (.skip))) (.seq (.reg [ao 2 (.mv (.c (.int .i64 32)))]) (.ret)))
theorem q4i : AC.ok Try.prog (TIof Try.prog) 6 0 (kret [.t 2] (decI .i64)) qqg := ok_of trivial
theorem q6x (Aa : Bool) (Ab Ac Ad : Int) : den 0 (kret [.t 2] (decI .i64)) qqg (envOf [(0, .agg (qb Aa Ab Ac Ad))]) (memOf []) (kend (kret [.t 2] (decI .i64))) = qle Aa Ab Ac Ad := by
  rw [qvl]; kernel_rfl
theorem q6y : cFn (TIof Try.prog) Try.f84 = some ⟨6, [.t 2], scOf qqg⟩ := by kernel_rfl
def q6z (xs : List AV) : Option Int := qd ((entry xs) 0).cells (qle)
def qt4 {R : Type} : List AV → (AV → Option R) → Option R := entF q2u q6z (AV.int .i64)
theorem q60 {R : Type} : EntOkB Try.prog 84 (qt4 (R := R)) :=
  ent_mk tabOk follows Try.func84 (by kernel_rfl) q6y hdeI q4i (er_of (by kernel_rfl)) fun xs => q6x _ _ _ _
def qfi  (K : Ex → Env → Mem → Option Bool) := (fun (_ : Unit) => K (.exit 0) (envOf []) (memOf []))
def qwb : Shp := ⟨[(0, .one (.l .s)), (3, .one (.l (.i .i64)))], []⟩
def qjp (v0 : List UInt8) (v3 : Int) : Env := envOf [(0, (.str v0)), (3, (.int .i64 v3))]
def qjq (v0 : List UInt8) (v3 : Int) : Mem := memOf []
def qd0  (v0 : List UInt8) (v3 : Int) (next : Int → Option Bool) (kx0 : Unit → Option Bool) : Option Bool :=
  (bif (decide (v3 < (v0.length : Int))) then (oB (ixB v0 v3) fun c1 => (bif (decide ((c1.toNat : Int) < (33 : Int))) then (some false) else (oB (ixB v0 v3) fun c2 => (bif (decide ((c2.toNat : Int) > (126 : Int))) then (some false) else (next (IntKind.i64.wrap (v3 + (1 : Int)))))))) else (kx0 ()))
def qg7  (v0 : List UInt8) (kx0 : Unit → Option Bool) : Nat → Int → Option Bool
  | 0 => (fun _ => none)
  | n + 1 => (fun v3 => qd0 v0 v3 (qg7 v0 kx0 n) kx0)
def qim := hull (qg7)
theorem qn0 : qim = qg7 := hull_eq _
def qd1 : AC Bool :=
  .seq (.seq (.reg [ao 4 (.mv 3),
 ao 5 (.mv 0),
 ao 6 (.len true 5),
 ao 7 (.bin .lss 4 6)]) (.cond 7 (.skip) (.seq (.view [.sel [] []]) (.exit 0)))) (.seq (.block 1 (.seq (.reg [ao 10 (.mv 0),
 ao 11 (.mv 3),
 ao 12 (.ixs 10 11),
 ao 13 (.bin .lss 12 (.c (.int .u8 33))),
 ao 14 (.mv 13),
 ag 15 14 false (.mv 0),
 ag 16 14 false (.mv 3),
 ag 17 14 false (.ixs 15 16),
 ag 18 14 false (.bin .gtr 17 (.c (.int .u8 126))),
 ao 19 (.pick 14 (.c (.bool true)) 18)]) (.cond 19 (.seq (.reg [ao 2 (.mv (.c (.bool false)))]) (.ret)) (.skip)))) (.seq (.reg [ao 8 (.mv 3),
 ao 9 (.bin .add 8 (.c (.int .i64 1))),
 ao 3 (.mv 9)]) (.view [.sel [0, 3] []])))
theorem qws : AC.ok Try.prog (TIof Try.prog) 20 0 (kret [.t 2] decB) qd1 := ok_of trivial
theorem qwc (v0 : List UInt8) (v3 : Int) (K : Ex → Env → Mem → Option Bool) : den 0 (kret [.t 2] decB) qd1 (qjp v0 v3) (qjq v0 v3) K = qd0 v0 v3 (fun z_v3 => K .norm (qjp v0 z_v3) (qjq v0 z_v3)) (qfi K) := by kernel_rfl
theorem qxf (v0 : List UInt8) (K : Ex → Env → Mem → Option Bool) : ∀ (n : Nat) (v3 : Int), iterD (den 0 (kret [.t 2] decB) qd1) n (qjp v0 v3) (qjq v0 v3) K = qim v0 (qfi K) n v3 := by
  rw [qn0]
  intro n
  induction n with
  | zero => intros; rfl
  | succ n ih =>
 intro v3
 exact (qwc v0 v3 (itK (den 0 (kret [.t 2] decB) qd1) n K)).trans (congrArg (fun q => qd0 v0 v3 q (qfi K)) (funext fun v3 => ih v3))
def qop := subE (R := Bool) qwb fun t m K => qim (gS [t 0] 0) (qfi K) FU (gI [t 3] 0)
theorem qxg : SubOk Try.prog (TIof Try.prog) 20 0 (kret [.t 2] decB) (.loop (scOf qd1)) (qop) :=
  loop_mk tabOk follows (qws) (er_of (by kernel_rfl)) fun t m K => qxf _ K FU _
def qye : Shp := ⟨[(0, .one (.l .s))], []⟩
def qlz (v0 : List UInt8) : Option Bool :=
  (qim v0 (fun (_ : Unit) => (some true)) FU (0 : Int))
def qff := hull qlz
theorem qqx : qff = qlz := hull_eq _
def ql0 : AC Bool :=
  .seq (.reg [ao 2 (.mv (.c (.bool false)))]) (.seq (.seq (.reg [ao 3 (.mv (.c (.int .i64 0)))]) (.block 0 (.seq (.view [.sel [0, 3] []]) (.sub (.loop (scOf qd1)) qop)))) (.seq (.reg [ao 2 (.mv (.c (.bool true)))]) (.ret)))
theorem qy2 : AC.ok Try.prog (TIof Try.prog) 20 0 (kret [.t 2] decB) ql0 := ok_of (zA qxg trivial)
theorem qz8 (v0 : List UInt8) : den 0 (kret [.t 2] decB) ql0 (envOf [(0, (.str v0))]) (memOf []) (kend (kret [.t 2] decB)) = qff v0 := by
  rw [qqx]; kernel_rfl
theorem qz9 : cFn (TIof Try.prog) Try.f85 = some ⟨20, [.t 2], scOf ql0⟩ := by kernel_rfl
def q0a (xs : List AV) : Option Bool := qff (gS [(entry xs) 0] 0)
def qkt {R : Type} : List AV → (AV → Option R) → Option R := entF qye q0a AV.bool
theorem qrr {R : Type} : EntOkB Try.prog 85 (qkt (R := R)) :=
  ent_mk tabOk follows Try.func85 (by kernel_rfl) qz9 hdeB qy2 (er_of (by kernel_rfl)) fun xs => qz8 _
def qt5  (Ai : Bool) (Aj Ak Al Am : Int) (An Ao : List UInt8) (Ap : Int) (K : Ex → Env → Mem → Option Bool) := (fun z_v24 => K .norm (envOf [(1, (.ptr 0 0)), (24, (.bool z_v24))]) (memOf [(some (.box true (qc Ai Aj Ak Al Am An Ao Ap)))]))
def q1h : Shp := ⟨[(1, .one (.ptr 0 0))], [.box true (lk qa)]⟩
def qow  (Ai : Bool) (Aj Ak Al Am : Int) (An Ao : List UInt8) (Ap : Int) (kn : Bool → Option Bool) : Option Bool :=
  (bif (decide (Am < (1 : Int))) then (kn true) else (bif (decide (Am > (3 : Int))) then (kn true) else (bif (Am == (3 : Int)) then (oB (qle Ai Aj Ak Al) fun r1 => (kn (Al != r1))) else (kn false))))
def qm8 := hull (qow)
theorem qt6 : qm8 = qow := hull_eq _
def qk1 : AC Bool :=
  .seq (.draw [] [ao 3 (.fa 4 1),
 ao 4 (.load false 1 3),
 ao 5 (.bin .lss 4 (.c (.int .i64 1))),
 ao 6 (.mv 5),
 ag 7 6 false (.fa 4 1),
 ag 8 6 false (.load false 1 7),
 ag 9 6 false (.bin .gtr 8 (.c (.int .i64 3))),
 ao 10 (.pick 6 (.c (.bool true)) 9),
 ao 11 (.mv 10),
 ag 12 11 false (.fa 4 1),
 ag 13 11 false (.load false 1 12),
 ag 14 11 false (.bin .eql 13 (.c (.int .i64 3))),
 ag 15 11 false (.mv 14),
 ag 16 15 true (.fa 0 1),
 ag 17 15 true (.fa 3 16),
 ag 18 15 true (.load false 1 17),
 ag 19 15 true (.fa 0 1),
 ag 20 15 true (.load true 4 19),
 .call (pg 21 15 true (.call 84 [20])) 84 qt4] [ag 22 15 true (.bin .neq 18 21),
 ag 23 11 false (.pick 15 22 (.c (.bool false))),
 ao 24 (.pick 11 (.c (.bool true)) 23)]) (.view [.sel [1, 24] [0]])
theorem q2v : AC.ok Try.prog (TIof Try.prog) 61 0 (kret [.t 2] decB) qk1 := ok_of (zA (EntOkB.ok q60) (zA rfl trivial))
theorem q4j (Ai : Bool) (Aj Ak Al Am : Int) (An Ao : List UInt8) (Ap : Int) (K : Ex → Env → Mem → Option Bool) : den 0 (kret [.t 2] decB) qk1 (envOf [(1, (.ptr 0 0))]) (memOf [(some (.box true (qc Ai Aj Ak Al Am An Ao Ap)))]) K = qm8 Ai Aj Ak Al Am An Ao Ap (qt5 Ai Aj Ak Al Am An Ao Ap K) := by
  rw [qt6]; kernel_rfl
def qvm := subE (R := Bool) q1h fun t m K => qf (bxC (m.s 0)) (qm8) (qt5 (gB (bxC (m.s 0)) 0) (gI (bxC (m.s 0)) 1) (gI (bxC (m.s 0)) 2) (gI (bxC (m.s 0)) 3) (gI (bxC (m.s 0)) 4) (gS (bxC (m.s 0)) 5) (gS (bxC (m.s 0)) 6) (gI (bxC (m.s 0)) 7) K)
theorem q4k : SubOk Try.prog (TIof Try.prog) 61 0 (kret [.t 2] decB) (scOf qk1) (qvm) :=
  sub_mk tabOk follows (q2v) (er_of (by kernel_rfl)) fun t m K => q4j _ _ _ _ _ _ _ _ K
def q61 : Shp := ⟨[(0, .st (lk qa))], []⟩
def qtk (Aa : Bool) (Ab Ac Ad Ae : Int) (Af Ag : List UInt8) (Ah : Int) : Option Bool :=
  (qm8 Aa Ab Ac Ad Ae Af Ag Ah (fun v24q1 => (bif v24q1 then (some false) else (bif ((decide ((Af.length : Int) ≥ (1 : Int))) && (decide ((Af.length : Int) ≤ (63 : Int)))) then (oB (qff Af) fun r2 => (bif (r2 && (decide ((Ag.length : Int) ≤ (32 : Int)))) then (oB (qff Ag) fun r3 => (some ((r3 && (decide (Ah ≥ (0 : Int)))) && (decide (Ah ≤ (4294967295 : Int)))))) else (some false))) else (some false)))))
def qn1 := hull qtk
theorem qx2 : qn1 = qtk := hull_eq _
def qtl : AC Bool :=
  .seq (.reg [ao 1 (.box 0),
 ao 2 (.mv (.c (.bool false)))]) (.seq (.seq (.seq (.view [.sel [1] [0]]) (.sub (scOf qk1) qvm)) (.cond 24 (.seq (.reg [ao 2 (.mv (.c (.bool false)))]) (.ret)) (.skip))) (.seq (.reg [ao 25 (.fa 5 1),
 ao 26 (.load false 1 25),
 ao 27 (.len true 26),
 ao 28 (.bin .geq 27 (.c (.int .i64 1))),
 ao 29 (.mv 28),
 .grp 29 true [(pg 30 29 true (.fa 5 1)), (pg 31 29 true (.load false 1 30)), (pg 32 29 true (.len true 31)), (pg 33 29 true (.bin .leq 32 (.c (.int .i64 63))))] 34 33,
 ao 35 (.mv 34),
 ag 36 35 true (.fa 5 1),
 ag 37 35 true (.load false 1 36),
 .call (pg 38 35 true (.call 85 [37])) 85 qkt,
 ao 39 (.pick 35 38 (.c (.bool false))),
 ao 40 (.mv 39),
 .grp 40 true [(pg 41 40 true (.fa 6 1)), (pg 42 40 true (.load false 1 41)), (pg 43 40 true (.len true 42)), (pg 44 40 true (.bin .leq 43 (.c (.int .i64 32))))] 45 44,
 ao 46 (.mv 45),
 ag 47 46 true (.fa 6 1),
 ag 48 46 true (.load false 1 47),
 .call (pg 49 46 true (.call 85 [48])) 85 qkt,
 ao 50 (.pick 46 49 (.c (.bool false))),
 ao 51 (.mv 50),
 .grp 51 true [(pg 52 51 true (.fa 7 1)), (pg 53 51 true (.load false 1 52)), (pg 54 51 true (.bin .geq 53 (.c (.int .i64 0))))] 55 54,
 ao 56 (.mv 55),
 .grp 56 true [(pg 57 56 true (.fa 7 1)), (pg 58 56 true (.load false 1 57)), (pg 59 56 true (.bin .leq 58 (.c (.int .i64 4294967295))))] 60 59,
 ao 2 (.mv 60)]) (.ret)))
theorem q8s : AC.ok Try.prog (TIof Try.prog) 61 0 (kret [.t 2] decB) qtl := ok_of (zA q4k (zA (EntOkB.ok qrr) (zA (EntOkB.ok qrr) trivial)))
theorem qbam (Aa : Bool) (Ab Ac Ad Ae : Int) (Af Ag : List UInt8) (Ah : Int) : den 0 (kret [.t 2] decB) qtl (envOf [(0, .agg (qc Aa Ab Ac Ad Ae Af Ag Ah))]) (memOf []) (kend (kret [.t 2] decB)) = qn1 Aa Ab Ac Ad Ae Af Ag Ah := by
  rw [qx2]; kernel_rfl
theorem qban : cFn (TIof Try.prog) Try.f46 = some ⟨61, [.t 2], scOf qtl⟩ := by kernel_rfl
def qbao (xs : List AV) : Option Bool := qf ((entry xs) 0).cells (qn1)
def qwt {R : Type} : List AV → (AV → Option R) → Option R := entF q61 qbao AV.bool
theorem qbap {R : Type} : EntOkB Try.prog 46 (qwt (R := R)) :=
  ent_mk tabOk follows Try.func46 (by kernel_rfl) qban hdeB q8s (er_of (by kernel_rfl)) fun xs => qbam _ _ _ _ _ _ _ _
def q0b : Shp := ⟨[(0, .st (lk qcs)), (1, .st (lk qcs))], []⟩
def qn2 (Aa : Bool) (Ab Ac : Int) (Aq : Bool) (Ar As : Int) : Option Int :=
  (bif (!((Aa == Aq) && true)) then (bif Aq then (some (-1 : Int)) else (some (1 : Int))) else (bif (Ab != Ar) then (bif (decide (Ab < Ar)) then (some (-1 : Int)) else (some (1 : Int))) else (bif (decide (Ac < As)) then (some (-1 : Int)) else (bif (decide (Ac > As)) then (some (1 : Int)) else (some (0 : Int))))))
def qjr := hull qn2
theorem qst : qjr = qn2 := hull_eq _
def qn3 : AC Int :=
  .seq (.reg [ao 2 (.box 0),
 ao 3 (.box 1),
 ao 4 (.mv (.c (.int .i64 0)))]) (.seq (.seq (.reg [ao 5 (.fa 0 2),
 ao 6 (.load false 1 5),
 ao 7 (.fa 0 3),
 ao 8 (.load false 1 7),
 ao 9 (.eq true false [.b] 6 8)]) (.cond 9 (.seq (.seq (.reg [ao 10 (.fa 0 3),
 ao 11 (.load false 1 10)]) (.cond 11 (.seq (.reg [ao 4 (.mv (.c (.int .i64 (-1))))]) (.ret)) (.skip))) (.seq (.reg [ao 4 (.mv (.c (.int .i64 1)))]) (.ret))) (.skip))) (.seq (.seq (.reg [ao 12 (.fa 1 2),
 ao 13 (.load false 1 12),
 ao 14 (.fa 1 3),
 ao 15 (.load false 1 14),
 ao 16 (.bin .neq 13 15)]) (.cond 16 (.seq (.seq (.reg [ao 17 (.fa 1 2),
 ao 18 (.load false 1 17),
 ao 19 (.fa 1 3),
 ao 20 (.load false 1 19),
 ao 21 (.bin .lss 18 20)]) (.cond 21 (.seq (.reg [ao 4 (.mv (.c (.int .i64 (-1))))]) (.ret)) (.skip))) (.seq (.reg [ao 4 (.mv (.c (.int .i64 1)))]) (.ret))) (.skip))) (.seq (.seq (.reg [ao 22 (.fa 2 2),
 ao 23 (.load false 1 22),
 ao 24 (.fa 2 3),
 ao 25 (.load false 1 24),
 ao 26 (.bin .lss 23 25)]) (.cond 26 (.seq (.reg [ao 4 (.mv (.c (.int .i64 (-1))))]) (.ret)) (.skip))) (.seq (.seq (.reg [ao 27 (.fa 2 2),
 ao 28 (.load false 1 27),
 ao 29 (.fa 2 3),
 ao 30 (.load false 1 29),
 ao 31 (.bin .gtr 28 30)]) (.cond 31 (.seq (.reg [ao 4 (.mv (.c (.int .i64 1)))]) (.ret)) (.skip))) (.seq (.reg [ao 4 (.mv (.c (.int .i64 0)))]) (.ret))))))
theorem q1i : AC.ok Try.prog (TIof Try.prog) 32 0 (kret [.t 4] (decI .i64)) qn3 := ok_of trivial
theorem q2w (Aa : Bool) (Ab Ac : Int) (Aq : Bool) (Ar As : Int) : den 0 (kret [.t 4] (decI .i64)) qn3 (envOf [(0, .agg (qba Aa Ab Ac)), (1, .agg (qba Aq Ar As))]) (memOf []) (kend (kret [.t 4] (decI .i64))) = qjr Aa Ab Ac Aq Ar As := by
  rw [qst]; kernel_rfl
theorem q2x : cFn (TIof Try.prog) Try.f86 = some ⟨32, [.t 4], scOf qn3⟩ := by kernel_rfl
def q2y (xs : List AV) : Option Int := qb0 ((entry xs) 1).cells (qb0 ((entry xs) 0).cells (qjr))
def qrs {R : Type} : List AV → (AV → Option R) → Option R := entF q0b q2y (AV.int .i64)
theorem q2z {R : Type} : EntOkB Try.prog 86 (qrs (R := R)) :=
  ent_mk tabOk follows Try.func86 (by kernel_rfl) q2x hdeI q1i (er_of (by kernel_rfl)) fun xs => q2w _ _ _ _ _ _
def q0c : Shp := ⟨[(0, .st (lk qe)), (1, .st (lk qe))], []⟩
def qn4 (Aa : Bool) (Ab Ac Ad : Int) (Aq : Bool) (Ar As At : Int) : Option Int :=
  (oB (qjr Aa Ab Ac Aq Ar As) fun r1 => (bif (r1 != (0 : Int)) then (some r1) else (bif (decide (Ad < At)) then (some (-1 : Int)) else (bif (decide (Ad > At)) then (some (1 : Int)) else (some (0 : Int))))))
def qjs := hull qn4
theorem qsu : qjs = qn4 := hull_eq _
def qn5 : AC Int :=
  .seq (.reg [ao 2 (.box 0),
 ao 3 (.box 1),
 ao 4 (.mv (.c (.int .i64 0)))]) (.seq (.reg [ao 6 (.fa 0 2),
 ao 7 (.load true 3 6),
 ao 8 (.fa 0 3),
 ao 9 (.load true 3 8),
 .call (po 10 (.call 86 [7, 9])) 86 qrs,
 ao 5 (.mv 10)]) (.seq (.seq (.reg [ao 11 (.mv 5),
 ao 12 (.bin .neq 11 (.c (.int .i64 0)))]) (.cond 12 (.seq (.reg [ao 13 (.mv 5),
 ao 4 (.mv 13)]) (.ret)) (.skip))) (.seq (.seq (.reg [ao 14 (.fa 3 2),
 ao 15 (.load false 1 14),
 ao 16 (.fa 3 3),
 ao 17 (.load false 1 16),
 ao 18 (.bin .lss 15 17)]) (.cond 18 (.seq (.reg [ao 4 (.mv (.c (.int .i64 (-1))))]) (.ret)) (.skip))) (.seq (.seq (.reg [ao 19 (.fa 3 2),
 ao 20 (.load false 1 19),
 ao 21 (.fa 3 3),
 ao 22 (.load false 1 21),
 ao 23 (.bin .gtr 20 22)]) (.cond 23 (.seq (.reg [ao 4 (.mv (.c (.int .i64 1)))]) (.ret)) (.skip))) (.seq (.reg [ao 4 (.mv (.c (.int .i64 0)))]) (.ret))))))
theorem q1j : AC.ok Try.prog (TIof Try.prog) 24 0 (kret [.t 4] (decI .i64)) qn5 := ok_of (zA (EntOkB.ok q2z) trivial)
theorem q20 (Aa : Bool) (Ab Ac Ad : Int) (Aq : Bool) (Ar As At : Int) : den 0 (kret [.t 4] (decI .i64)) qn5 (envOf [(0, .agg (qb Aa Ab Ac Ad)), (1, .agg (qb Aq Ar As At))]) (memOf []) (kend (kret [.t 4] (decI .i64))) = qjs Aa Ab Ac Ad Aq Ar As At := by
  rw [qsu]; kernel_rfl
theorem q21 : cFn (TIof Try.prog) Try.f47 = some ⟨24, [.t 4], scOf qn5⟩ := by kernel_rfl
def q23 (xs : List AV) : Option Int := qd ((entry xs) 1).cells (qd ((entry xs) 0).cells (qjs))
def qrt {R : Type} : List AV → (AV → Option R) → Option R := entF q0c q23 (AV.int .i64)
theorem q24 {R : Type} : EntOkB Try.prog 47 (qrt (R := R)) :=
  ent_mk tabOk follows Try.func47 (by kernel_rfl) q21 hdeI q1j (er_of (by kernel_rfl)) fun xs => q20 _ _ _ _ _ _ _ _
def qin (z : AV) : Option (AV × Bool) := cond (fitTup [(.st [.b, (.i .u64), (.i .u64), (.i .i64)]), (.one .b)] z) (some ((gC (tpL z) 0), aB (gC (tpL z) 1))) none
def q8t (r : AV × Bool) : AV := .tup [etaRV (.st [.b, (.i .u64), (.i .u64), (.i .i64)]) r.1, .bool r.2]
def qvn  (v1 : Int) (Ai : Bool) (Aj Ak : Int) (Au : Bool) (Av Aw Ax : Int) (K : Ex → Env → Mem → Option (AV × Bool)) := (fun z_v22 => K .norm (envOf [(1, (.int .i64 v1)), (2, (.ptr 0 0)), (4, (.ptr 1 0)), (22, (.bool z_v22))]) (memOf [(some (.box true (qba Ai Aj Ak))), (some (.box true (qb Au Av Aw Ax)))]))
def q25 : Shp := ⟨[(1, .one (.l (.i .i64))), (2, .one (.ptr 0 0)), (4, .one (.ptr 1 0))], [.box true (lk qcs), .box true (lk qe)]⟩
def qqh  (v1 : Int) (Ai : Bool) (Aj Ak : Int) (Au : Bool) (Av Aw Ax : Int) (kn : Bool → Option (AV × Bool)) : Option (AV × Bool) :=
  (oB (qhn Ai Aj Ak) fun r1 => (bif ((!r1) || (decide (v1 < (0 : Int)))) then (kn true) else (oB (qgy Ai) fun r2 => (kn (decide (v1 > r2))))))
def qoj := hull (qqh)
theorem qvo : qoj = qqh := hull_eq _
def ql1 : AC (AV × Bool) :=
  .seq (.reg [ao 9 (.load true 3 2),
 .call (po 10 (.call 81 [9])) 81 qkd,
 ao 11 (.un .not 10),
 ao 12 (.mv 11),
 .grp 12 false [(pg 13 12 false (.mv 1)), (pg 14 12 false (.bin .lss 13 (.c (.int .i64 0))))] 15 14,
 ao 16 (.mv 15),
 ag 17 16 false (.mv 1),
 ag 18 16 false (.fa 0 2),
 ag 19 16 false (.load false 1 18),
 .call (pg 20 16 false (.call 82 [19])) 82 qiz,
 ag 21 16 false (.bin .gtr 17 20),
 ao 22 (.pick 16 (.c (.bool true)) 21)]) (.view [.sel [1, 2, 4, 22] [0, 1]])
theorem q4l : AC.ok Try.prog (TIof Try.prog) 53 0 (kret [(.cell 4 true 4), .t 5] qin) ql1 := ok_of (zA (EntOkB.ok qqb) (zA (EntOkB.ok qm7) trivial))
theorem q62 (v1 : Int) (Ai : Bool) (Aj Ak : Int) (Au : Bool) (Av Aw Ax : Int) (K : Ex → Env → Mem → Option (AV × Bool)) : den 0 (kret [(.cell 4 true 4), .t 5] qin) ql1 (envOf [(1, (.int .i64 v1)), (2, (.ptr 0 0)), (4, (.ptr 1 0))]) (memOf [(some (.box true (qba Ai Aj Ak))), (some (.box true (qb Au Av Aw Ax)))]) K = qoj v1 Ai Aj Ak Au Av Aw Ax (qvn v1 Ai Aj Ak Au Av Aw Ax K) := by
  rw [qvo]; kernel_rfl
def qwu := subE (R := AV × Bool) q25 fun t m K => qd (bxC (m.s 1)) (qb0 (bxC (m.s 0)) (qoj (gI [t 1] 0))) (qvn (gI [t 1] 0) (gB (bxC (m.s 0)) 0) (gI (bxC (m.s 0)) 1) (gI (bxC (m.s 0)) 2) (gB (bxC (m.s 1)) 0) (gI (bxC (m.s 1)) 1) (gI (bxC (m.s 1)) 2) (gI (bxC (m.s 1)) 3) K)
theorem q63 : SubOk Try.prog (TIof Try.prog) 53 0 (kret [(.cell 4 true 4), .t 5] qin) (scOf ql1) (qwu) :=
  sub_mk tabOk follows (q4l) (er_of (by kernel_rfl)) fun t m K => q62 _ _ _ _ _ _ _ _ K
def q8u : Shp := ⟨[(0, .st (lk qcs)), (1, .one (.l (.i .i64)))], []⟩
def quw (Aa : Bool) (Ab Ac v1 : Int) : Option (AV × Bool) :=
  (qoj v1 Aa Ab Ac false (0 : Int) (0 : Int) (0 : Int) (fun v22q1 => (bif v22q1 then (some ((.agg [(.bool false), (.int .u64 (0 : Int)), (.int .u64 (0 : Int)), (.int .i64 (0 : Int))]), false)) else (oB (qgy Aa) fun r2 => (oB (qj6 (IntKind.i64.wrap (r2 - v1))) fun r3 => (some ((.agg [(.bool Aa), (.int .u64 (IntKind.u64.wrap (Ab - (ibits .and .u64 Ab r3.1)))), (.int .u64 (IntKind.u64.wrap (Ac - (ibits .and .u64 Ac r3.2)))), (.int .i64 v1)]), true)))))))
def qpi := hull quw
theorem qy3 : qpi = quw := hull_eq _
def qux : AC (AV × Bool) :=
  .seq (.reg [ao 2 (.box 0),
 ao 4 (.alloc [(.bool false), (.int .u64 0), (.int .u64 0), (.int .i64 0)]),
 ao 5 (.mv (.c (.bool false)))]) (.seq (.seq (.seq (.view [.sel [1, 2, 4] [0, 1]]) (.sub (scOf ql1) qwu)) (.cond 22 (.seq (.reg [ao 23 (.build [(.bool false), (.int .u64 0), (.int .u64 0), (.int .i64 0)] []),
 an (.store 4 4 23),
 ao 5 (.mv (.c (.bool false)))]) (.ret)) (.skip))) (.seq (.reg [ao 25 (.fa 0 2),
 ao 26 (.load false 1 25),
 .call (po 27 (.call 82 [26])) 82 qiz,
 ao 28 (.mv 1),
 ao 29 (.bin .sub 27 28),
 .call (po 30 (.call 83 [29])) 83 qov,
 ao 24 (.mv 30),
 ao 31 (.ext 24 0),
 ao 32 (.ext 24 1),
 ao 6 (.mv 31),
 ao 7 (.mv 32)]) (.seq (.reg [ao 33 (.fa 0 2),
 ao 34 (.load false 1 33),
 ao 35 (.fa 1 2),
 ao 36 (.load false 1 35),
 ao 37 (.fa 1 2),
 ao 38 (.load false 1 37),
 ao 39 (.mv 6),
 ao 40 (.bin .and 38 39),
 ao 41 (.bin .sub 36 40),
 ao 42 (.fa 2 2),
 ao 43 (.load false 1 42),
 ao 44 (.fa 2 2),
 ao 45 (.load false 1 44),
 ao 46 (.mv 7),
 ao 47 (.bin .and 45 46),
 ao 48 (.bin .sub 43 47),
 ao 49 (.build [(.bool false), (.int .u64 0), (.int .u64 0)] [(0, (1, 34)), (1, (1, 41)), (2, (1, 48))]),
 ao 8 (.alloc [(.bool false), (.int .u64 0), (.int .u64 0)]),
 an (.store 3 8 49)]) (.seq (.reg [ao 50 (.load true 3 8),
 ao 51 (.mv 1),
 ao 52 (.build [(.bool false), (.int .u64 0), (.int .u64 0), (.int .i64 0)] [(0, (3, 50)), (3, (1, 51))]),
 an (.store 4 4 52),
 ao 5 (.mv (.c (.bool true)))]) (.ret)))))
theorem qbaq : AC.ok Try.prog (TIof Try.prog) 53 0 (kret [(.cell 4 true 4), .t 5] qin) qux := ok_of (zA q63 (zA (EntOkB.ok qm7) (zA (EntOkB.ok qx1) trivial)))
theorem qbbh (Aa : Bool) (Ab Ac v1 : Int) : den 0 (kret [(.cell 4 true 4), .t 5] qin) qux (envOf [(0, .agg (qba Aa Ab Ac)), (1, (.int .i64 v1))]) (memOf []) (kend (kret [(.cell 4 true 4), .t 5] qin)) = qpi Aa Ab Ac v1 := by
  rw [qy3]; kernel_rfl
theorem qbbi : cFn (TIof Try.prog) Try.f99 = some ⟨53, [(.cell 4 true 4), .t 5], scOf qux⟩ := by kernel_rfl
def qbbj (xs : List AV) : Option (AV × Bool) := qb0 ((entry xs) 0).cells (qpi) (gI [(entry xs) 1] 0)
def qx3 {R : Type} : List AV → (AV → Option R) → Option R := entF q8u qbbj q8t
theorem qbbk {R : Type} : EntOkB Try.prog 99 (qx3 (R := R)) :=
  ent_mk tabOk follows Try.func99 (by kernel_rfl) qbbi (fun z r h => by
 obtain ⟨h1, h2⟩ := cond_some h
 cases h2
 exact (fitTup_eq h1).symm) qbaq (er_of (by kernel_rfl)) fun xs => qbbh _ _ _ _
def qoq  (Ai : Bool) (Aj Ak Al : Int) (Au : Bool) (Av Aw : Int) (K : Ex → Env → Mem → Option Bool) := (fun z_v22 => K .norm (envOf [(2, (.ptr 0 0)), (3, (.ptr 1 0)), (22, (.bool z_v22))]) (memOf [(some (.box true (qb Ai Aj Ak Al))), (some (.box true (qba Au Av Aw)))]))
def qwv : Shp := ⟨[(2, .one (.ptr 0 0)), (3, .one (.ptr 1 0))], [.box true (lk qe), .box true (lk qcs)]⟩
def qku  (Ai : Bool) (Aj Ak Al : Int) (Au : Bool) (Av Aw : Int) (kn : Bool → Option Bool) : Option Bool :=
  (oB (qho Ai Aj Ak Al) fun r1 => (bif (!r1) then (kn true) else (oB (qhn Au Av Aw) fun r2 => (kn ((!r2) || (!((Ai == Au) && true)))))))
def qja := hull (qku)
theorem qor : qja = qku := hull_eq _
def qh0 : AC Bool :=
  .seq (.reg [ao 7 (.load true 4 2),
 .call (po 8 (.call 45 [7])) 45 qkf,
 ao 9 (.un .not 8),
 ao 10 (.mv 9),
 ag 11 10 false (.load true 3 3),
 .call (pg 12 10 false (.call 81 [11])) 81 qkd,
 ag 13 10 false (.un .not 12),
 ao 14 (.pick 10 (.c (.bool true)) 13),
 ao 15 (.mv 14),
 .grp 15 false [(pg 16 15 false (.fa 0 2)), (pg 17 15 false (.fa 0 16)), (pg 18 15 false (.load false 1 17)), (pg 19 15 false (.fa 0 3)), (pg 20 15 false (.load false 1 19)), (pg 21 15 false (.eq true false [.b] 18 20))] 22 21]) (.view [.sel [2, 3, 22] [0, 1]])
theorem qxh : AC.ok Try.prog (TIof Try.prog) 33 0 (kret [.t 4] decB) qh0 := ok_of (zA (EntOkB.ok qqe) (zA (EntOkB.ok qqb) trivial))
theorem qyf (Ai : Bool) (Aj Ak Al : Int) (Au : Bool) (Av Aw : Int) (K : Ex → Env → Mem → Option Bool) : den 0 (kret [.t 4] decB) qh0 (envOf [(2, (.ptr 0 0)), (3, (.ptr 1 0))]) (memOf [(some (.box true (qb Ai Aj Ak Al))), (some (.box true (qba Au Av Aw)))]) K = qja Ai Aj Ak Al Au Av Aw (qoq Ai Aj Ak Al Au Av Aw K) := by
  rw [qor]; kernel_rfl
def qpj := subE (R := Bool) qwv fun t m K => qb0 (bxC (m.s 1)) (qd (bxC (m.s 0)) (qja)) (qoq (gB (bxC (m.s 0)) 0) (gI (bxC (m.s 0)) 1) (gI (bxC (m.s 0)) 2) (gI (bxC (m.s 0)) 3) (gB (bxC (m.s 1)) 0) (gI (bxC (m.s 1)) 1) (gI (bxC (m.s 1)) 2) K)
theorem qyg : SubOk Try.prog (TIof Try.prog) 33 0 (kret [.t 4] decB) (scOf qh0) (qpj) :=
  sub_mk tabOk follows (qxh) (er_of (by kernel_rfl)) fun t m K => qyf _ _ _ _ _ _ _ K
def qy4 : Shp := ⟨[(0, .st (lk qe)), (1, .st (lk qcs))], []⟩
def qmw (Aa : Bool) (Ab Ac Ad : Int) (Aq : Bool) (Ar As : Int) : Option Bool :=
  (qja Aa Ab Ac Ad Aq Ar As (fun v22q1 => (bif v22q1 then (some false) else (oB (qpi Aq Ar As Ad) fun r2 => (some (((gB r2.1.cells 0) == Aa) && (((gI r2.1.cells 1) == Ab) && (((gI r2.1.cells 2) == Ac) && (((gI r2.1.cells 3) == Ad) && true)))))))))
def qi0 := hull qmw
theorem qru : qi0 = qmw := hull_eq _
def qmx : AC Bool :=
  .seq (.reg [ao 2 (.box 0),
 ao 3 (.box 1),
 ao 4 (.mv (.c (.bool false)))]) (.seq (.seq (.seq (.view [.sel [2, 3] [0, 1]]) (.sub (scOf qh0) qpj)) (.cond 22 (.seq (.reg [ao 4 (.mv (.c (.bool false)))]) (.ret)) (.skip))) (.seq (.reg [ao 24 (.load true 3 3),
 ao 25 (.fa 3 2),
 ao 26 (.load false 1 25),
 .call (po 27 (.call 99 [24, 26])) 99 qx3,
 ao 23 (.mv 27),
 ao 28 (.ext 23 0),
 ao 29 (.ext 23 1),
 ao 5 (.alloc [(.bool false), (.int .u64 0), (.int .u64 0), (.int .i64 0)]),
 an (.store 4 5 28),
 ao 6 (.mv 29)]) (.seq (.reg [ao 30 (.load true 4 5),
 ao 31 (.load true 4 2),
 ao 32 (.eq false true [.b, (.i .u64), (.i .u64), (.i .i64)] 30 31),
 ao 4 (.mv 32)]) (.ret))))
theorem q0d : AC.ok Try.prog (TIof Try.prog) 33 0 (kret [.t 4] decB) qmx := ok_of (zA qyg (zA (EntOkB.ok qbbk) trivial))
theorem q1k (Aa : Bool) (Ab Ac Ad : Int) (Aq : Bool) (Ar As : Int) : den 0 (kret [.t 4] decB) qmx (envOf [(0, .agg (qb Aa Ab Ac Ad)), (1, .agg (qba Aq Ar As))]) (memOf []) (kend (kret [.t 4] decB)) = qi0 Aa Ab Ac Ad Aq Ar As := by
  rw [qru]; kernel_rfl
theorem q1l : cFn (TIof Try.prog) Try.f66 = some ⟨33, [.t 4], scOf qmx⟩ := by kernel_rfl
def q1m (xs : List AV) : Option Bool := qb0 ((entry xs) 1).cells (qd ((entry xs) 0).cells (qi0))
def qqy {R : Type} : List AV → (AV → Option R) → Option R := entF qy4 q1m AV.bool
theorem q1n {R : Type} : EntOkB Try.prog 66 (qqy (R := R)) :=
  ent_mk tabOk follows Try.func66 (by kernel_rfl) q1l hdeB q0d (er_of (by kernel_rfl)) fun xs => q1k _ _ _ _ _ _ _
def q1o : Shp := ⟨[(0, .st (lk qe)), (1, .st (lk qe))], []⟩
def qox (Aa : Bool) (Ab Ac Ad : Int) (Aq : Bool) (Ar As At : Int) : Option Bool :=
  (oB (qho Aa Ab Ac Ad) fun r1 => (bif (r1 && (decide (Ad ≥ At))) then (oB (qi0 Aq Ar As At Aa Ab Ac) fun r2 => (some r2)) else (some false)))
def qkg := hull qox
theorem qt7 : qkg = qox := hull_eq _
def qoy : AC Bool :=
  .seq (.reg [ao 2 (.box 0),
 ao 3 (.box 1),
 ao 4 (.mv (.c (.bool false)))]) (.seq (.reg [ao 5 (.load true 4 2),
 .call (po 6 (.call 45 [5])) 45 qkf,
 ao 7 (.mv 6),
 .grp 7 true [(pg 8 7 true (.fa 3 2)), (pg 9 7 true (.load false 1 8)), (pg 10 7 true (.fa 3 3)), (pg 11 7 true (.load false 1 10)), (pg 12 7 true (.bin .geq 9 11))] 13 12,
 ao 14 (.mv 13),
 ag 15 14 true (.load true 4 3),
 ag 16 14 true (.fa 0 2),
 ag 17 14 true (.load true 3 16),
 .call (pg 18 14 true (.call 66 [15, 17])) 66 qqy,
 ao 19 (.pick 14 18 (.c (.bool false))),
 ao 4 (.mv 19)]) (.ret))
theorem q26 : AC.ok Try.prog (TIof Try.prog) 20 0 (kret [.t 4] decB) qoy := ok_of (zA (EntOkB.ok qqe) (zA (EntOkB.ok q1n) trivial))
theorem q4m (Aa : Bool) (Ab Ac Ad : Int) (Aq : Bool) (Ar As At : Int) : den 0 (kret [.t 4] decB) qoy (envOf [(0, .agg (qb Aa Ab Ac Ad)), (1, .agg (qb Aq Ar As At))]) (memOf []) (kend (kret [.t 4] decB)) = qkg Aa Ab Ac Ad Aq Ar As At := by
  rw [qt7]; kernel_rfl
theorem q4n : cFn (TIof Try.prog) Try.f94 = some ⟨20, [.t 4], scOf qoy⟩ := by kernel_rfl
def q4o (xs : List AV) : Option Bool := qd ((entry xs) 1).cells (qd ((entry xs) 0).cells (qkg))
def qsv {R : Type} : List AV → (AV → Option R) → Option R := entF q1o q4o AV.bool
theorem q4p {R : Type} : EntOkB Try.prog 94 (qsv (R := R)) :=
  ent_mk tabOk follows Try.func94 (by kernel_rfl) q4n hdeB q26 (er_of (by kernel_rfl)) fun xs => q4m _ _ _ _ _ _ _ _
def q8v : Shp := ⟨[(0, .st (lk qe)), (1, .st (lk qe))], []⟩
def quy (Aa : Bool) (Ab Ac Ad : Int) (Aq : Bool) (Ar As At : Int) : Option Bool :=
  (oB (qkg Aa Ab Ac Ad Aq Ar As At) fun r1 => (some (r1 && (decide (Ad > At)))))
def qtr := hull quy
theorem qy5 : qtr = quy := hull_eq _
def quz : AC Bool :=
  .seq (.reg [ao 2 (.box 0),
 ao 3 (.box 1),
 ao 4 (.mv (.c (.bool false)))]) (.seq (.reg [ao 5 (.load true 4 2),
 ao 6 (.load true 4 3),
 .call (po 7 (.call 94 [5, 6])) 94 qsv,
 ao 8 (.mv 7),
 .grp 8 true [(pg 9 8 true (.fa 3 2)), (pg 10 8 true (.load false 1 9)), (pg 11 8 true (.fa 3 3)), (pg 12 8 true (.load false 1 11)), (pg 13 8 true (.bin .gtr 10 12))] 14 13,
 ao 4 (.mv 14)]) (.ret))
theorem qbar : AC.ok Try.prog (TIof Try.prog) 15 0 (kret [.t 4] decB) quz := ok_of (zA (EntOkB.ok q4p) trivial)
theorem qbbl (Aa : Bool) (Ab Ac Ad : Int) (Aq : Bool) (Ar As At : Int) : den 0 (kret [.t 4] decB) quz (envOf [(0, .agg (qb Aa Ab Ac Ad)), (1, .agg (qb Aq Ar As At))]) (memOf []) (kend (kret [.t 4] decB)) = qtr Aa Ab Ac Ad Aq Ar As At := by
  rw [qy5]; kernel_rfl
theorem qbbm : cFn (TIof Try.prog) Try.f54 = some ⟨15, [.t 4], scOf quz⟩ := by kernel_rfl
def qbbn (xs : List AV) : Option Bool := qd ((entry xs) 1).cells (qd ((entry xs) 0).cells (qtr))
def qx4 {R : Type} : List AV → (AV → Option R) → Option R := entF q8v qbbn AV.bool
theorem qbbo {R : Type} : EntOkB Try.prog 54 (qx4 (R := R)) :=
  ent_mk tabOk follows Try.func54 (by kernel_rfl) qbbm hdeB qbar (er_of (by kernel_rfl)) fun xs => qbbl _ _ _ _ _ _ _ _
def q1p : Shp := ⟨[(0, .st (lk qa)), (1, .st (lk qa))], []⟩
def qoz (Aa : Bool) (Ab Ac Ad Ae : Int) (Af Ag : List UInt8) (Ah : Int) (Aq : Bool) (Ar As At Ay : Int) (Az A0 : List UInt8) (A1 : Int) : Option Bool :=
  (oB (qtr Aa Ab Ac Ad Aq Ar As At) fun r1 => (bif r1 then (bif (Ay == (3 : Int)) then (some true) else (bif (Ay == (2 : Int)) then (some (Ae != (3 : Int))) else (some false))) else (some false)))
def qkh := hull qoz
theorem qt8 : qkh = qoz := hull_eq _
def qo0 : AC Bool :=
  .seq (.reg [ao 2 (.box 0),
 ao 3 (.box 1),
 ao 4 (.mv (.c (.bool false)))]) (.seq (.reg [ao 5 (.fa 0 2),
 ao 6 (.load true 4 5),
 ao 7 (.fa 0 3),
 ao 8 (.load true 4 7),
 .call (po 9 (.call 54 [6, 8])) 54 qx4,
 ao 10 (.mv 9),
 ag 11 10 true (.fa 4 3),
 ag 12 10 true (.load false 1 11),
 ag 13 10 true (.bin .eql 12 (.c (.int .i64 3))),
 ag 14 10 true (.mv 13),
 ag 15 14 false (.fa 4 3),
 ag 16 14 false (.load false 1 15),
 ag 17 14 false (.bin .eql 16 (.c (.int .i64 2))),
 ag 18 14 false (.mv 17),
 ag 19 18 true (.fa 4 2),
 ag 20 18 true (.load false 1 19),
 ag 21 18 true (.bin .neq 20 (.c (.int .i64 3))),
 ag 22 14 false (.pick 18 21 (.c (.bool false))),
 ag 23 10 true (.pick 14 (.c (.bool true)) 22),
 ao 24 (.pick 10 23 (.c (.bool false))),
 ao 4 (.mv 24)]) (.ret))
theorem q27 : AC.ok Try.prog (TIof Try.prog) 25 0 (kret [.t 4] decB) qo0 := ok_of (zA (EntOkB.ok qbbo) trivial)
theorem q4q (Aa : Bool) (Ab Ac Ad Ae : Int) (Af Ag : List UInt8) (Ah : Int) (Aq : Bool) (Ar As At Ay : Int) (Az A0 : List UInt8) (A1 : Int) : den 0 (kret [.t 4] decB) qo0 (envOf [(0, .agg (qc Aa Ab Ac Ad Ae Af Ag Ah)), (1, .agg (qc Aq Ar As At Ay Az A0 A1))]) (memOf []) (kend (kret [.t 4] decB)) = qkh Aa Ab Ac Ad Ae Af Ag Ah Aq Ar As At Ay Az A0 A1 := by
  rw [qt8]; kernel_rfl
theorem q4r : cFn (TIof Try.prog) Try.f48 = some ⟨25, [.t 4], scOf qo0⟩ := by kernel_rfl
def q4s (xs : List AV) : Option Bool := qf ((entry xs) 1).cells (qf ((entry xs) 0).cells (qkh))
def qsw {R : Type} : List AV → (AV → Option R) → Option R := entF q1p q4s AV.bool
theorem q4t {R : Type} : EntOkB Try.prog 48 (qsw (R := R)) :=
  ent_mk tabOk follows Try.func48 (by kernel_rfl) q4r hdeB q27 (er_of (by kernel_rfl)) fun xs => q4q _ _ _ _ _ _ _ _ _ _ _ _ _ _ _ _
def qqz  (v0 : List AV) (v3 : Int) (K : Ex → Env → Mem → Option Int) := (fun z_v43 => K .norm (envOf [(0, (.sl 8 v0)), (3, (.int .i64 v3)), (43, (.bool z_v43))]) (memOf []))
def qyh : Shp := ⟨[(0, .one (.l (.sl 8))), (3, .one (.l (.i .i64)))], []⟩
def ql2  (v0 : List AV) (v3 : Int) (kn : Bool → Option Int) : Option Int :=
  (bif (decide (v3 > (0 : Int))) then (oB (ixB v0 (IntKind.i64.wrap (v3 - (1 : Int)))) fun y1 => (bif fitC qa y1.cells then (oB (ixB v0 v3) fun y2 => (bif fitC qa y2.cells then (oB (qjs (gB y1.cells 0) (gI y1.cells 1) (gI y1.cells 2) (gI y1.cells 3) (gB y2.cells 0) (gI y2.cells 1) (gI y2.cells 2) (gI y2.cells 3)) fun r3 => (kn (decide (r3 > (0 : Int))))) else none)) else none)) else (kn false))
def qki := hull (ql2)
theorem qq0 : qki = ql2 := hull_eq _
def qjb : AC Int :=
  .seq (.draw [] [ao 27 (.mv 3),
 ao 28 (.bin .gtr 27 (.c (.int .i64 0))),
 ao 29 (.mv 28),
 ag 30 29 true (.mv 0),
 ag 31 29 true (.mv 3),
 ag 32 29 true (.bin .sub 31 (.c (.int .i64 1))),
 ag 33 29 true (.ia 8 30 32),
 .et 33 qa,
 ag 34 29 true (.fa 0 33),
 ag 35 29 true (.load true 4 34),
 ag 36 29 true (.mv 0),
 ag 37 29 true (.mv 3),
 ag 38 29 true (.ia 8 36 37),
 .et 38 qa,
 ag 39 29 true (.fa 0 38),
 ag 40 29 true (.load true 4 39)] [.call (pg 41 29 true (.call 47 [35, 40])) 47 qrt,
 ag 42 29 true (.bin .gtr 41 (.c (.int .i64 0))),
 ao 43 (.pick 29 42 (.c (.bool false)))]) (.view [.sel [0, 3, 43] []])
theorem qy6 : AC.ok Try.prog (TIof Try.prog) 74 0 (kret [.t 2] (decI .i64)) qjb := ok_of (zA (EntOkB.ok q24) (zA rfl trivial))
theorem q0e (v0 : List AV) (v3 : Int) (K : Ex → Env → Mem → Option Int) : den 0 (kret [.t 2] (decI .i64)) qjb (envOf [(0, (.sl 8 v0)), (3, (.int .i64 v3))]) (memOf []) K = qki v0 v3 (qqz v0 v3 K) := by
  rw [qq0]; kernel_rfl
def qrv := subE (R := Int) qyh fun t m K => qki (gL [t 0] 0) (gI [t 3] 0) (qqz (gL [t 0] 0) (gI [t 3] 0) K)
theorem q0f : SubOk Try.prog (TIof Try.prog) 74 0 (kret [.t 2] (decI .i64)) (scOf qjb) (qrv) :=
  sub_mk tabOk follows (qy6) (er_of (by kernel_rfl)) fun t m K => q0e _ _ K
def qq1  (v0 : List AV) (v3 : Int) (K : Ex → Env → Mem → Option Int) := (fun z_v59 => K .norm (envOf [(0, (.sl 8 v0)), (3, (.int .i64 v3)), (59, (.bool z_v59))]) (memOf []))
def qyi : Shp := ⟨[(0, .one (.l (.sl 8))), (3, .one (.l (.i .i64)))], []⟩
def ql3  (v0 : List AV) (v3 : Int) (kn : Bool → Option Int) : Option Int :=
  (bif (decide (v3 > (0 : Int))) then (oB (ixB v0 (IntKind.i64.wrap (v3 - (1 : Int)))) fun y1 => (bif fitC qa y1.cells then (oB (ixB v0 v3) fun y2 => (bif fitC qa y2.cells then (kn (((gB y1.cells 0) == (gB y2.cells 0)) && (((gI y1.cells 1) == (gI y2.cells 1)) && (((gI y1.cells 2) == (gI y2.cells 2)) && (((gI y1.cells 3) == (gI y2.cells 3)) && true))))) else none)) else none)) else (kn false))
def qkj := hull (ql3)
theorem qq2 : qkj = ql3 := hull_eq _
def qjc : AC Int :=
  .seq (.draw [] [ao 44 (.mv 3),
 ao 45 (.bin .gtr 44 (.c (.int .i64 0))),
 ao 46 (.mv 45),
 ag 47 46 true (.mv 0),
 ag 48 46 true (.mv 3),
 ag 49 46 true (.bin .sub 48 (.c (.int .i64 1))),
 ag 50 46 true (.ia 8 47 49),
 .et 50 qa,
 ag 51 46 true (.fa 0 50),
 ag 52 46 true (.load true 4 51),
 ag 53 46 true (.mv 0),
 ag 54 46 true (.mv 3),
 ag 55 46 true (.ia 8 53 54),
 .et 55 qa,
 ag 56 46 true (.fa 0 55),
 ag 57 46 true (.load true 4 56)] [ag 58 46 true (.eq false true [.b, (.i .u64), (.i .u64), (.i .i64)] 52 57),
 ao 59 (.pick 46 58 (.c (.bool false)))]) (.view [.sel [0, 3, 59] []])
theorem qy7 : AC.ok Try.prog (TIof Try.prog) 74 0 (kret [.t 2] (decI .i64)) qjc := ok_of (zA rfl trivial)
theorem q0g (v0 : List AV) (v3 : Int) (K : Ex → Env → Mem → Option Int) : den 0 (kret [.t 2] (decI .i64)) qjc (envOf [(0, (.sl 8 v0)), (3, (.int .i64 v3))]) (memOf []) K = qkj v0 v3 (qq1 v0 v3 K) := by
  rw [qq2]; kernel_rfl
def qrw := subE (R := Int) qyi fun t m K => qkj (gL [t 0] 0) (gI [t 3] 0) (qq1 (gL [t 0] 0) (gI [t 3] 0) K)
theorem q0h : SubOk Try.prog (TIof Try.prog) 74 0 (kret [.t 2] (decI .i64)) (scOf qjc) (qrw) :=
  sub_mk tabOk follows (qy7) (er_of (by kernel_rfl)) fun t m K => q0g _ _ K
def qh1  (v0 : List AV) (v3 : Int) (K : Ex → Env → Mem → Option Int) := (fun (_ : Unit) => K (.exit 2) (envOf [(0, (.sl 8 v0)), (3, (.int .i64 v3))]) (memOf []))
def qyj : Shp := ⟨[(0, .one (.l (.sl 8))), (3, .one (.l (.i .i64))), (4, .one (.l (.i .i64)))], []⟩
def qlf (v0 : List AV) (v3 v4 : Int) : Env := envOf [(0, (.sl 8 v0)), (3, (.int .i64 v3)), (4, (.int .i64 v4))]
def qlg (v0 : List AV) (v3 v4 : Int) : Mem := memOf []
def qem  (v0 : List AV) (v3 v4 : Int) (next : Int → Option Int) (kx2 : Unit → Option Int) : Option Int :=
  (bif (decide (v4 < v3)) then (oB (ixB v0 v3) fun y1 => (bif fitC qa y1.cells then (oB (ixB v0 v4) fun y2 => (bif fitC qa y2.cells then (oB (qkh (gB y1.cells 0) (gI y1.cells 1) (gI y1.cells 2) (gI y1.cells 3) (gI y1.cells 4) (gS y1.cells 5) (gS y1.cells 6) (gI y1.cells 7) (gB y2.cells 0) (gI y2.cells 1) (gI y2.cells 2) (gI y2.cells 3) (gI y2.cells 4) (gS y2.cells 5) (gS y2.cells 6) (gI y2.cells 7)) fun r3 => (bif r3 then (some (24 : Int)) else (next (IntKind.i64.wrap (v4 + (1 : Int)))))) else none)) else none)) else (kx2 ()))
def qjd  (v0 : List AV) (v3 : Int) (kx2 : Unit → Option Int) : Nat → Int → Option Int
  | 0 => (fun _ => none)
  | n + 1 => (fun v4 => qem v0 v3 v4 (qjd v0 v3 kx2 n) kx2)
def qid := hull (qjd)
theorem qq3 : qid = qjd := hull_eq _
def qen : AC Int :=
  .seq (.seq (.reg [ao 60 (.mv 4),
 ao 61 (.mv 3),
 ao 62 (.bin .lss 60 61)]) (.cond 62 (.skip) (.seq (.view [.sel [0, 3] []]) (.exit 2)))) (.seq (.block 3 (.seq (.draw [] [ao 65 (.mv 0),
 ao 66 (.mv 3),
 ao 67 (.ia 8 65 66),
 .et 67 qa,
 ao 68 (.load true 8 67),
 ao 69 (.mv 0),
 ao 70 (.mv 4),
 ao 71 (.ia 8 69 70),
 .et 71 qa,
 ao 72 (.load true 8 71)] [.call (po 73 (.call 48 [68, 72])) 48 qsw]) (.cond 73 (.seq (.reg [ao 2 (.mv (.c (.int .i64 24)))]) (.ret)) (.skip)))) (.seq (.reg [ao 63 (.mv 4),
 ao 64 (.bin .add 63 (.c (.int .i64 1))),
 ao 4 (.mv 64)]) (.view [.sel [0, 3, 4] []])))
theorem qy8 : AC.ok Try.prog (TIof Try.prog) 74 0 (kret [.t 2] (decI .i64)) qen := ok_of (zA (EntOkB.ok q4t) (zA rfl trivial))
theorem qyk (v0 : List AV) (v3 v4 : Int) (K : Ex → Env → Mem → Option Int) : den 0 (kret [.t 2] (decI .i64)) qen (qlf v0 v3 v4) (qlg v0 v3 v4) K = qem v0 v3 v4 (fun z_v4 => K .norm (qlf v0 v3 z_v4) (qlg v0 v3 z_v4)) (qh1 v0 v3 K) := by kernel_rfl
theorem q0i (v0 : List AV) (v3 : Int) (K : Ex → Env → Mem → Option Int) : ∀ (n : Nat) (v4 : Int), iterD (den 0 (kret [.t 2] (decI .i64)) qen) n (qlf v0 v3 v4) (qlg v0 v3 v4) K = qid v0 v3 (qh1 v0 v3 K) n v4 := by
  rw [qq3]
  intro n
  induction n with
  | zero => intros; rfl
  | succ n ih =>
 intro v4
 exact (qyk v0 v3 v4 (itK (den 0 (kret [.t 2] (decI .i64)) qen) n K)).trans (congrArg (fun q => qem v0 v3 v4 q (qh1 v0 v3 K)) (funext fun v4 => ih v4))
def qrx := subE (R := Int) qyj fun t m K => qid (gL [t 0] 0) (gI [t 3] 0) (qh1 (gL [t 0] 0) (gI [t 3] 0) K) FU (gI [t 4] 0)
theorem q0j : SubOk Try.prog (TIof Try.prog) 74 0 (kret [.t 2] (decI .i64)) (.loop (scOf qen)) (qrx) :=
  loop_mk tabOk follows (qy8) (er_of (by kernel_rfl)) fun t m K => q0i _ _ K FU _
def qh2  (K : Ex → Env → Mem → Option Int) := (fun (_ : Unit) => K (.exit 0) (envOf []) (memOf []))
def qyl : Shp := ⟨[(0, .one (.l (.sl 8))), (3, .one (.l (.i .i64)))], []⟩
def qlh (v0 : List AV) (v3 : Int) : Env := envOf [(0, (.sl 8 v0)), (3, (.int .i64 v3))]
def qli (v0 : List AV) (v3 : Int) : Mem := memOf []
def qeo  (v0 : List AV) (v3 : Int) (next : Int → Option Int) (kx0 : Unit → Option Int) : Option Int :=
  (bif (decide (v3 < (v0.length : Int))) then (oB (ixB v0 v3) fun y1 => (bif fitC qa y1.cells then (oB (qho (gB y1.cells 0) (gI y1.cells 1) (gI y1.cells 2) (gI y1.cells 3)) fun r2 => (bif (!r2) then (some (3 : Int)) else (oB (ixB v0 v3) fun y3 => (bif fitC qa y3.cells then (oB (qn1 (gB y3.cells 0) (gI y3.cells 1) (gI y3.cells 2) (gI y3.cells 3) (gI y3.cells 4) (gS y3.cells 5) (gS y3.cells 6) (gI y3.cells 7)) fun r4 => (bif (!r4) then (some (1 : Int)) else (qki v0 v3 (fun v43q5 => (bif v43q5 then (some (7 : Int)) else (qkj v0 v3 (fun v59q6 => (bif v59q6 then (some (12 : Int)) else (qid v0 v3 (fun (_ : Unit) => (next (IntKind.i64.wrap (v3 + (1 : Int))))) FU (0 : Int)))))))))) else none)))) else none)) else (kx0 ()))
def qje  (v0 : List AV) (kx0 : Unit → Option Int) : Nat → Int → Option Int
  | 0 => (fun _ => none)
  | n + 1 => (fun v3 => qeo v0 v3 (qje v0 kx0 n) kx0)
def qkk := hull (qje)
theorem qq4 : qkk = qje := hull_eq _
def qep : AC Int :=
  .seq (.seq (.reg [ao 8 (.mv 3),
 ao 9 (.mv 0),
 ao 10 (.len false 9),
 ao 11 (.bin .lss 8 10)]) (.cond 11 (.skip) (.seq (.view [.sel [] []]) (.exit 0)))) (.seq (.block 1 (.seq (.seq (.reg [ao 14 (.mv 0),
 ao 15 (.mv 3),
 ao 16 (.ia 8 14 15),
 .st (.etac 16 qa),
 ao 17 (.fa 0 16),
 ao 18 (.load true 4 17),
 .call (po 19 (.call 45 [18])) 45 qkf,
 ao 20 (.un .not 19)]) (.cond 20 (.seq (.reg [ao 2 (.mv (.c (.int .i64 3)))]) (.ret)) (.skip))) (.seq (.seq (.reg [ao 21 (.mv 0),
 ao 22 (.mv 3),
 ao 23 (.ia 8 21 22),
 .st (.etac 23 qa),
 ao 24 (.load true 8 23),
 .call (po 25 (.call 46 [24])) 46 qwt,
 ao 26 (.un .not 25)]) (.cond 26 (.seq (.reg [ao 2 (.mv (.c (.int .i64 1)))]) (.ret)) (.skip))) (.seq (.seq (.seq (.view [.sel [0, 3] []]) (.sub (scOf qjb) qrv)) (.cond 43 (.seq (.reg [ao 2 (.mv (.c (.int .i64 7)))]) (.ret)) (.skip))) (.seq (.seq (.seq (.view [.sel [0, 3] []]) (.sub (scOf qjc) qrw)) (.cond 59 (.seq (.reg [ao 2 (.mv (.c (.int .i64 12)))]) (.ret)) (.skip))) (.seq (.reg [ao 4 (.mv (.c (.int .i64 0)))]) (.block 2 (.seq (.view [.sel [0, 3, 4] []]) (.sub (.loop (scOf qen)) qrx))))))))) (.seq (.reg [ao 12 (.mv 3),
 ao 13 (.bin .add 12 (.c (.int .i64 1))),
 ao 3 (.mv 13)]) (.view [.sel [0, 3] []])))
theorem qy9 : AC.ok Try.prog (TIof Try.prog) 74 0 (kret [.t 2] (decI .i64)) qep := ok_of (zA (EntOkB.ok qqe) (zA (EntOkB.ok qbap) (zA q0f (zA q0h (zA q0j trivial)))))
theorem qym (v0 : List AV) (v3 : Int) (K : Ex → Env → Mem → Option Int) : den 0 (kret [.t 2] (decI .i64)) qep (qlh v0 v3) (qli v0 v3) K = qeo v0 v3 (fun z_v3 => K .norm (qlh v0 z_v3) (qli v0 z_v3)) (qh2 K) := by kernel_rfl
theorem q0k (v0 : List AV) (K : Ex → Env → Mem → Option Int) : ∀ (n : Nat) (v3 : Int), iterD (den 0 (kret [.t 2] (decI .i64)) qep) n (qlh v0 v3) (qli v0 v3) K = qkk v0 (qh2 K) n v3 := by
  rw [qq4]
  intro n
  induction n with
  | zero => intros; rfl
  | succ n ih =>
 intro v3
 exact (qym v0 v3 (itK (den 0 (kret [.t 2] (decI .i64)) qep) n K)).trans (congrArg (fun q => qeo v0 v3 q (qh2 K)) (funext fun v3 => ih v3))
def qry := subE (R := Int) qyl fun t m K => qkk (gL [t 0] 0) (qh2 K) FU (gI [t 3] 0)
theorem q0l : SubOk Try.prog (TIof Try.prog) 74 0 (kret [.t 2] (decI .i64)) (.loop (scOf qep)) (qry) :=
  loop_mk tabOk follows (qy9) (er_of (by kernel_rfl)) fun t m K => q0k _ K FU _
def q28 : Shp := ⟨[(0, .one (.l (.sl 8)))], []⟩
def qqi (v0 : List AV) : Option Int :=
  (bif (decide ((v0.length : Int) > (512 : Int))) then (some (9 : Int)) else (qkk v0 (fun (_ : Unit) => (some (0 : Int))) FU (0 : Int)))
def qlj := hull qqi
theorem qvp : qlj = qqi := hull_eq _
def qqj : AC Int :=
  .seq (.reg [ao 2 (.mv (.c (.int .i64 0)))]) (.seq (.seq (.reg [ao 5 (.mv 0),
 ao 6 (.len false 5),
 ao 7 (.bin .gtr 6 (.c (.int .i64 512)))]) (.cond 7 (.seq (.reg [ao 2 (.mv (.c (.int .i64 9)))]) (.ret)) (.skip))) (.seq (.seq (.reg [ao 3 (.mv (.c (.int .i64 0)))]) (.block 0 (.seq (.view [.sel [0, 3] []]) (.sub (.loop (scOf qep)) qry)))) (.seq (.reg [ao 2 (.mv (.c (.int .i64 0)))]) (.ret))))
theorem q4u : AC.ok Try.prog (TIof Try.prog) 74 0 (kret [.t 2] (decI .i64)) qqj := ok_of (zA q0l trivial)
theorem q64 (v0 : List AV) : den 0 (kret [.t 2] (decI .i64)) qqj (envOf [(0, (.sl 8 v0))]) (memOf []) (kend (kret [.t 2] (decI .i64))) = qlj v0 := by
  rw [qvp]; kernel_rfl
theorem q65 : cFn (TIof Try.prog) Try.f12 = some ⟨74, [.t 2], scOf qqj⟩ := by kernel_rfl
def q66 (xs : List AV) : Option Int := qlj (gL [(entry xs) 0] 0)
def qt9 {R : Type} : List AV → (AV → Option R) → Option R := entF q28 q66 (AV.int .i64)
theorem q67 {R : Type} : EntOkB Try.prog 12 (qt9 (R := R)) :=
  ent_mk tabOk follows Try.func12 (by kernel_rfl) q65 hdeI q4u (er_of (by kernel_rfl)) fun xs => q64 _
def q8w : Shp := ⟨[(0, .one (.l (.i .u64))), (1, .one (.l (.i .i64)))], []⟩
def q02 (v0 v1 : Int) : Option AV :=
  (some (.agg [(.bool false), (.int .u64 (0 : Int)), (.int .u64 v0), (.int .i64 v1)]))
def qkv := hull q02
theorem qza : qkv = q02 := hull_eq _
def qu0 : AC AV :=
  .seq (.reg [ao 4 (.alloc [(.bool false), (.int .u64 0), (.int .u64 0), (.int .i64 0)])]) (.seq (.reg [ao 5 (.mv 0),
 ao 6 (.build [(.bool false), (.int .u64 0), (.int .u64 0)] [(2, (1, 5))]),
 ao 7 (.mv 1),
 ao 8 (.build [(.bool false), (.int .u64 0), (.int .u64 0), (.int .i64 0)] [(0, (3, 6)), (3, (1, 7))]),
 an (.store 4 4 8)]) (.ret))
theorem qbas : AC.ok Try.prog (TIof Try.prog) 9 0 (kret [(.cell 4 true 4)] (decT [.b, (.i .u64), (.i .u64), (.i .i64)])) qu0 := ok_of trivial
theorem qbbp (v0 v1 : Int) : den 0 (kret [(.cell 4 true 4)] (decT [.b, (.i .u64), (.i .u64), (.i .i64)])) qu0 (envOf [(0, (.int .u64 v0)), (1, (.int .i64 v1))]) (memOf []) (kend (kret [(.cell 4 true 4)] (decT [.b, (.i .u64), (.i .u64), (.i .i64)]))) = qkv v0 v1 := by
  rw [qza]; kernel_rfl
theorem qbbq : cFn (TIof Try.prog) Try.f87 = some ⟨9, [(.cell 4 true 4)], scOf qu0⟩ := by kernel_rfl
def qbbr (xs : List AV) : Option AV := qkv (gI [(entry xs) 0] 0) (gI [(entry xs) 1] 0)
def qm9 {R : Type} : List AV → (AV → Option R) → Option R := entF q8w qbbr (etaRV (.st [.b, (.i .u64), (.i .u64), (.i .i64)]))
theorem qu1 {R : Type} : EntOkB Try.prog 87 (qm9 (R := R)) :=
  ent_mk tabOk follows Try.func87 (by kernel_rfl) qbbq hdeT qbas (er_of (by kernel_rfl)) fun xs => qbbp _ _
def q0m : Shp := ⟨[], []⟩
def qn6 : Option (List AV) :=
  (oB (qkv (167772160 : Int) (8 : Int)) fun r1 => (oB (qkv (167772160 : Int) (24 : Int)) fun r2 => (oB (qkv (167772165 : Int) (32 : Int)) fun r3 => (bif hd ([(.agg [(.bool (gB r1.cells 0)), (.int .u64 (gI r1.cells 1)), (.int .u64 (gI r1.cells 2)), (.int .i64 (gI r1.cells 3)), (.int .i64 (1 : Int)), (.str ([97, 108, 108] : List UInt8)), (.str ([] : List UInt8)), (.int .i64 (0 : Int))]), (.agg [(.bool (gB r2.cells 0)), (.int .u64 (gI r2.cells 1)), (.int .u64 (gI r2.cells 2)), (.int .i64 (gI r2.cells 3)), (.int .i64 (2 : Int)), (.str ([110, 101, 116] : List UInt8)), (.str ([] : List UInt8)), (.int .i64 (0 : Int))]), (.agg [(.bool (gB r3.cells 0)), (.int .u64 (gI r3.cells 1)), (.int .u64 (gI r3.cells 2)), (.int .i64 (gI r3.cells 3)), (.int .i64 (3 : Int)), (.str ([104, 111, 115, 116] : List UInt8)), (.str ([] : List UInt8)), (.int .i64 (0 : Int))])] : List AV) (([(.agg [(.bool (gB r1.cells 0)), (.int .u64 (gI r1.cells 1)), (.int .u64 (gI r1.cells 2)), (.int .i64 (gI r1.cells 3)), (.int .i64 (1 : Int)), (.str ([97, 108, 108] : List UInt8)), (.str ([] : List UInt8)), (.int .i64 (0 : Int))]), (.agg [(.bool (gB r2.cells 0)), (.int .u64 (gI r2.cells 1)), (.int .u64 (gI r2.cells 2)), (.int .i64 (gI r2.cells 3)), (.int .i64 (2 : Int)), (.str ([110, 101, 116] : List UInt8)), (.str ([] : List UInt8)), (.int .i64 (0 : Int))]), (.agg [(.bool (gB r3.cells 0)), (.int .u64 (gI r3.cells 1)), (.int .u64 (gI r3.cells 2)), (.int .i64 (gI r3.cells 3)), (.int .i64 (3 : Int)), (.str ([104, 111, 115, 116] : List UInt8)), (.str ([] : List UInt8)), (.int .i64 (0 : Int))])] : List AV).length) then (some ([(.agg [(.bool (gB r1.cells 0)), (.int .u64 (gI r1.cells 1)), (.int .u64 (gI r1.cells 2)), (.int .i64 (gI r1.cells 3)), (.int .i64 (1 : Int)), (.str ([97, 108, 108] : List UInt8)), (.str ([] : List UInt8)), (.int .i64 (0 : Int))]), (.agg [(.bool (gB r2.cells 0)), (.int .u64 (gI r2.cells 1)), (.int .u64 (gI r2.cells 2)), (.int .i64 (gI r2.cells 3)), (.int .i64 (2 : Int)), (.str ([110, 101, 116] : List UInt8)), (.str ([] : List UInt8)), (.int .i64 (0 : Int))]), (.agg [(.bool (gB r3.cells 0)), (.int .u64 (gI r3.cells 1)), (.int .u64 (gI r3.cells 2)), (.int .i64 (gI r3.cells 3)), (.int .i64 (3 : Int)), (.str ([104, 111, 115, 116] : List UInt8)), (.str ([] : List UInt8)), (.int .i64 (0 : Int))])] : List AV)) else none))))
def qjt := hull qn6
theorem qsx : qjt = qn6 := hull_eq _
def qn7 : AC (List AV) :=
  .seq (.reg [ao 0 (.mv (.c .nils))]) (.seq (.reg [.call (po 1 (.call 87 [(.c (.int .u64 167772160)), (.c (.int .i64 8))])) 87 qm9,
 ao 2 (.build [(.bool false), (.int .u64 0), (.int .u64 0), (.int .i64 0), (.int .i64 0), (.str []), (.str []), (.int .i64 0)] [(0, (4, 1)), (4, (1, (.c (.int .i64 1)))), (5, (1, (.c (.str [97, 108, 108]))))]),
 .call (po 3 (.call 87 [(.c (.int .u64 167772160)), (.c (.int .i64 24))])) 87 qm9,
 ao 4 (.build [(.bool false), (.int .u64 0), (.int .u64 0), (.int .i64 0), (.int .i64 0), (.str []), (.str []), (.int .i64 0)] [(0, (4, 3)), (4, (1, (.c (.int .i64 2)))), (5, (1, (.c (.str [110, 101, 116]))))]),
 .call (po 5 (.call 87 [(.c (.int .u64 167772165)), (.c (.int .i64 32))])) 87 qm9,
 ao 6 (.build [(.bool false), (.int .u64 0), (.int .u64 0), (.int .i64 0), (.int .i64 0), (.str []), (.str []), (.int .i64 0)] [(0, (4, 5)), (4, (1, (.c (.int .i64 3)))), (5, (1, (.c (.str [104, 111, 115, 116]))))]),
 ao 7 (.bsl 8 [2, 4, 6]),
 ao 0 (.mv 7)]) (.ret))
theorem q1q : AC.ok Try.prog (TIof Try.prog) 8 0 (kret [.t 0] (decF true 8)) qn7 := ok_of (zA (EntOkB.ok qu1) (zA (EntOkB.ok qu1) (zA (EntOkB.ok qu1) trivial)))
theorem q29 : den 0 (kret [.t 0] (decF true 8)) qn7 (envOf []) (memOf []) (kend (kret [.t 0] (decF true 8))) = qjt := by
  rw [qsx]; kernel_rfl
theorem q3a : cFn (TIof Try.prog) Try.f49 = some ⟨8, [.t 0], scOf qn7⟩ := by kernel_rfl
def q3b (xs : List AV) : Option (List AV) := qjt
def qrz {R : Type} : List AV → (AV → Option R) → Option R := entF q0m q3b (AV.fr true 8)
theorem q3c {R : Type} : EntOkB Try.prog 49 (qrz (R := R)) :=
  ent_mk tabOk follows Try.func49 (by kernel_rfl) q3a hdeF q1q (er_of (by kernel_rfl)) fun xs => q29
def q3d : Shp := ⟨[(0, .st (lk qa)), (1, .one (.ptr 0 0))], [.box true (lk qe)]⟩
def qvq {R : Type} (KK : AV → Mem → Option R) := (fun v3 Ai Aj Ak Al => KK (.bool v3) (memOf [(some (.box true [(.bool Ai), (.int .u64 Aj), (.int .u64 Ak), (.int .i64 Al)]))]))
def qqk {R : Type}  (Aa : Bool) (Ab Ac Ad Ae : Int) (Af Ag : List UInt8) (Ah : Int) (Ai : Bool) (Aj Ak Al : Int) (kr : Bool → Bool → Int → Int → Int → Option R) : Option R :=
  (kr ((Aa == Ai) && ((Ab == Aj) && ((Ac == Ak) && ((Ad == Al) && true)))) Ai Aj Ak Al)
def qok {R : Type} := hull (qqk (R := R))
theorem qvr {R : Type} : qok (R := R) = qqk := hull_eq _
def qhp {R : Type} (KK : AV → Mem → Option R) : AC R :=
  .seq (.reg [ao 2 (.box 0),
 ao 3 (.mv (.c (.bool false)))]) (.seq (.reg [ao 4 (.fa 0 2),
 ao 5 (.load true 4 4),
 ao 6 (.load true 4 1),
 ao 7 (.eq false true [.b, (.i .u64), (.i .u64), (.i .i64)] 5 6),
 ao 3 (.mv 7)]) (.seq (.view [.sel [3] [0]]) (.ret)))
theorem q4v {R : Type} (KK : AV → Mem → Option R) : AC.ok Try.prog (TIof Try.prog) 8 1 (kretr [.t 3] KK) (qhp KK) := ok_of trivial
theorem q68 {R : Type} (KK : AV → Mem → Option R) (Aa : Bool) (Ab Ac Ad Ae : Int) (Af Ag : List UInt8) (Ah : Int) (Ai : Bool) (Aj Ak Al : Int) : den 1 (kretr [.t 3] KK) (qhp KK) (envOf [(0, .agg (qc Aa Ab Ac Ad Ae Af Ag Ah)), (1, (.ptr 0 0))]) (memOf [(some (.box true (qb Ai Aj Ak Al)))]) (kend (kretr [.t 3] KK)) = qok Aa Ab Ac Ad Ae Af Ag Ah Ai Aj Ak Al (qvq KK) := by
  rw [qvr]; kernel_rfl
theorem q69 : cFn (TIof Try.prog) Try.f89 = some ⟨8, [.t 3], scOf (qhp (R := Unit) (fun _ _ => none))⟩ := by kernel_rfl
theorem q7a {R : Type} (KK : AV → Mem → Option R) : (qhp KK).er = some (scOf (qhp (R := Unit) (fun _ _ => none))) := by kernel_rfl
def qww {R : Type} : List AV → Mem → (AV → Mem → Option R) → Option R := refE q3d fun xs m KK => qd (bxC (m.s 0)) (qf ((entry xs) 0).cells (qok)) (qvq KK)
theorem q7b {R : Type} : RefOk Try.prog 89 (qww (R := R)) :=
  ref_mk (ac := fun KK => qhp KK) tabOk follows Try.func89 (by kernel_rfl) q69 (fun KK => q4v KK) (fun KK => q7a KK) rfl fun xs m KK => q68 KK _ _ _ _ _ _ _ _ _ _ _ _
def qbr {R : Type}  (K : Ex → Env → Mem → Option R) := (fun z_b0_0 z_b0_1 z_b0_2 z_b0_3 => K (.exit 0) (envOf []) (memOf [(some (.box true (qb z_b0_0 z_b0_1 z_b0_2 z_b0_3)))]))
def qbt {R : Type} (KK : AV → Mem → Option R) := (fun v4 Ai Aj Ak Al => KK (.int .i64 v4) (memOf [(some (.box true [(.bool Ai), (.int .u64 Aj), (.int .u64 Ak), (.int .i64 Al)]))]))
def qgo : Shp := ⟨[(0, .one (.l (.sl 8))), (1, .one (.fn 89 [(0, 0)])), (7, .one (.l (.i .i64))), (8, .one (.l (.i .i64)))], [.box true (lk qe)]⟩
def qcj (v0 : List AV) (v7 v8 : Int) (Ai : Bool) (Aj Ak Al : Int) : Env := envOf [(0, (.sl 8 v0)), (1, (.func 89 [(.ptr 0 0)])), (7, (.int .i64 v7)), (8, (.int .i64 v8))]
def qck (v0 : List AV) (v7 v8 : Int) (Ai : Bool) (Aj Ak Al : Int) : Mem := memOf [(some (.box true (qb Ai Aj Ak Al)))]
def qu {R : Type}  (v0 : List AV) (v7 v8 : Int) (Ai : Bool) (Aj Ak Al : Int) (next : Int → Bool → Int → Int → Int → Option R) (kx0 : Bool → Int → Int → Int → Option R) (kr : Int → Bool → Int → Int → Int → Option R) : Option R :=
  (bif (decide (v8 < v7)) then (oB (ixB v0 v8) fun y1 => (bif fitC qa y1.cells then (qok (gB y1.cells 0) (gI y1.cells 1) (gI y1.cells 2) (gI y1.cells 3) (gI y1.cells 4) (gS y1.cells 5) (gS y1.cells 6) (gI y1.cells 7) Ai Aj Ak Al fun v3q2 b0_0q3 b0_1q4 b0_2q5 b0_3q6 => (bif v3q2 then (kr v8 b0_0q3 b0_1q4 b0_2q5 b0_3q6) else (next (IntKind.i64.wrap (v8 + (1 : Int))) b0_0q3 b0_1q4 b0_2q5 b0_3q6))) else none)) else (kx0 Ai Aj Ak Al))
def qbx {R : Type}  (v0 : List AV) (v7 : Int) (kx0 : Bool → Int → Int → Int → Option R) (kr : Int → Bool → Int → Int → Int → Option R) : Nat → Int → Bool → Int → Int → Int → Option R
  | 0 => (fun _ _ _ _ _ => none)
  | n + 1 => (fun v8 Ai Aj Ak Al => qu v0 v7 v8 Ai Aj Ak Al (qbx v0 v7 kx0 kr n) kx0 kr)
def qbz {R : Type} := hull (qbx (R := R))
theorem qdo {R : Type} : qbz (R := R) = qbx := hull_eq _
def qv {R : Type} (KK : AV → Mem → Option R) : AC R :=
  .seq (.reg [ao 9 (.bin .lss 8 7)]) (.seq (.cond 9 (.skip) (.seq (.view [.sel [] [0]]) (.exit 0))) (.seq (.block 1 (.seq (.reg [ao 10 (.mv 8),
 ao 5 (.mv 10)]) (.seq (.reg [ao 11 (.mv 1),
 ao 12 (.mv 0),
 ao 13 (.mv 5),
 ao 14 (.ia 8 12 13),
 .st (.etac 14 qa),
 ao 15 (.load true 8 14),
 .st (.sel [0, 1, 5, 7, 8, 11, 15] [0]),
 .callr (po 16 (.callv 11 [15])) 89 qww]) (.cond 16 (.seq (.reg [ao 17 (.mv 5),
 ao 4 (.mv 17)]) (.seq (.view [.sel [4] [0]]) (.ret))) (.skip))))) (.seq (.reg [ao 18 (.bin .add 8 (.c (.int .i64 1))),
 ao 8 (.mv 18)]) (.view [.sel [0, 1, 7, 8] [0]]))))
theorem qg3 {R : Type} (KK : AV → Mem → Option R) : AC.ok Try.prog (TIof Try.prog) 19 1 (kretr [.t 4] KK) (qv KK) := ok_of (zA q7b trivial)
theorem qgp {R : Type} (KK : AV → Mem → Option R) (v0 : List AV) (v7 v8 : Int) (Ai : Bool) (Aj Ak Al : Int) (K : Ex → Env → Mem → Option R) : den 1 (kretr [.t 4] KK) (qv KK) (qcj v0 v7 v8 Ai Aj Ak Al) (qck v0 v7 v8 Ai Aj Ak Al) K = qu v0 v7 v8 Ai Aj Ak Al (fun z_v8 z_b0_0 z_b0_1 z_b0_2 z_b0_3 => K .norm (qcj v0 v7 z_v8 z_b0_0 z_b0_1 z_b0_2 z_b0_3) (qck v0 v7 z_v8 z_b0_0 z_b0_1 z_b0_2 z_b0_3)) (qbr K) (qbt KK) := by kernel_rfl
theorem qg8 {R : Type} (KK : AV → Mem → Option R) (v0 : List AV) (v7 : Int) (K : Ex → Env → Mem → Option R) : ∀ (n : Nat) (v8 : Int) (Ai : Bool) (Aj Ak Al : Int), iterD (den 1 (kretr [.t 4] KK) (qv KK)) n (qcj v0 v7 v8 Ai Aj Ak Al) (qck v0 v7 v8 Ai Aj Ak Al) K = qbz v0 v7 (qbr K) (qbt KK) n v8 Ai Aj Ak Al := by
  rw [qdo]
  intro n
  induction n with
  | zero => intros; rfl
  | succ n ih =>
 intro v8 Ai Aj Ak Al
 exact (qgp KK v0 v7 v8 Ai Aj Ak Al (itK (den 1 (kretr [.t 4] KK) (qv KK)) n K)).trans (congrArg (fun q => qu v0 v7 v8 Ai Aj Ak Al q (qbr K) (qbt KK)) (funext fun v8 => funext fun Ai => funext fun Aj => funext fun Ak => funext fun Al => ih v8 Ai Aj Ak Al))
def qds {R : Type} (KK : AV → Mem → Option R) := subE (R := R) qgo fun t m K => qd (bxC (m.s 0)) (qbz (gL [t 0] 0) (gI [t 7] 0) (qbr K) (qbt KK) FU (gI [t 8] 0))
theorem qg9 {R : Type} (KK : AV → Mem → Option R) : SubOk Try.prog (TIof Try.prog) 19 1 (kretr [.t 4] KK) (.loop (scOf (qv KK))) (qds KK) :=
  loop_mk tabOk follows (qg3 KK) (er_of (by kernel_rfl)) fun t m K => qg8 KK _ _ K FU _ _ _ _ _
def qhq : Shp := ⟨[(0, .one (.l (.sl 8))), (1, .one (.fn 89 [(0, 0)]))], [.box true (lk qe)]⟩
def qdw {R : Type} (KK : AV → Mem → Option R) := (fun v4 Ai Aj Ak Al => KK (.int .i64 v4) (memOf [(some (.box true [(.bool Ai), (.int .u64 Aj), (.int .u64 Ak), (.int .i64 Al)]))]))
def qcr {R : Type}  (v0 : List AV) (Ai : Bool) (Aj Ak Al : Int) (kr : Int → Bool → Int → Int → Int → Option R) : Option R :=
  (qbz v0 (v0.length : Int) (fun b0_0q1 b0_1q2 b0_2q3 b0_3q4 => (kr (-1 : Int) b0_0q1 b0_1q2 b0_2q3 b0_3q4)) kr FU (0 : Int) Ai Aj Ak Al)
def qb1 {R : Type} := hull (qcr (R := R))
theorem qdx {R : Type} : qb1 (R := R) = qcr := hull_eq _
def qy {R : Type} (KK : AV → Mem → Option R) : AC R :=
  .seq (.reg [ao 4 (.mv (.c (.int .i64 0)))]) (.seq (.seq (.reg [ao 6 (.mv 0),
 ao 7 (.len false 6),
 ao 8 (.mv (.c (.int .i64 0)))]) (.block 0 (.seq (.view [.sel [0, 1, 7, 8] [0]]) (.sub (.loop (scOf (qv KK))) (qds KK))))) (.seq (.reg [ao 4 (.mv (.c (.int .i64 (-1))))]) (.seq (.view [.sel [4] [0]]) (.ret))))
theorem qh3 {R : Type} (KK : AV → Mem → Option R) : AC.ok Try.prog (TIof Try.prog) 19 1 (kretr [.t 4] KK) (qy KK) := ok_of (zA (qg9 KK) trivial)
theorem qie {R : Type} (KK : AV → Mem → Option R) (v0 : List AV) (Ai : Bool) (Aj Ak Al : Int) : den 1 (kretr [.t 4] KK) (qy KK) (envOf [(0, (.sl 8 v0)), (1, (.func 89 [(.ptr 0 0)]))]) (memOf [(some (.box true (qb Ai Aj Ak Al)))]) (kend (kretr [.t 4] KK)) = qb1 v0 Ai Aj Ak Al (qdw KK) := by
  rw [qdx]; kernel_rfl
theorem qif : cFn (TIof Try.prog) Try.f88 = some ⟨19, [.t 4], scOf (qy (R := Unit) (fun _ _ => none))⟩ := by kernel_rfl
theorem qig {R : Type} (KK : AV → Mem → Option R) : (qy KK).er = some (scOf (qy (R := Unit) (fun _ _ => none))) := by kernel_rfl
def qdz {R : Type} : List AV → Mem → (AV → Mem → Option R) → Option R := refE qhq fun xs m KK => qd (bxC (m.s 0)) (qb1 (gL [(entry xs) 0] 0)) (qdw KK)
theorem qih {R : Type} : RefOk Try.prog 88 (qdz (R := R)) :=
  ref_mk (ac := fun KK => qy KK) tabOk follows Try.func88 (by kernel_rfl) qif (fun KK => qh3 KK) (fun KK => qig KK) rfl fun xs m KK => qie KK _ _ _ _ _
def q7c : Shp := ⟨[(0, .one (.l (.sl 8))), (1, .st (lk qe))], []⟩
def qtm (v0 : List AV) (Aq : Bool) (Ar As At : Int) : Option Int :=
  (qb1 v0 Aq Ar As At fun v4q1 b0_0q2 b0_1q3 b0_2q4 b0_3q5 => (some v4q1))
def qeg := hull qtm
theorem qx5 : qeg = qtm := hull_eq _
def qtn : AC Int :=
  .seq (.reg [ao 3 (.box 1),
 ao 4 (.mv (.c (.int .i64 0)))]) (.seq (.reg [ao 5 (.mv 0),
 ao 6 (.mkf 89 [3]),
 .st (.sel [5, 6] [0]),
 .callr (po 7 (.call 88 [5, 6])) 88 qdz,
 ao 4 (.mv 7)]) (.ret))
theorem q8x : AC.ok Try.prog (TIof Try.prog) 8 0 (kret [.t 4] (decI .i64)) qtn := ok_of (zA qih trivial)
theorem qbat (v0 : List AV) (Aq : Bool) (Ar As At : Int) : den 0 (kret [.t 4] (decI .i64)) qtn (envOf [(0, (.sl 8 v0)), (1, .agg (qb Aq Ar As At))]) (memOf []) (kend (kret [.t 4] (decI .i64))) = qeg v0 Aq Ar As At := by
  rw [qx5]; kernel_rfl
theorem qbau : cFn (TIof Try.prog) Try.f51 = some ⟨8, [.t 4], scOf qtn⟩ := by kernel_rfl
def qbav (xs : List AV) : Option Int := qd ((entry xs) 1).cells (qeg (gL [(entry xs) 0] 0))
def qeh {R : Type} : List AV → (AV → Option R) → Option R := entF q7c qbav (AV.int .i64)
theorem qhr {R : Type} : EntOkB Try.prog 51 (qeh (R := R)) :=
  ent_mk tabOk follows Try.func51 (by kernel_rfl) qbau hdeI q8x (er_of (by kernel_rfl)) fun xs => qbat _ _ _ _ _
def qzb : Shp := ⟨[(0, .st (lk qa)), (1, .one (.ptr 0 0))], [.box true (lk qe)]⟩
def qr0 {R : Type} (KK : AV → Mem → Option R) := (fun v3 Ai Aj Ak Al => KK (.bool v3) (memOf [(some (.box true [(.bool Ai), (.int .u64 Aj), (.int .u64 Ak), (.int .i64 Al)]))]))
def qmy {R : Type}  (Aa : Bool) (Ab Ac Ad Ae : Int) (Af Ag : List UInt8) (Ah : Int) (Ai : Bool) (Aj Ak Al : Int) (kr : Bool → Bool → Int → Int → Int → Option R) : Option R :=
  (oB (qez Aa Ab Ac Ad Ai Aj Ak Al) fun r1 => (kr r1 Ai Aj Ak Al))
def qi1 {R : Type} := hull (qmy (R := R))
theorem qr1 {R : Type} : qi1 (R := R) = qmy := hull_eq _
def qev {R : Type} (KK : AV → Mem → Option R) : AC R :=
  .seq (.reg [ao 2 (.box 0),
 ao 3 (.mv (.c (.bool false)))]) (.seq (.reg [ao 4 (.fa 0 2),
 ao 5 (.load true 4 4),
 ao 6 (.load true 4 1),
 .call (po 7 (.call 64 [5, 6])) 64 qet,
 ao 3 (.mv 7)]) (.seq (.view [.sel [3] [0]]) (.ret)))
theorem q0n {R : Type} (KK : AV → Mem → Option R) : AC.ok Try.prog (TIof Try.prog) 8 1 (kretr [.t 3] KK) (qev KK) := ok_of (zA (EntOkB.ok qit) trivial)
theorem q1r {R : Type} (KK : AV → Mem → Option R) (Aa : Bool) (Ab Ac Ad Ae : Int) (Af Ag : List UInt8) (Ah : Int) (Ai : Bool) (Aj Ak Al : Int) : den 1 (kretr [.t 3] KK) (qev KK) (envOf [(0, .agg (qc Aa Ab Ac Ad Ae Af Ag Ah)), (1, (.ptr 0 0))]) (memOf [(some (.box true (qb Ai Aj Ak Al)))]) (kend (kretr [.t 3] KK)) = qi1 Aa Ab Ac Ad Ae Af Ag Ah Ai Aj Ak Al (qr0 KK) := by
  rw [qr1]; kernel_rfl
theorem q1s : cFn (TIof Try.prog) Try.f90 = some ⟨8, [.t 3], scOf (qev (R := Unit) (fun _ _ => none))⟩ := by kernel_rfl
theorem q1t {R : Type} (KK : AV → Mem → Option R) : (qev KK).er = some (scOf (qev (R := Unit) (fun _ _ => none))) := by kernel_rfl
def qsy {R : Type} : List AV → Mem → (AV → Mem → Option R) → Option R := refE qzb fun xs m KK => qd (bxC (m.s 0)) (qf ((entry xs) 0).cells (qi1)) (qr0 KK)
theorem q1u {R : Type} : RefOk Try.prog 90 (qsy (R := R)) :=
  ref_mk (ac := fun KK => qev KK) tabOk follows Try.func90 (by kernel_rfl) q1s (fun KK => q0n KK) (fun KK => q1t KK) rfl fun xs m KK => q1r KK _ _ _ _ _ _ _ _ _ _ _ _
def qbg {R : Type}  (K : Ex → Env → Mem → Option R) := (fun z_b0_0 z_b0_1 z_b0_2 z_b0_3 => K (.exit 0) (envOf []) (memOf [(some (.box true (qb z_b0_0 z_b0_1 z_b0_2 z_b0_3)))]))
def qbk {R : Type} (KK : AV → Mem → Option R) := (fun v4 Ai Aj Ak Al => KK (.int .i64 v4) (memOf [(some (.box true [(.bool Ai), (.int .u64 Aj), (.int .u64 Ak), (.int .i64 Al)]))]))
def qfl : Shp := ⟨[(0, .one (.l (.sl 8))), (1, .one (.fn 90 [(0, 0)])), (7, .one (.l (.i .i64))), (8, .one (.l (.i .i64)))], [.box true (lk qe)]⟩
def qcc (v0 : List AV) (v7 v8 : Int) (Ai : Bool) (Aj Ak Al : Int) : Env := envOf [(0, (.sl 8 v0)), (1, (.func 90 [(.ptr 0 0)])), (7, (.int .i64 v7)), (8, (.int .i64 v8))]
def qcd (v0 : List AV) (v7 v8 : Int) (Ai : Bool) (Aj Ak Al : Int) : Mem := memOf [(some (.box true (qb Ai Aj Ak Al)))]
def qm {R : Type}  (v0 : List AV) (v7 v8 : Int) (Ai : Bool) (Aj Ak Al : Int) (next : Int → Bool → Int → Int → Int → Option R) (kx0 : Bool → Int → Int → Int → Option R) (kr : Int → Bool → Int → Int → Int → Option R) : Option R :=
  (bif (decide (v8 < v7)) then (oB (ixB v0 v8) fun y1 => (bif fitC qa y1.cells then (qi1 (gB y1.cells 0) (gI y1.cells 1) (gI y1.cells 2) (gI y1.cells 3) (gI y1.cells 4) (gS y1.cells 5) (gS y1.cells 6) (gI y1.cells 7) Ai Aj Ak Al fun v3q2 b0_0q3 b0_1q4 b0_2q5 b0_3q6 => (bif v3q2 then (kr v8 b0_0q3 b0_1q4 b0_2q5 b0_3q6) else (next (IntKind.i64.wrap (v8 + (1 : Int))) b0_0q3 b0_1q4 b0_2q5 b0_3q6))) else none)) else (kx0 Ai Aj Ak Al))
def qbl {R : Type}  (v0 : List AV) (v7 : Int) (kx0 : Bool → Int → Int → Int → Option R) (kr : Int → Bool → Int → Int → Int → Option R) : Nat → Int → Bool → Int → Int → Int → Option R
  | 0 => (fun _ _ _ _ _ => none)
  | n + 1 => (fun v8 Ai Aj Ak Al => qm v0 v7 v8 Ai Aj Ak Al (qbl v0 v7 kx0 kr n) kx0 kr)
def qbu {R : Type} := hull (qbl (R := R))
theorem qc8 {R : Type} : qbu (R := R) = qbl := hull_eq _
def qn {R : Type} (KK : AV → Mem → Option R) : AC R :=
  .seq (.reg [ao 9 (.bin .lss 8 7)]) (.seq (.cond 9 (.skip) (.seq (.view [.sel [] [0]]) (.exit 0))) (.seq (.block 1 (.seq (.reg [ao 10 (.mv 8),
 ao 5 (.mv 10)]) (.seq (.reg [ao 11 (.mv 1),
 ao 12 (.mv 0),
 ao 13 (.mv 5),
 ao 14 (.ia 8 12 13),
 .st (.etac 14 qa),
 ao 15 (.load true 8 14),
 .st (.sel [0, 1, 5, 7, 8, 11, 15] [0]),
 .callr (po 16 (.callv 11 [15])) 90 qsy]) (.cond 16 (.seq (.reg [ao 17 (.mv 5),
 ao 4 (.mv 17)]) (.seq (.view [.sel [4] [0]]) (.ret))) (.skip))))) (.seq (.reg [ao 18 (.bin .add 8 (.c (.int .i64 1))),
 ao 8 (.mv 18)]) (.view [.sel [0, 1, 7, 8] [0]]))))
theorem qf0 {R : Type} (KK : AV → Mem → Option R) : AC.ok Try.prog (TIof Try.prog) 19 1 (kretr [.t 4] KK) (qn KK) := ok_of (zA q1u trivial)
theorem qfm {R : Type} (KK : AV → Mem → Option R) (v0 : List AV) (v7 v8 : Int) (Ai : Bool) (Aj Ak Al : Int) (K : Ex → Env → Mem → Option R) : den 1 (kretr [.t 4] KK) (qn KK) (qcc v0 v7 v8 Ai Aj Ak Al) (qcd v0 v7 v8 Ai Aj Ak Al) K = qm v0 v7 v8 Ai Aj Ak Al (fun z_v8 z_b0_0 z_b0_1 z_b0_2 z_b0_3 => K .norm (qcc v0 v7 z_v8 z_b0_0 z_b0_1 z_b0_2 z_b0_3) (qcd v0 v7 z_v8 z_b0_0 z_b0_1 z_b0_2 z_b0_3)) (qbg K) (qbk KK) := by kernel_rfl
theorem qf4 {R : Type} (KK : AV → Mem → Option R) (v0 : List AV) (v7 : Int) (K : Ex → Env → Mem → Option R) : ∀ (n : Nat) (v8 : Int) (Ai : Bool) (Aj Ak Al : Int), iterD (den 1 (kretr [.t 4] KK) (qn KK)) n (qcc v0 v7 v8 Ai Aj Ak Al) (qcd v0 v7 v8 Ai Aj Ak Al) K = qbu v0 v7 (qbg K) (qbk KK) n v8 Ai Aj Ak Al := by
  rw [qc8]
  intro n
  induction n with
  | zero => intros; rfl
  | succ n ih =>
 intro v8 Ai Aj Ak Al
 exact (qfm KK v0 v7 v8 Ai Aj Ak Al (itK (den 1 (kretr [.t 4] KK) (qn KK)) n K)).trans (congrArg (fun q => qm v0 v7 v8 Ai Aj Ak Al q (qbg K) (qbk KK)) (funext fun v8 => funext fun Ai => funext fun Aj => funext fun Ak => funext fun Al => ih v8 Ai Aj Ak Al))
def qdb {R : Type} (KK : AV → Mem → Option R) := subE (R := R) qfl fun t m K => qd (bxC (m.s 0)) (qbu (gL [t 0] 0) (gI [t 7] 0) (qbg K) (qbk KK) FU (gI [t 8] 0))
theorem qf5 {R : Type} (KK : AV → Mem → Option R) : SubOk Try.prog (TIof Try.prog) 19 1 (kretr [.t 4] KK) (.loop (scOf (qn KK))) (qdb KK) :=
  loop_mk tabOk follows (qf0 KK) (er_of (by kernel_rfl)) fun t m K => qf4 KK _ _ K FU _ _ _ _ _
def qgq : Shp := ⟨[(0, .one (.l (.sl 8))), (1, .one (.fn 90 [(0, 0)]))], [.box true (lk qe)]⟩
def qdp {R : Type} (KK : AV → Mem → Option R) := (fun v4 Ai Aj Ak Al => KK (.int .i64 v4) (memOf [(some (.box true [(.bool Ai), (.int .u64 Aj), (.int .u64 Ak), (.int .i64 Al)]))]))
def qcn {R : Type}  (v0 : List AV) (Ai : Bool) (Aj Ak Al : Int) (kr : Int → Bool → Int → Int → Int → Option R) : Option R :=
  (qbu v0 (v0.length : Int) (fun b0_0q1 b0_1q2 b0_2q3 b0_3q4 => (kr (-1 : Int) b0_0q1 b0_1q2 b0_2q3 b0_3q4)) kr FU (0 : Int) Ai Aj Ak Al)
def q9 {R : Type} := hull (qcn (R := R))
theorem qdq {R : Type} : q9 (R := R) = qcn := hull_eq _
def qw {R : Type} (KK : AV → Mem → Option R) : AC R :=
  .seq (.reg [ao 4 (.mv (.c (.int .i64 0)))]) (.seq (.seq (.reg [ao 6 (.mv 0),
 ao 7 (.len false 6),
 ao 8 (.mv (.c (.int .i64 0)))]) (.block 0 (.seq (.view [.sel [0, 1, 7, 8] [0]]) (.sub (.loop (scOf (qn KK))) (qdb KK))))) (.seq (.reg [ao 4 (.mv (.c (.int .i64 (-1))))]) (.seq (.view [.sel [4] [0]]) (.ret))))
theorem qg4 {R : Type} (KK : AV → Mem → Option R) : AC.ok Try.prog (TIof Try.prog) 19 1 (kretr [.t 4] KK) (qw KK) := ok_of (zA (qf5 KK) trivial)
theorem qha {R : Type} (KK : AV → Mem → Option R) (v0 : List AV) (Ai : Bool) (Aj Ak Al : Int) : den 1 (kretr [.t 4] KK) (qw KK) (envOf [(0, (.sl 8 v0)), (1, (.func 90 [(.ptr 0 0)]))]) (memOf [(some (.box true (qb Ai Aj Ak Al)))]) (kend (kretr [.t 4] KK)) = q9 v0 Ai Aj Ak Al (qdp KK) := by
  rw [qdq]; kernel_rfl
theorem qhb : cFn (TIof Try.prog) Try.f88 = some ⟨19, [.t 4], scOf (qw (R := Unit) (fun _ _ => none))⟩ := by kernel_rfl
theorem qhc {R : Type} (KK : AV → Mem → Option R) : (qw KK).er = some (scOf (qw (R := Unit) (fun _ _ => none))) := by kernel_rfl
def qdt {R : Type} : List AV → Mem → (AV → Mem → Option R) → Option R := refE qgq fun xs m KK => qd (bxC (m.s 0)) (q9 (gL [(entry xs) 0] 0)) (qdp KK)
theorem qhd {R : Type} : RefOk Try.prog 88 (qdt (R := R)) :=
  ref_mk (ac := fun KK => qw KK) tabOk follows Try.func88 (by kernel_rfl) qhb (fun KK => qg4 KK) (fun KK => qhc KK) rfl fun xs m KK => qha KK _ _ _ _ _
def qfn : Shp := ⟨[(0, .one (.l (.sl 8))), (1, .one (.fn 90 [(0, 0)]))], [.box true (lk qe)]⟩
def qc9 {R : Type} (KK : AV → Mem → Option R) := (fun v4 Ai Aj Ak Al => KK (.bool v4) (memOf [(some (.box true [(.bool Ai), (.int .u64 Aj), (.int .u64 Ak), (.int .i64 Al)]))]))
def qce {R : Type}  (v0 : List AV) (Ai : Bool) (Aj Ak Al : Int) (kr : Bool → Bool → Int → Int → Int → Option R) : Option R :=
  (q9 v0 Ai Aj Ak Al fun v4q1 b0_0q2 b0_1q3 b0_2q4 b0_3q5 => (kr (decide (v4q1 ≥ (0 : Int))) b0_0q2 b0_1q3 b0_2q4 b0_3q5))
def qbv {R : Type} := hull (qce (R := R))
theorem qda {R : Type} : qbv (R := R) = qce := hull_eq _
def qo {R : Type} (KK : AV → Mem → Option R) : AC R :=
  .seq (.reg [ao 4 (.mv (.c (.bool false)))]) (.seq (.reg [ao 5 (.mv 0),
 ao 6 (.mv 1),
 .st (.sel [5, 6] [0]),
 .callr (po 7 (.call 88 [5, 6])) 88 qdt,
 ao 8 (.bin .geq 7 (.c (.int .i64 0))),
 ao 4 (.mv 8)]) (.seq (.view [.sel [4] [0]]) (.ret)))
theorem qf1 {R : Type} (KK : AV → Mem → Option R) : AC.ok Try.prog (TIof Try.prog) 9 1 (kretr [.t 4] KK) (qo KK) := ok_of (zA qhd trivial)
theorem qf6 {R : Type} (KK : AV → Mem → Option R) (v0 : List AV) (Ai : Bool) (Aj Ak Al : Int) : den 1 (kretr [.t 4] KK) (qo KK) (envOf [(0, (.sl 8 v0)), (1, (.func 90 [(.ptr 0 0)]))]) (memOf [(some (.box true (qb Ai Aj Ak Al)))]) (kend (kretr [.t 4] KK)) = qbv v0 Ai Aj Ak Al (qc9 KK) := by
  rw [qda]; kernel_rfl
theorem qf7 : cFn (TIof Try.prog) Try.f68 = some ⟨9, [.t 4], scOf (qo (R := Unit) (fun _ _ => none))⟩ := by kernel_rfl
theorem qf8 {R : Type} (KK : AV → Mem → Option R) : (qo KK).er = some (scOf (qo (R := Unit) (fun _ _ => none))) := by kernel_rfl
def qdc {R : Type} : List AV → Mem → (AV → Mem → Option R) → Option R := refE qfn fun xs m KK => qd (bxC (m.s 0)) (qbv (gL [(entry xs) 0] 0)) (qc9 KK)
theorem qf9 {R : Type} : RefOk Try.prog 68 (qdc (R := R)) :=
  ref_mk (ac := fun KK => qo KK) tabOk follows Try.func68 (by kernel_rfl) qf7 (fun KK => qf1 KK) (fun KK => qf8 KK) rfl fun xs m KK => qf6 KK _ _ _ _ _
def q1v : Shp := ⟨[(0, .one (.l (.sl 8))), (1, .st (lk qe))], []⟩
def qo1 (v0 : List AV) (Aq : Bool) (Ar As At : Int) : Option Bool :=
  (qbv v0 Aq Ar As At fun v4q1 b0_0q2 b0_1q3 b0_2q4 b0_3q5 => (some v4q1))
def qga := hull qo1
theorem qua : qga = qo1 := hull_eq _
def qo2 : AC Bool :=
  .seq (.reg [ao 3 (.box 1),
 ao 4 (.mv (.c (.bool false)))]) (.seq (.reg [ao 5 (.mv 0),
 ao 6 (.mkf 90 [3]),
 .st (.sel [5, 6] [0]),
 .callr (po 7 (.call 68 [5, 6])) 68 qdc,
 ao 4 (.mv 7)]) (.ret))
theorem q3e : AC.ok Try.prog (TIof Try.prog) 8 0 (kret [.t 4] decB) qo2 := ok_of (zA qf9 trivial)
theorem q4w (v0 : List AV) (Aq : Bool) (Ar As At : Int) : den 0 (kret [.t 4] decB) qo2 (envOf [(0, (.sl 8 v0)), (1, .agg (qb Aq Ar As At))]) (memOf []) (kend (kret [.t 4] decB)) = qga v0 Aq Ar As At := by
  rw [qua]; kernel_rfl
theorem q4x : cFn (TIof Try.prog) Try.f52 = some ⟨8, [.t 4], scOf qo2⟩ := by kernel_rfl
def q4y (xs : List AV) : Option Bool := qd ((entry xs) 1).cells (qga (gL [(entry xs) 0] 0))
def qjy {R : Type} : List AV → (AV → Option R) → Option R := entF q1v q4y AV.bool
theorem qo3 {R : Type} : EntOkB Try.prog 52 (qjy (R := R)) :=
  ent_mk tabOk follows Try.func52 (by kernel_rfl) q4x hdeB q3e (er_of (by kernel_rfl)) fun xs => q4w _ _ _ _ _
def qbi (l : List AV) : Option (List AV) := hClone 80 l
def qd6 {R : Type} (xs : List AV) (K : AV → Option R) : Option R := ent_hClone 8 80 xs K
theorem qii {R : Type} : EntOkB Try.prog 93 (qd6 (R := R)) := k_clone (ρ := rhoClone 93 4 22 34) tabOk (lay_clone follows "slices.Clone[[]ddi/api.Block,ddi/api.Block]" (by kernel_rfl) (by kernel_rfl) (by kernel_rfl) (by kernel_rfl) (by kernel_rfl) (by kernel_rfl) (by kernel_rfl) (by kernel_rfl)) (by kernel_rfl) (by decide) (by decide)
def q3f {R : Type} (vs : List AV) (m : Mem) (K : AV → Mem → Option R) : Option R := e_hDelete 8 vs m K
theorem qbci {R : Type} : RefOk Try.prog 95 (q3f (R := R)) := k_delete' (ρ := rhoDelete 95 0 3 4 22 34) tabOk (lay_delete follows "slices.Delete[[]ddi/api.Block,ddi/api.Block]" (by kernel_rfl) (by kernel_rfl) (by kernel_rfl) (by kernel_rfl) (by kernel_rfl) (by kernel_rfl) (by kernel_rfl) (by kernel_rfl) (by kernel_rfl) (by kernel_rfl) (by kernel_rfl) (by kernel_rfl) (by kernel_rfl) (by kernel_rfl)) (by kernel_rfl) (by decide)
def q3g : Shp := ⟨[(0, .one (.l (.sl 8))), (1, .one (.l (.i .i64)))], []⟩
def qql (v0 : List AV) (v1 : Int) : Option (List AV) :=
  (oB (qbi v0) fun r1 => (bif hd r1 r1.length then (oB (hDelete r1 v1 (IntKind.i64.wrap (v1 + (1 : Int)))) fun r2 => (bif hd r2 r2.length then (some r2) else none)) else none))
def qeq := hull qql
theorem qvs : qeq = qql := hull_eq _
def qqm : AC (List AV) :=
  .seq (.reg [ao 4 (.mv (.c .nils))]) (.seq (.reg [ao 5 (.mv 0),
 .call (po 6 (.call 93 [5])) 93 qd6,
 ao 7 (.mv 1),
 ao 8 (.mv 1),
 ao 9 (.bin .add 8 (.c (.int .i64 1))),
 .callr (po 10 (.call 95 [6, 7, 9])) 95 q3f,
 ao 4 (.mv 10)]) (.ret))
theorem q4z : AC.ok Try.prog (TIof Try.prog) 11 0 (kret [.t 4] (decF true 8)) qqm := ok_of (zA (EntOkB.ok qii) (zA qbci trivial))
theorem q7d (v0 : List AV) (v1 : Int) : den 0 (kret [.t 4] (decF true 8)) qqm (envOf [(0, (.sl 8 v0)), (1, (.int .i64 v1))]) (memOf []) (kend (kret [.t 4] (decF true 8))) = qeq v0 v1 := by
  rw [qvs]; kernel_rfl
theorem q7e : cFn (TIof Try.prog) Try.f56 = some ⟨11, [.t 4], scOf qqm⟩ := by kernel_rfl
def q7f (xs : List AV) : Option (List AV) := qeq (gL [(entry xs) 0] 0) (gI [(entry xs) 1] 0)
def qij {R : Type} : List AV → (AV → Option R) → Option R := entF q3g q7f (AV.fr true 8)
theorem ql4 {R : Type} : EntOkB Try.prog 56 (qij (R := R)) :=
  ent_mk tabOk follows Try.func56 (by kernel_rfl) q7e hdeF q4z (er_of (by kernel_rfl)) fun xs => q7d _ _
def qo4 (z : AV) : Option ((List AV) × Int) := cond (fitTup [(.one (.sl 8)), (.one (.i .i64))] z) (some (aL (gC (tpL z) 0), aI (gC (tpL z) 1))) none
def q40 (r : (List AV) × Int) : AV := .tup [.sl 8 r.1, .int .i64 r.2]
def q41 : Shp := ⟨[(0, .one (.l (.sl 8))), (1, .st (lk qe))], []⟩
def qr2 (v0 : List AV) (Aq : Bool) (Ar As At : Int) : Option ((List AV) × Int) :=
  (oB (qeg v0 Aq Ar As At) fun r1 => (bif (decide (r1 < (0 : Int))) then (some (([] : List AV), (11 : Int))) else (oB (qga v0 Aq Ar As At) fun r2 => (bif r2 then (some (([] : List AV), (25 : Int))) else (oB (qeq v0 r1) fun r3 => (some (r3, (0 : Int))))))))
def qj7 := hull qr2
theorem qwx : qj7 = qr2 := hull_eq _
def qr3 : AC ((List AV) × Int) :=
  .seq (.reg [ao 3 (.box 1),
 ao 4 (.mv (.c .nils)),
 ao 5 (.mv (.c (.int .i64 0)))]) (.seq (.reg [ao 7 (.mv 0),
 ao 8 (.load true 4 3),
 .call (po 9 (.call 51 [7, 8])) 51 qeh,
 ao 6 (.mv 9)]) (.seq (.seq (.reg [ao 10 (.mv 6),
 ao 11 (.bin .lss 10 (.c (.int .i64 0)))]) (.cond 11 (.seq (.reg [ao 4 (.mv (.c .nils)),
 ao 5 (.mv (.c (.int .i64 11)))]) (.seq (.view [.eta 4 (.one (.sl 8))]) (.ret))) (.skip))) (.seq (.seq (.reg [ao 12 (.mv 0),
 ao 13 (.load true 4 3),
 .call (po 14 (.call 52 [12, 13])) 52 qjy]) (.cond 14 (.seq (.reg [ao 4 (.mv (.c .nils)),
 ao 5 (.mv (.c (.int .i64 25)))]) (.seq (.view [.eta 4 (.one (.sl 8))]) (.ret))) (.skip))) (.seq (.reg [ao 15 (.mv 0),
 ao 16 (.mv 6),
 .callc (po 17 (.call 56 [15, 16])) 56 qij,
 ao 4 (.mv 17),
 ao 5 (.mv (.c (.int .i64 0)))]) (.ret)))))
theorem q7g : AC.ok Try.prog (TIof Try.prog) 18 0 (kret [.t 4, .t 5] qo4) qr3 := ok_of (zA (EntOkB.ok qhr) (zA (EntOkB.ok qo3) (zA (EntOkB.ok ql4) trivial)))
theorem q8y (v0 : List AV) (Aq : Bool) (Ar As At : Int) : den 0 (kret [.t 4, .t 5] qo4) qr3 (envOf [(0, (.sl 8 v0)), (1, .agg (qb Aq Ar As At))]) (memOf []) (kend (kret [.t 4, .t 5] qo4)) = qj7 v0 Aq Ar As At := by
  rw [qwx]; kernel_rfl
theorem q8z : cFn (TIof Try.prog) Try.f17 = some ⟨18, [.t 4, .t 5], scOf qr3⟩ := by kernel_rfl
def q80 (xs : List AV) : Option ((List AV) × Int) := qd ((entry xs) 1).cells (qj7 (gL [(entry xs) 0] 0))
def qvt {R : Type} : List AV → (AV → Option R) → Option R := entF q41 q80 q40
theorem q81 {R : Type} : EntOkB Try.prog 17 (qvt (R := R)) :=
  ent_mk tabOk follows Try.func17 (by kernel_rfl) q8z (fun z r h => by
 obtain ⟨h1, h2⟩ := cond_some h
 cases h2
 exact (fitTup_eq h1).symm) q7g (er_of (by kernel_rfl)) fun xs => q8y _ _ _ _ _
def q82 : Shp := ⟨[(0, .one (.l (.i .u64))), (1, .one (.l (.i .i64)))], []⟩
def q03 (v0 v1 : Int) : Option AV :=
  (some (.agg [(.bool false), (.int .u64 (0 : Int)), (.int .u64 v0), (.int .i64 v1)]))
def qe0 := hull q03
theorem qzc : qe0 = q03 := hull_eq _
def qu2 : AC AV :=
  .seq (.reg [ao 4 (.alloc [(.bool false), (.int .u64 0), (.int .u64 0), (.int .i64 0)])]) (.seq (.reg [ao 5 (.mv 0),
 ao 6 (.build [(.bool false), (.int .u64 0), (.int .u64 0)] [(2, (1, 5))]),
 ao 7 (.mv 1),
 ao 8 (.build [(.bool false), (.int .u64 0), (.int .u64 0), (.int .i64 0)] [(0, (3, 6)), (3, (1, 7))]),
 an (.store 4 4 8)]) (.ret))
theorem qbaw : AC.ok Try.prog (TIof Try.prog) 9 0 (kret [(.cell 4 true 4)] (decT [.b, (.i .u64), (.i .u64), (.i .i64)])) qu2 := ok_of trivial
theorem qbbs (v0 v1 : Int) : den 0 (kret [(.cell 4 true 4)] (decT [.b, (.i .u64), (.i .u64), (.i .i64)])) qu2 (envOf [(0, (.int .u64 v0)), (1, (.int .i64 v1))]) (memOf []) (kend (kret [(.cell 4 true 4)] (decT [.b, (.i .u64), (.i .u64), (.i .i64)]))) = qe0 v0 v1 := by
  rw [qzc]; kernel_rfl
theorem qbbt : cFn (TIof Try.prog) Try.f50 = some ⟨9, [(.cell 4 true 4)], scOf qu2⟩ := by kernel_rfl
def qbbu (xs : List AV) : Option AV := qe0 (gI [(entry xs) 0] 0) (gI [(entry xs) 1] 0)
def qeu {R : Type} : List AV → (AV → Option R) → Option R := entF q82 qbbu (etaRV (.st [.b, (.i .u64), (.i .u64), (.i .i64)]))
theorem qiu {R : Type} : EntOkB Try.prog 50 (qeu (R := R)) :=
  ent_mk tabOk follows Try.func50 (by kernel_rfl) qbbt hdeT qbaw (er_of (by kernel_rfl)) fun xs => qbbs _ _
def q1w : Shp := ⟨[(0, .st (lk qa)), (1, .one (.ptr 0 0))], [.box true (lk qa)]⟩
def qub {R : Type} (KK : AV → Mem → Option R) := (fun v3 Ai Aj Ak Al Am An Ao Ap => KK (.bool v3) (memOf [(some (.box true [(.bool Ai), (.int .u64 Aj), (.int .u64 Ak), (.int .i64 Al), (.int .i64 Am), (.str An), (.str Ao), (.int .i64 Ap)]))]))
def qo5 {R : Type}  (Aa : Bool) (Ab Ac Ad Ae : Int) (Af Ag : List UInt8) (Ah : Int) (Ai : Bool) (Aj Ak Al Am : Int) (An Ao : List UInt8) (Ap : Int) (kr : Bool → Bool → Int → Int → Int → Int → (List UInt8) → (List UInt8) → Int → Option R) : Option R :=
  (oB (qjl Aa Ab Ac Ad Ai Aj Ak Al) fun r1 => (kr (decide (r1 > (0 : Int))) Ai Aj Ak Al Am An Ao Ap))
def qkl {R : Type} := hull (qo5 (R := R))
theorem quc {R : Type} : qkl (R := R) = qo5 := hull_eq _
def qgh {R : Type} (KK : AV → Mem → Option R) : AC R :=
  .seq (.reg [ao 2 (.box 0),
 ao 3 (.mv (.c (.bool false)))]) (.seq (.reg [ao 4 (.fa 0 2),
 ao 5 (.load true 4 4),
 ao 6 (.fa 0 1),
 ao 7 (.load true 4 6),
 .call (po 8 (.call 40 [5, 7])) 40 qnw,
 ao 9 (.bin .gtr 8 (.c (.int .i64 0))),
 ao 3 (.mv 9)]) (.seq (.view [.sel [3] [0]]) (.ret)))
theorem q3h {R : Type} (KK : AV → Mem → Option R) : AC.ok Try.prog (TIof Try.prog) 10 1 (kretr [.t 3] KK) (qgh KK) := ok_of (zA (EntOkB.ok qwn) trivial)
theorem q42 {R : Type} (KK : AV → Mem → Option R) (Aa : Bool) (Ab Ac Ad Ae : Int) (Af Ag : List UInt8) (Ah : Int) (Ai : Bool) (Aj Ak Al Am : Int) (An Ao : List UInt8) (Ap : Int) : den 1 (kretr [.t 3] KK) (qgh KK) (envOf [(0, .agg (qc Aa Ab Ac Ad Ae Af Ag Ah)), (1, (.ptr 0 0))]) (memOf [(some (.box true (qc Ai Aj Ak Al Am An Ao Ap)))]) (kend (kretr [.t 3] KK)) = qkl Aa Ab Ac Ad Ae Af Ag Ah Ai Aj Ak Al Am An Ao Ap (qub KK) := by
  rw [quc]; kernel_rfl
theorem q43 : cFn (TIof Try.prog) Try.f91 = some ⟨10, [.t 3], scOf (qgh (R := Unit) (fun _ _ => none))⟩ := by kernel_rfl
theorem q44 {R : Type} (KK : AV → Mem → Option R) : (qgh KK).er = some (scOf (qgh (R := Unit) (fun _ _ => none))) := by kernel_rfl
def qvu {R : Type} : List AV → Mem → (AV → Mem → Option R) → Option R := refE q1w fun xs m KK => qf (bxC (m.s 0)) (qf ((entry xs) 0).cells (qkl)) (qub KK)
theorem q45 {R : Type} : RefOk Try.prog 91 (qvu (R := R)) :=
  ref_mk (ac := fun KK => qgh KK) tabOk follows Try.func91 (by kernel_rfl) q43 (fun KK => q3h KK) (fun KK => q44 KK) rfl fun xs m KK => q42 KK _ _ _ _ _ _ _ _ _ _ _ _ _ _ _ _
def qbm {R : Type}  (K : Ex → Env → Mem → Option R) := (fun z_b0_0 z_b0_1 z_b0_2 z_b0_3 z_b0_4 z_b0_5 z_b0_6 z_b0_7 => K (.exit 0) (envOf []) (memOf [(some (.box true (qc z_b0_0 z_b0_1 z_b0_2 z_b0_3 z_b0_4 z_b0_5 z_b0_6 z_b0_7)))]))
def qbs {R : Type} (KK : AV → Mem → Option R) := (fun v4 Ai Aj Ak Al Am An Ao Ap => KK (.int .i64 v4) (memOf [(some (.box true [(.bool Ai), (.int .u64 Aj), (.int .u64 Ak), (.int .i64 Al), (.int .i64 Am), (.str An), (.str Ao), (.int .i64 Ap)]))]))
def qgb : Shp := ⟨[(0, .one (.l (.sl 8))), (1, .one (.fn 91 [(0, 0)])), (7, .one (.l (.i .i64))), (8, .one (.l (.i .i64)))], [.box true (lk qa)]⟩
def qcf (v0 : List AV) (v7 v8 : Int) (Ai : Bool) (Aj Ak Al Am : Int) (An Ao : List UInt8) (Ap : Int) : Env := envOf [(0, (.sl 8 v0)), (1, (.func 91 [(.ptr 0 0)])), (7, (.int .i64 v7)), (8, (.int .i64 v8))]
def qcg (v0 : List AV) (v7 v8 : Int) (Ai : Bool) (Aj Ak Al Am : Int) (An Ao : List UInt8) (Ap : Int) : Mem := memOf [(some (.box true (qc Ai Aj Ak Al Am An Ao Ap)))]
def qr {R : Type}  (v0 : List AV) (v7 v8 : Int) (Ai : Bool) (Aj Ak Al Am : Int) (An Ao : List UInt8) (Ap : Int) (next : Int → Bool → Int → Int → Int → Int → (List UInt8) → (List UInt8) → Int → Option R) (kx0 : Bool → Int → Int → Int → Int → (List UInt8) → (List UInt8) → Int → Option R) (kr : Int → Bool → Int → Int → Int → Int → (List UInt8) → (List UInt8) → Int → Option R) : Option R :=
  (bif (decide (v8 < v7)) then (oB (ixB v0 v8) fun y1 => (bif fitC qa y1.cells then (qkl (gB y1.cells 0) (gI y1.cells 1) (gI y1.cells 2) (gI y1.cells 3) (gI y1.cells 4) (gS y1.cells 5) (gS y1.cells 6) (gI y1.cells 7) Ai Aj Ak Al Am An Ao Ap fun v3q2 b0_0q3 b0_1q4 b0_2q5 b0_3q6 b0_4q7 b0_5q8 b0_6q9 b0_7q10 => (bif v3q2 then (kr v8 b0_0q3 b0_1q4 b0_2q5 b0_3q6 b0_4q7 b0_5q8 b0_6q9 b0_7q10) else (next (IntKind.i64.wrap (v8 + (1 : Int))) b0_0q3 b0_1q4 b0_2q5 b0_3q6 b0_4q7 b0_5q8 b0_6q9 b0_7q10))) else none)) else (kx0 Ai Aj Ak Al Am An Ao Ap))
def qbw {R : Type}  (v0 : List AV) (v7 : Int) (kx0 : Bool → Int → Int → Int → Int → (List UInt8) → (List UInt8) → Int → Option R) (kr : Int → Bool → Int → Int → Int → Int → (List UInt8) → (List UInt8) → Int → Option R) : Nat → Int → Bool → Int → Int → Int → Int → (List UInt8) → (List UInt8) → Int → Option R
  | 0 => (fun _ _ _ _ _ _ _ _ _ => none)
  | n + 1 => (fun v8 Ai Aj Ak Al Am An Ao Ap => qr v0 v7 v8 Ai Aj Ak Al Am An Ao Ap (qbw v0 v7 kx0 kr n) kx0 kr)
def qby {R : Type} := hull (qbw (R := R))
theorem qdh {R : Type} : qby (R := R) = qbw := hull_eq _
def qt {R : Type} (KK : AV → Mem → Option R) : AC R :=
  .seq (.reg [ao 9 (.bin .lss 8 7)]) (.seq (.cond 9 (.skip) (.seq (.view [.sel [] [0]]) (.exit 0))) (.seq (.block 1 (.seq (.reg [ao 10 (.mv 8),
 ao 5 (.mv 10)]) (.seq (.reg [ao 11 (.mv 1),
 ao 12 (.mv 0),
 ao 13 (.mv 5),
 ao 14 (.ia 8 12 13),
 .st (.etac 14 qa),
 ao 15 (.load true 8 14),
 .st (.sel [0, 1, 5, 7, 8, 11, 15] [0]),
 .callr (po 16 (.callv 11 [15])) 91 qvu]) (.cond 16 (.seq (.reg [ao 17 (.mv 5),
 ao 4 (.mv 17)]) (.seq (.view [.sel [4] [0]]) (.ret))) (.skip))))) (.seq (.reg [ao 18 (.bin .add 8 (.c (.int .i64 1))),
 ao 8 (.mv 18)]) (.view [.sel [0, 1, 7, 8] [0]]))))
theorem qgr {R : Type} (KK : AV → Mem → Option R) : AC.ok Try.prog (TIof Try.prog) 19 1 (kretr [.t 4] KK) (qt KK) := ok_of (zA q45 trivial)
theorem qgc {R : Type} (KK : AV → Mem → Option R) (v0 : List AV) (v7 v8 : Int) (Ai : Bool) (Aj Ak Al Am : Int) (An Ao : List UInt8) (Ap : Int) (K : Ex → Env → Mem → Option R) : den 1 (kretr [.t 4] KK) (qt KK) (qcf v0 v7 v8 Ai Aj Ak Al Am An Ao Ap) (qcg v0 v7 v8 Ai Aj Ak Al Am An Ao Ap) K = qr v0 v7 v8 Ai Aj Ak Al Am An Ao Ap (fun z_v8 z_b0_0 z_b0_1 z_b0_2 z_b0_3 z_b0_4 z_b0_5 z_b0_6 z_b0_7 => K .norm (qcf v0 v7 z_v8 z_b0_0 z_b0_1 z_b0_2 z_b0_3 z_b0_4 z_b0_5 z_b0_6 z_b0_7) (qcg v0 v7 z_v8 z_b0_0 z_b0_1 z_b0_2 z_b0_3 z_b0_4 z_b0_5 z_b0_6 z_b0_7)) (qbm K) (qbs KK) := by kernel_rfl
theorem qg5 {R : Type} (KK : AV → Mem → Option R) (v0 : List AV) (v7 : Int) (K : Ex → Env → Mem → Option R) : ∀ (n : Nat) (v8 : Int) (Ai : Bool) (Aj Ak Al Am : Int) (An Ao : List UInt8) (Ap : Int), iterD (den 1 (kretr [.t 4] KK) (qt KK)) n (qcf v0 v7 v8 Ai Aj Ak Al Am An Ao Ap) (qcg v0 v7 v8 Ai Aj Ak Al Am An Ao Ap) K = qby v0 v7 (qbm K) (qbs KK) n v8 Ai Aj Ak Al Am An Ao Ap := by
  rw [qdh]
  intro n
  induction n with
  | zero => intros; rfl
  | succ n ih =>
 intro v8 Ai Aj Ak Al Am An Ao Ap
 exact (qgc KK v0 v7 v8 Ai Aj Ak Al Am An Ao Ap (itK (den 1 (kretr [.t 4] KK) (qt KK)) n K)).trans (congrArg (fun q => qr v0 v7 v8 Ai Aj Ak Al Am An Ao Ap q (qbm K) (qbs KK)) (funext fun v8 => funext fun Ai => funext fun Aj => funext fun Ak => funext fun Al => funext fun Am => funext fun An => funext fun Ao => funext fun Ap => ih v8 Ai Aj Ak Al Am An Ao Ap))
def qdr {R : Type} (KK : AV → Mem → Option R) := subE (R := R) qgb fun t m K => qf (bxC (m.s 0)) (qby (gL [t 0] 0) (gI [t 7] 0) (qbm K) (qbs KK) FU (gI [t 8] 0))
theorem qg6 {R : Type} (KK : AV → Mem → Option R) : SubOk Try.prog (TIof Try.prog) 19 1 (kretr [.t 4] KK) (.loop (scOf (qt KK))) (qdr KK) :=
  loop_mk tabOk follows (qgr KK) (er_of (by kernel_rfl)) fun t m K => qg5 KK _ _ K FU _ _ _ _ _ _ _ _ _
def qhe : Shp := ⟨[(0, .one (.l (.sl 8))), (1, .one (.fn 91 [(0, 0)]))], [.box true (lk qa)]⟩
def qdu {R : Type} (KK : AV → Mem → Option R) := (fun v4 Ai Aj Ak Al Am An Ao Ap => KK (.int .i64 v4) (memOf [(some (.box true [(.bool Ai), (.int .u64 Aj), (.int .u64 Ak), (.int .i64 Al), (.int .i64 Am), (.str An), (.str Ao), (.int .i64 Ap)]))]))
def qcq {R : Type}  (v0 : List AV) (Ai : Bool) (Aj Ak Al Am : Int) (An Ao : List UInt8) (Ap : Int) (kr : Int → Bool → Int → Int → Int → Int → (List UInt8) → (List UInt8) → Int → Option R) : Option R :=
  (qby v0 (v0.length : Int) (fun b0_0q1 b0_1q2 b0_2q3 b0_3q4 b0_4q5 b0_5q6 b0_6q7 b0_7q8 => (kr (-1 : Int) b0_0q1 b0_1q2 b0_2q3 b0_3q4 b0_4q5 b0_5q6 b0_6q7 b0_7q8)) kr FU (0 : Int) Ai Aj Ak Al Am An Ao Ap)
def qbc {R : Type} := hull (qcq (R := R))
theorem qdv {R : Type} : qbc (R := R) = qcq := hull_eq _
def qx {R : Type} (KK : AV → Mem → Option R) : AC R :=
  .seq (.reg [ao 4 (.mv (.c (.int .i64 0)))]) (.seq (.seq (.reg [ao 6 (.mv 0),
 ao 7 (.len false 6),
 ao 8 (.mv (.c (.int .i64 0)))]) (.block 0 (.seq (.view [.sel [0, 1, 7, 8] [0]]) (.sub (.loop (scOf (qt KK))) (qdr KK))))) (.seq (.reg [ao 4 (.mv (.c (.int .i64 (-1))))]) (.seq (.view [.sel [4] [0]]) (.ret))))
theorem qhs {R : Type} (KK : AV → Mem → Option R) : AC.ok Try.prog (TIof Try.prog) 19 1 (kretr [.t 4] KK) (qx KK) := ok_of (zA (qg6 KK) trivial)
theorem qh4 {R : Type} (KK : AV → Mem → Option R) (v0 : List AV) (Ai : Bool) (Aj Ak Al Am : Int) (An Ao : List UInt8) (Ap : Int) : den 1 (kretr [.t 4] KK) (qx KK) (envOf [(0, (.sl 8 v0)), (1, (.func 91 [(.ptr 0 0)]))]) (memOf [(some (.box true (qc Ai Aj Ak Al Am An Ao Ap)))]) (kend (kretr [.t 4] KK)) = qbc v0 Ai Aj Ak Al Am An Ao Ap (qdu KK) := by
  rw [qdv]; kernel_rfl
theorem qh5 : cFn (TIof Try.prog) Try.f88 = some ⟨19, [.t 4], scOf (qx (R := Unit) (fun _ _ => none))⟩ := by kernel_rfl
theorem qh6 {R : Type} (KK : AV → Mem → Option R) : (qx KK).er = some (scOf (qx (R := Unit) (fun _ _ => none))) := by kernel_rfl
def qdy {R : Type} : List AV → Mem → (AV → Mem → Option R) → Option R := refE qhe fun xs m KK => qf (bxC (m.s 0)) (qbc (gL [(entry xs) 0] 0)) (qdu KK)
theorem qh7 {R : Type} : RefOk Try.prog 88 (qdy (R := R)) :=
  ref_mk (ac := fun KK => qx KK) tabOk follows Try.func88 (by kernel_rfl) qh5 (fun KK => qhs KK) (fun KK => qh6 KK) rfl fun xs m KK => qh4 KK _ _ _ _ _ _ _ _ _
def q3i {R : Type} (vs : List AV) (m : Mem) (K : AV → Mem → Option R) : Option R := e_hInsert 8 80 vs m K
theorem qbcj {R : Type} : RefOk Try.prog 92 (q3i (R := R)) := k_insert' (ρ := rhoInsert 92 102 103 0 3 4 22 34) tabOk (lay_insert follows "slices.Insert[[]ddi/api.Block,ddi/api.Block]" (by kernel_rfl) (by kernel_rfl) Try.func102 (by kernel_rfl) (by kernel_rfl) (by kernel_rfl) (by kernel_rfl) (by kernel_rfl) (by kernel_rfl) (by kernel_rfl) (by kernel_rfl) (by kernel_rfl) (by kernel_rfl) (by kernel_rfl) (by kernel_rfl) (by kernel_rfl) (by kernel_rfl) (by kernel_rfl) (by kernel_rfl) (by kernel_rfl)) (by kernel_rfl) (by kernel_rfl) (by decide) (by decide)
def qsz  (v0 : List AV) (Ai : Bool) (Aj Ak Al Am : Int) (An Ao : List UInt8) (Ap : Int) (K : Ex → Env → Mem → Option (List AV)) := (fun z_v5 => K .norm (envOf [(0, (.sl 8 v0)), (3, (.ptr 0 0)), (5, (.int .i64 z_v5))]) (memOf [(some (.box true (qc Ai Aj Ak Al Am An Ao Ap)))]))
def q0o : Shp := ⟨[(0, .one (.l (.sl 8))), (3, .one (.ptr 0 0)), (5, .one (.l (.i .i64)))], [.box true (lk qa)]⟩
def qn8  (v0 : List AV) (v5 : Int) (Ai : Bool) (Aj Ak Al Am : Int) (An Ao : List UInt8) (Ap : Int) (kn : Int → Option (List AV)) : Option (List AV) :=
  (bif (decide (v5 < (0 : Int))) then (kn (v0.length : Int)) else (kn v5))
def ql5 := hull (qn8)
theorem qs0 : ql5 = qn8 := hull_eq _
def qkm : AC (List AV) :=
  .seq (.reg [ao 9 (.mv 5),
 ao 10 (.bin .lss 9 (.c (.int .i64 0)))]) (.cond 10 (.seq (.reg [ao 11 (.mv 0),
 ao 12 (.len false 11),
 ao 5 (.mv 12)]) (.view [.sel [0, 3, 5] [0]])) (.seq (.skip) (.view [.sel [0, 3, 5] [0]])))
theorem q1x : AC.ok Try.prog (TIof Try.prog) 19 0 (kret [.t 4] (decF true 8)) qkm := ok_of trivial
theorem q3j (v0 : List AV) (v5 : Int) (Ai : Bool) (Aj Ak Al Am : Int) (An Ao : List UInt8) (Ap : Int) (K : Ex → Env → Mem → Option (List AV)) : den 0 (kret [.t 4] (decF true 8)) qkm (envOf [(0, (.sl 8 v0)), (3, (.ptr 0 0)), (5, (.int .i64 v5))]) (memOf [(some (.box true (qc Ai Aj Ak Al Am An Ao Ap)))]) K = ql5 v0 v5 Ai Aj Ak Al Am An Ao Ap (qsz v0 Ai Aj Ak Al Am An Ao Ap K) := by
  rw [qs0]; kernel_rfl
def qud := subE (R := (List AV)) q0o fun t m K => qf (bxC (m.s 0)) (ql5 (gL [t 0] 0) (gI [t 5] 0)) (qsz (gL [t 0] 0) (gB (bxC (m.s 0)) 0) (gI (bxC (m.s 0)) 1) (gI (bxC (m.s 0)) 2) (gI (bxC (m.s 0)) 3) (gI (bxC (m.s 0)) 4) (gS (bxC (m.s 0)) 5) (gS (bxC (m.s 0)) 6) (gI (bxC (m.s 0)) 7) K)
theorem q3k : SubOk Try.prog (TIof Try.prog) 19 0 (kret [.t 4] (decF true 8)) (scOf qkm) (qud) :=
  sub_mk tabOk follows (q1x) (er_of (by kernel_rfl)) fun t m K => q3j _ _ _ _ _ _ _ _ _ _ K
def q46 : Shp := ⟨[(0, .one (.l (.sl 8))), (1, .st (lk qa))], []⟩
def qr4 (v0 : List AV) (Aq : Bool) (Ar As At Ay : Int) (Az A0 : List UInt8) (A1 : Int) : Option (List AV) :=
  (qbc v0 Aq Ar As At Ay Az A0 A1 fun v4q1 b0_0q2 b0_1q3 b0_2q4 b0_3q5 b0_4q6 b0_5q7 b0_6q8 b0_7q9 => (ql5 v0 v4q1 b0_0q2 b0_1q3 b0_2q4 b0_3q5 b0_4q6 b0_5q7 b0_6q8 b0_7q9 (fun v5q10 => (oB (qbi v0) fun r11 => (bif hd r11 r11.length then (bif hd ([(.agg [(.bool b0_0q2), (.int .u64 b0_1q3), (.int .u64 b0_2q4), (.int .i64 b0_3q5), (.int .i64 b0_4q6), (.str b0_5q7), (.str b0_6q8), (.int .i64 b0_7q9)])] : List AV) (([(.agg [(.bool b0_0q2), (.int .u64 b0_1q3), (.int .u64 b0_2q4), (.int .i64 b0_3q5), (.int .i64 b0_4q6), (.str b0_5q7), (.str b0_6q8), (.int .i64 b0_7q9)])] : List AV).length) then (oB (hInsert 80 r11 v5q10 ([(.agg [(.bool b0_0q2), (.int .u64 b0_1q3), (.int .u64 b0_2q4), (.int .i64 b0_3q5), (.int .i64 b0_4q6), (.str b0_5q7), (.str b0_6q8), (.int .i64 b0_7q9)])] : List AV)) fun r12 => (bif hd r12 r12.length then (some r12) else none)) else none) else none)))))
def qe3 := hull qr4
theorem qwy : qe3 = qr4 := hull_eq _
def qr5 : AC (List AV) :=
  .seq (.reg [ao 3 (.box 1),
 ao 4 (.mv (.c .nils))]) (.seq (.reg [ao 6 (.mv 0),
 ao 7 (.mkf 91 [3]),
 .st (.sel [0, 3, 6, 7] [0]),
 .callr (po 8 (.call 88 [6, 7])) 88 qdy,
 ao 5 (.mv 8)]) (.seq (.seq (.view [.sel [0, 3, 5] [0]]) (.sub (scOf qkm) qud)) (.seq (.draw3 [] [14, 17] [ao 13 (.mv 0),
 .call (po 14 (.call 93 [13])) 93 qd6,
 ao 15 (.mv 5),
 ao 16 (.load true 8 3),
 ao 17 (.bsl 8 [16])] [.callr (po 18 (.call 92 [14, 15, 17])) 92 q3i,
 ao 4 (.mv 18)]) (.ret))))
theorem q7h : AC.ok Try.prog (TIof Try.prog) 19 0 (kret [.t 4] (decF true 8)) qr5 := ok_of (zA qh7 (zA q3k (zA (EntOkB.ok qii) (zA qbcj (zA rfl trivial)))))
theorem q83 (v0 : List AV) (Aq : Bool) (Ar As At Ay : Int) (Az A0 : List UInt8) (A1 : Int) : den 0 (kret [.t 4] (decF true 8)) qr5 (envOf [(0, (.sl 8 v0)), (1, .agg (qc Aq Ar As At Ay Az A0 A1))]) (memOf []) (kend (kret [.t 4] (decF true 8))) = qe3 v0 Aq Ar As At Ay Az A0 A1 := by
  rw [qwy]; kernel_rfl
theorem q84 : cFn (TIof Try.prog) Try.f53 = some ⟨19, [.t 4], scOf qr5⟩ := by kernel_rfl
def q85 (xs : List AV) : Option (List AV) := qf ((entry xs) 1).cells (qe3 (gL [(entry xs) 0] 0))
def qi2 {R : Type} : List AV → (AV → Option R) → Option R := entF q46 q85 (AV.fr true 8)
theorem qna {R : Type} : EntOkB Try.prog 53 (qi2 (R := R)) :=
  ent_mk tabOk follows Try.func53 (by kernel_rfl) q84 hdeF q7h (er_of (by kernel_rfl)) fun xs => q83 _ _ _ _ _ _ _ _ _
def qjm (z : AV) : Option ((List AV) × Int) := cond (fitTup [(.one (.sl 8)), (.one (.i .i64))] z) (some (aL (gC (tpL z) 0), aI (gC (tpL z) 1))) none
def qbax (r : (List AV) × Int) : AV := .tup [.sl 8 r.1, .int .i64 r.2]
def qvv  (v0 : List AV) (Ai : Bool) (Aj Ak Al Am : Int) (An Ao : List UInt8) (Ap : Int) (K : Ex → Env → Mem → Option ((List AV) × Int)) := (fun z_v25 => K .norm (envOf [(0, (.sl 8 v0)), (3, (.ptr 0 0)), (25, (.bool z_v25))]) (memOf [(some (.box true (qc Ai Aj Ak Al Am An Ao Ap)))]))
def q3l : Shp := ⟨[(0, .one (.l (.sl 8))), (3, .one (.ptr 0 0))], [.box true (lk qa)]⟩
def qqn  (v0 : List AV) (Ai : Bool) (Aj Ak Al Am : Int) (An Ao : List UInt8) (Ap : Int) (kn : Bool → Option ((List AV) × Int)) : Option ((List AV) × Int) :=
  (oB (qe5 v0 Ai Aj Ak Al Am An Ao Ap) fun r1 => (bif r1 then (kn true) else (oB (qga v0 Ai Aj Ak Al) fun r2 => (kn r2))))
def qol := hull (qqn)
theorem qvw : qol = qqn := hull_eq _
def ql6 : AC ((List AV) × Int) :=
  .seq (.reg [ao 17 (.mv 0),
 ao 18 (.load true 8 3),
 .call (po 19 (.call 44 [17, 18])) 44 qlv,
 ao 20 (.mv 19),
 ag 21 20 false (.mv 0),
 ag 22 20 false (.fa 0 3),
 ag 23 20 false (.load true 4 22),
 .call (pg 24 20 false (.call 52 [21, 23])) 52 qjy,
 ao 25 (.pick 20 (.c (.bool true)) 24)]) (.view [.sel [0, 3, 25] [0]])
theorem q47 : AC.ok Try.prog (TIof Try.prog) 32 0 (kret [.t 4, .t 5] qjm) ql6 := ok_of (zA (EntOkB.ok qt0) (zA (EntOkB.ok qo3) trivial))
theorem q7i (v0 : List AV) (Ai : Bool) (Aj Ak Al Am : Int) (An Ao : List UInt8) (Ap : Int) (K : Ex → Env → Mem → Option ((List AV) × Int)) : den 0 (kret [.t 4, .t 5] qjm) ql6 (envOf [(0, (.sl 8 v0)), (3, (.ptr 0 0))]) (memOf [(some (.box true (qc Ai Aj Ak Al Am An Ao Ap)))]) K = qol v0 Ai Aj Ak Al Am An Ao Ap (qvv v0 Ai Aj Ak Al Am An Ao Ap K) := by
  rw [qvw]; kernel_rfl
def qwz := subE (R := (List AV) × Int) q3l fun t m K => qf (bxC (m.s 0)) (qol (gL [t 0] 0)) (qvv (gL [t 0] 0) (gB (bxC (m.s 0)) 0) (gI (bxC (m.s 0)) 1) (gI (bxC (m.s 0)) 2) (gI (bxC (m.s 0)) 3) (gI (bxC (m.s 0)) 4) (gS (bxC (m.s 0)) 5) (gS (bxC (m.s 0)) 6) (gI (bxC (m.s 0)) 7) K)
theorem q7j : SubOk Try.prog (TIof Try.prog) 32 0 (kret [.t 4, .t 5] qjm) (scOf ql6) (qwz) :=
  sub_mk tabOk follows (q47) (er_of (by kernel_rfl)) fun t m K => q7i _ _ _ _ _ _ _ _ _ K
def qbay : Shp := ⟨[(0, .one (.l (.sl 8))), (1, .st (lk qa))], []⟩
def qw0 (v0 : List AV) (Aq : Bool) (Ar As At Ay : Int) (Az A0 : List UInt8) (A1 : Int) : Option ((List AV) × Int) :=
  (oB (qjn Aq Ar As At Ay Az A0 A1) fun r1 => (bif (r1 != (0 : Int)) then (some (([] : List AV), r1)) else (oB (qeg v0 Aq Ar As At) fun r2 => (bif (decide (r2 ≥ (0 : Int))) then (some (([] : List AV), (12 : Int))) else (qol v0 Aq Ar As At Ay Az A0 A1 (fun v25q3 => (bif v25q3 then (some (([] : List AV), (24 : Int))) else (bif (decide ((v0.length : Int) ≥ (512 : Int))) then (some (([] : List AV), (9 : Int))) else (oB (qe3 v0 Aq Ar As At Ay Az A0 A1) fun r4 => (some (r4, (0 : Int))))))))))))
def qom := hull qw0
theorem q04 : qom = qw0 := hull_eq _
def qw1 : AC ((List AV) × Int) :=
  .seq (.reg [ao 3 (.box 1),
 ao 4 (.mv (.c .nils)),
 ao 5 (.mv (.c (.int .i64 0)))]) (.seq (.seq (.reg [ao 7 (.load true 8 3),
 .call (po 8 (.call 43 [7])) 43 qp5,
 ao 6 (.mv 8)]) (.seq (.reg [ao 9 (.mv 6),
 ao 10 (.bin .neq 9 (.c (.int .i64 0)))]) (.cond 10 (.seq (.reg [ao 11 (.mv 6),
 ao 4 (.mv (.c .nils)),
 ao 5 (.mv 11)]) (.seq (.view [.eta 4 (.one (.sl 8))]) (.ret))) (.skip)))) (.seq (.seq (.reg [ao 12 (.mv 0),
 ao 13 (.fa 0 3),
 ao 14 (.load true 4 13),
 .call (po 15 (.call 51 [12, 14])) 51 qeh,
 ao 16 (.bin .geq 15 (.c (.int .i64 0)))]) (.cond 16 (.seq (.reg [ao 4 (.mv (.c .nils)),
 ao 5 (.mv (.c (.int .i64 12)))]) (.seq (.view [.eta 4 (.one (.sl 8))]) (.ret))) (.skip))) (.seq (.seq (.seq (.view [.sel [0, 3] [0]]) (.sub (scOf ql6) qwz)) (.cond 25 (.seq (.reg [ao 4 (.mv (.c .nils)),
 ao 5 (.mv (.c (.int .i64 24)))]) (.seq (.view [.eta 4 (.one (.sl 8))]) (.ret))) (.skip))) (.seq (.seq (.reg [ao 26 (.mv 0),
 ao 27 (.len false 26),
 ao 28 (.bin .geq 27 (.c (.int .i64 512)))]) (.cond 28 (.seq (.reg [ao 4 (.mv (.c .nils)),
 ao 5 (.mv (.c (.int .i64 9)))]) (.seq (.view [.eta 4 (.one (.sl 8))]) (.ret))) (.skip))) (.seq (.reg [ao 29 (.mv 0),
 ao 30 (.load true 8 3),
 .callc (po 31 (.call 53 [29, 30])) 53 qi2,
 ao 4 (.mv 31),
 ao 5 (.mv (.c (.int .i64 0)))]) (.ret))))))
theorem qbbv : AC.ok Try.prog (TIof Try.prog) 32 0 (kret [.t 4, .t 5] qjm) qw1 := ok_of (zA (EntOkB.ok qyv) (zA (EntOkB.ok qhr) (zA q7j (zA (EntOkB.ok qna) trivial))))
theorem qbck (v0 : List AV) (Aq : Bool) (Ar As At Ay : Int) (Az A0 : List UInt8) (A1 : Int) : den 0 (kret [.t 4, .t 5] qjm) qw1 (envOf [(0, (.sl 8 v0)), (1, .agg (qc Aq Ar As At Ay Az A0 A1))]) (memOf []) (kend (kret [.t 4, .t 5] qjm)) = qom v0 Aq Ar As At Ay Az A0 A1 := by
  rw [q04]; kernel_rfl
theorem qbcl : cFn (TIof Try.prog) Try.f15 = some ⟨32, [.t 4, .t 5], scOf qw1⟩ := by kernel_rfl
def qbcm (xs : List AV) : Option ((List AV) × Int) := qf ((entry xs) 1).cells (qom (gL [(entry xs) 0] 0))
def qzd {R : Type} : List AV → (AV → Option R) → Option R := entF qbay qbcm qbax
theorem qbcn {R : Type} : EntOkB Try.prog 15 (qzd (R := R)) :=
  ent_mk tabOk follows Try.func15 (by kernel_rfl) qbcl (fun z r h => by
 obtain ⟨h1, h2⟩ := cond_some h
 cases h2
 exact (fitTup_eq h1).symm) qbbv (er_of (by kernel_rfl)) fun xs => qbck _ _ _ _ _ _ _ _ _
end
end Go.Proofs.Ytmjdngnagiloeaa.Dn
