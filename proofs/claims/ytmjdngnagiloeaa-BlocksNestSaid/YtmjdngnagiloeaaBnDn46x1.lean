import Derived.Test.YtmjdngnagiloeaaProg
import Derived.Test.YtmjdngnagiloeaaBnLibD
set_option linter.all false
namespace Go.Proofs.Ytmjdngnagiloeaa.Dn
open Go Go.Pev
set_option linter.unusedVariables false
set_option linter.unusedSimpArgs false
set_option maxRecDepth 100000
set_option maxHeartbeats 4000000
theorem zT : True := True.intro
theorem zA {a b : Prop} (x : a) (y : b) : a ∧ b := ⟨x, y⟩
theorem tabOk : Tab.ok (TIof Try.prog) Try.prog := fun _ _ h => h
theorem follows : Try.prog.follows .mixedOrders = true := by kernel_rfl
def qa : List LT := [.b, (.i .u64), (.i .u64), (.i .i64), (.i .i64), .s, .s, (.i .i64)]
def qc (x0 : Bool) (x1 x2 x3 x4 : Int) (x5 x6 : List UInt8) (x7 : Int) : List AV := [.bool x0, .int .u64 x1, .int .u64 x2, .int .i64 x3, .int .i64 x4, .str x5, .str x6, .int .i64 x7]
def qh {β : Type} (cs : List AV) (f : Bool → Int → Int → Int → Int → List UInt8 → List UInt8 → Int → β) : β := f (gB cs 0) (gI cs 1) (gI cs 2) (gI cs 3) (gI cs 4) (gS cs 5) (gS cs 6) (gI cs 7)
def q6n : Shp := ⟨[(0, .st (lk qa))], []⟩
noncomputable section
def qr0 (Aa : Bool) (Ab Ac Ad Ae : Int) (Af Ag : List UInt8) (Ah : Int) : Option AV :=
  (oB (cutI Af none (some (if (100 : Int) < (Af.length : Int) then (100 : Int) else (Af.length : Int)))) fun s1 => (oB (cutI Ag none (some (if (100 : Int) < (Ag.length : Int) then (100 : Int) else (Ag.length : Int)))) fun s2 => (some (.agg [(.bool Aa), (.int .u64 Ab), (.int .u64 Ac), (.int .i64 Ad), (.int .i64 Ae), (.str s1), (.str s2), (.int .i64 Ah)]))))
def qmz := hull qr0
theorem qxw : qmz = qr0 := qk _
def qr1 : AC AV :=
  .seq (.reg [ao 1 (.box 0),
 ao 2 (.alloc [(.bool false), (.int .u64 0), (.int .u64 0), (.int .i64 0), (.int .i64 0), (.str []), (.str []), (.int .i64 0)])]) (.seq (.reg [ao 3 (.fa 5 1),
 ao 4 (.load false 1 3),
 ao 5 (.fa 5 1),
 ao 6 (.load false 1 5),
 ao 7 (.len true 6),
 ao 8 (.mm false 7 [(.c (.int .i64 100))]),
 ao 9 (.slcs 4 none (some 8)),
 ao 10 (.fa 5 1),
 an (.store 1 10 9)]) (.seq (.reg [ao 11 (.fa 6 1),
 ao 12 (.load false 1 11),
 ao 13 (.fa 6 1),
 ao 14 (.load false 1 13),
 ao 15 (.len true 14),
 ao 16 (.mm false 15 [(.c (.int .i64 100))]),
 ao 17 (.slcs 12 none (some 16)),
 ao 18 (.fa 6 1),
 an (.store 1 18 17)]) (.seq (.reg [ao 19 (.load true 8 1),
 an (.store 8 2 19)]) (.ret))))
theorem q9d : AC.ok Try.prog (TIof Try.prog) 20 0 (kret [(.cell 2 true 8)] (decT [.b, (.i .u64), (.i .u64), (.i .i64), (.i .i64), .s, .s, (.i .i64)])) qr1 := qo trivial
theorem qbbe (Aa : Bool) (Ab Ac Ad Ae : Int) (Af Ag : List UInt8) (Ah : Int) : den 0 (kret [(.cell 2 true 8)] (decT [.b, (.i .u64), (.i .u64), (.i .i64), (.i .i64), .s, .s, (.i .i64)])) qr1 (qj [(0, .agg (qc Aa Ab Ac Ad Ae Af Ag Ah))]) (qg []) (kend (kret [(.cell 2 true 8)] (decT [.b, (.i .u64), (.i .u64), (.i .i64), (.i .i64), .s, .s, (.i .i64)]))) = qmz Aa Ab Ac Ad Ae Af Ag Ah := by
  rw [qxw]; kernel_rfl
theorem qbbf : cFn (TIof Try.prog) Try.f42 = some ⟨20, [(.cell 2 true 8)], scOf qr1⟩ := by kernel_rfl
def qbbg (xs : List AV) : Option AV := qh ((ql xs) 0).cells (qmz)
def qv9 {R : Type} : List AV → (AV → Option R) → Option R := entF q6n qbbg (qpe (.st [.b, (.i .u64), (.i .u64), (.i .i64), (.i .i64), .s, .s, (.i .i64)]))
theorem qbbh {R : Type} : qd Try.prog 42 (qv9 (R := R)) :=
  qcg tabOk follows Try.func42 (by kernel_rfl) qbbf hdeT q9d (qbi (by kernel_rfl)) fun xs => qbbe _ _ _ _ _ _ _ _
def qls  (K : Ex → Env → Mem → Option (List AV)) := (fun z_a0 => K (.exit 0) (qj [(3, (.own 0 z_a0.length))]) (qg [(some (.arr true 8 z_a0))]))
def q5v : Shp := ⟨[(0, .one (.l (.sl 8))), (3, .one (.own 0)), (4, .one (.l (.i .i64)))], [.arr true 8]⟩
def qpo (v0 : List AV) (v4 : Int) (a0 : List AV) : Env := qj [(0, (.sl 8 v0)), (3, (.own 0 a0.length)), (4, (.int .i64 v4))]
def qpp (v0 : List AV) (v4 : Int) (a0 : List AV) : Mem := qg [(some (.arr true 8 a0))]
def qh1  (v0 : List AV) (v4 : Int) (a0 : List AV) (next : Int → (List AV) → Option (List AV)) (kx0 : (List AV) → Option (List AV)) : Option (List AV) :=
  (bif ((decide (v4 < (v0.length : Int))) && (decide (v4 < (30 : Int)))) then (oB (ixB v0 v4) fun y1 => (bif fitC qa y1.cells then (oB (qmz (gB y1.cells 0) (gI y1.cells 1) (gI y1.cells 2) (gI y1.cells 3) (gI y1.cells 4) (gS y1.cells 5) (gS y1.cells 6) (gI y1.cells 7)) fun r2 => (bif hd a0 a0.length then (bif hd ([(.agg [(.bool (gB r2.cells 0)), (.int .u64 (gI r2.cells 1)), (.int .u64 (gI r2.cells 2)), (.int .i64 (gI r2.cells 3)), (.int .i64 (gI r2.cells 4)), (.str (gS r2.cells 5)), (.str (gS r2.cells 6)), (.int .i64 (gI r2.cells 7))])] : List AV) (([(.agg [(.bool (gB r2.cells 0)), (.int .u64 (gI r2.cells 1)), (.int .u64 (gI r2.cells 2)), (.int .i64 (gI r2.cells 3)), (.int .i64 (gI r2.cells 4)), (.str (gS r2.cells 5)), (.str (gS r2.cells 6)), (.int .i64 (gI r2.cells 7))])] : List AV).length) then (bif decide ((a0.length + ([(.agg [(.bool (gB r2.cells 0)), (.int .u64 (gI r2.cells 1)), (.int .u64 (gI r2.cells 2)), (.int .i64 (gI r2.cells 3)), (.int .i64 (gI r2.cells 4)), (.str (gS r2.cells 5)), (.str (gS r2.cells 6)), (.int .i64 (gI r2.cells 7))])] : List AV).length) * 80 ≤ 140737488355328) then (next (IntKind.i64.wrap (v4 + (1 : Int))) (a0 ++ ([(.agg [(.bool (gB r2.cells 0)), (.int .u64 (gI r2.cells 1)), (.int .u64 (gI r2.cells 2)), (.int .i64 (gI r2.cells 3)), (.int .i64 (gI r2.cells 4)), (.str (gS r2.cells 5)), (.str (gS r2.cells 6)), (.int .i64 (gI r2.cells 7))])] : List AV))) else none) else none) else none)) else none)) else (kx0 a0))
def qmo  (v0 : List AV) (kx0 : (List AV) → Option (List AV)) : Nat → Int → (List AV) → Option (List AV)
  | 0 => (fun _ _ => none)
  | n + 1 => (fun v4 a0 => qh1 v0 v4 a0 (qmo v0 kx0 n) kx0)
def qo0 := hull (qmo)
theorem qwa : qo0 = qmo := qk _
def qh2 : AC (List AV) :=
  .seq (.seq (.reg [ao 5 (.mv 4),
 ao 6 (.mv 0),
 ao 7 (.len false 6),
 ao 8 (.bin .lss 5 7),
 ao 9 (.mv 8),
 .grp 9 true [(pg 10 9 true (.mv 4)), (pg 11 9 true (.bin .lss 10 (.c (.int .i64 30))))] 12 11]) (.cond 12 (.skip) (.seq (.view [.sel [3] [0]]) (.exit 0)))) (.seq (.block 1 (.reg [ao 15 (.mv 3),
 ao 16 (.mv 0),
 ao 17 (.mv 4),
 ao 18 (.ia 8 16 17),
 .st (.etac 18 qa),
 ao 19 (.load true 8 18),
 .call (po 20 (.call 42 [19])) 42 qv9,
 ao 21 (.bsl 8 [20]),
 ao 22 (.app 8 80 15 21),
 ao 3 (.mv 22)])) (.seq (.reg [ao 13 (.mv 4),
 ao 14 (.bin .add 13 (.c (.int .i64 1))),
 ao 4 (.mv 14)]) (.view [.sel [0, 3, 4] [0]])))
theorem q6o : AC.ok Try.prog (TIof Try.prog) 24 0 (kret [.t 2] (decF true 8)) qh2 := qo (zA (qd.ok qbbh) trivial)
theorem q5w (v0 : List AV) (v4 : Int) (a0 : List AV) (K : Ex → Env → Mem → Option (List AV)) : den 0 (kret [.t 2] (decF true 8)) qh2 (qpo v0 v4 a0) (qpp v0 v4 a0) K = qh1 v0 v4 a0 (fun z_v4 z_a0 => K .norm (qpo v0 z_v4 z_a0) (qpp v0 z_v4 z_a0)) (qls K) := by kernel_rfl
theorem q9e (v0 : List AV) (K : Ex → Env → Mem → Option (List AV)) : ∀ (n : Nat) (v4 : Int) (a0 : List AV), qg0 (den 0 (kret [.t 2] (decF true 8)) qh2) n (qpo v0 v4 a0) (qpp v0 v4 a0) K = qo0 v0 (qls K) n v4 a0 := by
  rw [qwa]
  intro n
  induction n with
  | zero => intros; rfl
  | succ n ih =>
 intro v4 a0
 exact (q5w v0 v4 a0 (itK (den 0 (kret [.t 2] (decF true 8)) qh2) n K)).trans (congrArg (fun q => qh1 v0 v4 a0 q (qls K)) (funext fun v4 => funext fun a0 => ih v4 a0))
def qxx := subE (R := (List AV)) q5v fun t m K => qo0 (gL [t 0] 0) (qls K) FU (gI [t 4] 0) (arL (m.s 0))
theorem q9f : qdj Try.prog (TIof Try.prog) 24 0 (kret [.t 2] (decF true 8)) (.loop (scOf qh2)) (qxx) :=
  qic tabOk follows (q6o) (qbi (by kernel_rfl)) fun t m K => q9e _ K FU _ _
def qbbi : Shp := ⟨[(0, .one (.l (.sl 8)))], []⟩
def qu1 (v0 : List AV) : Option (List AV) :=
  (bif (hd ([] : List AV) (([] : List AV).length) && true) then (qo0 v0 (fun a0q1 => (bif hd a0q1 a0q1.length then (some a0q1) else none)) FU (0 : Int) ([] : List AV)) else none)
def qpq := hull qu1
theorem q0v : qpq = qu1 := qk _
def qu2 : AC (List AV) :=
  .seq (.reg [ao 2 (.mv (.c .nils))]) (.seq (.reg [ao 3 (.mv (.c .nils))]) (.seq (.seq (.reg [ao 4 (.mv (.c (.int .i64 0)))]) (.block 0 (.seq (.view [.own 3 8, .sel [0, 3, 4] [0]]) (.sub (.loop (scOf qh2)) qxx)))) (.seq (.reg [ao 23 (.mv 3),
 ao 2 (.mv 23)]) (.ret))))
theorem qbc6 : AC.ok Try.prog (TIof Try.prog) 24 0 (kret [.t 2] (decF true 8)) qu2 := qo (zA q9f trivial)
theorem qbfs (v0 : List AV) : den 0 (kret [.t 2] (decF true 8)) qu2 (qj [(0, (.sl 8 v0))]) (qg []) (kend (kret [.t 2] (decF true 8))) = qpq v0 := by
  rw [q0v]; kernel_rfl
theorem qbft : cFn (TIof Try.prog) Try.f10 = some ⟨24, [.t 2], scOf qu2⟩ := by kernel_rfl
def qbfu (xs : List AV) : Option (List AV) := qpq (gL [(ql xs) 0] 0)
def qzc {R : Type} : List AV → (AV → Option R) → Option R := entF qbbi qbfu (AV.fr true 8)
theorem qbfv {R : Type} : qd Try.prog 10 (qzc (R := R)) :=
  qcg tabOk follows Try.func10 (by kernel_rfl) qbft hdeF qbc6 (qbi (by kernel_rfl)) fun xs => qbfs _
def qge : List LT := [.b, (.i .u64), (.i .u64)]
def qdd (x0 : Bool) (x1 x2 : Int) : List AV := [.bool x0, .int .u64 x1, .int .u64 x2]
def qes {β : Type} (cs : List AV) (f : Bool → Int → Int → β) : β := f (gB cs 0) (gI cs 1) (gI cs 2)
def qbfw : Shp := ⟨[(0, .st (lk qge))], []⟩
def qzd (Aa : Bool) (Ab Ac : Int) : Option Bool :=
  (bif Aa then (some true) else (bif (Ab == (0 : Int)) then (some (decide (Ac ≤ (4294967295 : Int)))) else (some false)))
def qqc := hull qzd
theorem q5i : qqc = qzd := qk _
def qze : AC Bool :=
  .seq (.reg [ao 1 (.box 0),
 ao 2 (.mv (.c (.bool false)))]) (.seq (.reg [ao 3 (.fa 0 1),
 ao 4 (.load false 1 3),
 ao 5 (.mv 4),
 ag 6 5 false (.fa 1 1),
 ag 7 5 false (.load false 1 6),
 ag 8 5 false (.bin .eql 7 (.c (.int .u64 0))),
 ag 9 5 false (.mv 8),
 ag 10 9 true (.fa 2 1),
 ag 11 9 true (.load false 1 10),
 ag 12 9 true (.bin .leq 11 (.c (.int .u64 4294967295))),
 ag 13 5 false (.pick 9 12 (.c (.bool false))),
 ao 14 (.pick 5 (.c (.bool true)) 13),
 ao 2 (.mv 14)]) (.ret))
theorem qbio : AC.ok Try.prog (TIof Try.prog) 15 0 (kret [.t 2] decB) qze := qo trivial
theorem qbj1 (Aa : Bool) (Ab Ac : Int) : den 0 (kret [.t 2] decB) qze (qj [(0, .agg (qdd Aa Ab Ac))]) (qg []) (kend (kret [.t 2] decB)) = qqc Aa Ab Ac := by
  rw [q5i]; kernel_rfl
theorem qbj2 : cFn (TIof Try.prog) Try.f73 = some ⟨15, [.t 2], scOf qze⟩ := by kernel_rfl
def qbj3 (xs : List AV) : Option Bool := qes ((ql xs) 0).cells (qqc)
def qu3 {R : Type} : List AV → (AV → Option R) → Option R := entF qbfw qbj3 AV.bool
theorem q6p {R : Type} : qd Try.prog 73 (qu3 (R := R)) :=
  qcg tabOk follows Try.func73 (by kernel_rfl) qbj2 hdeB qbio (qbi (by kernel_rfl)) fun xs => qbj1 _ _ _
def q9g : Shp := ⟨[(0, .st (lk qge))], []⟩
def qs8 (Aa : Bool) (Ab Ac : Int) : Option Int :=
  (bif Aa then (some (128 : Int)) else (some (32 : Int)))
def qim := hull qs8
theorem qzf : qim = qs8 := qk _
def qs9 : AC Int :=
  .seq (.reg [ao 1 (.box 0),
 ao 2 (.mv (.c (.int .i64 0)))]) (.seq (.seq (.reg [ao 3 (.fa 0 1),
 ao 4 (.load false 1 3)]) (.cond 4 (.seq (.reg [ao 2 (.mv (.c (.int .i64 128)))]) (.ret)) (.skip))) (.seq (.reg [ao 2 (.mv (.c (.int .i64 32)))]) (.ret)))
theorem qbbj : AC.ok Try.prog (TIof Try.prog) 5 0 (kret [.t 2] (decI .i64)) qs9 := qo trivial
theorem qbc7 (Aa : Bool) (Ab Ac : Int) : den 0 (kret [.t 2] (decI .i64)) qs9 (qj [(0, .agg (qdd Aa Ab Ac))]) (qg []) (kend (kret [.t 2] (decI .i64))) = qim Aa Ab Ac := by
  rw [qzf]; kernel_rfl
theorem qbc8 : cFn (TIof Try.prog) Try.f76 = some ⟨5, [.t 2], scOf qs9⟩ := by kernel_rfl
def qbc9 (xs : List AV) : Option Int := qes ((ql xs) 0).cells (qim)
def qkv {R : Type} : List AV → (AV → Option R) → Option R := entF q9g qbc9 (AV.int .i64)
theorem qo1 {R : Type} : qd Try.prog 76 (qkv (R := R)) :=
  qcg tabOk follows Try.func76 (by kernel_rfl) qbc8 hdeI qbbj (qbi (by kernel_rfl)) fun xs => qbc7 _ _ _
def qr2 (z : AV) : Option (Int × Int) := cond (qnd [(.one (.i .u64)), (.one (.i .u64))] z) (some (aI (gC (tpL z) 0), aI (gC (tpL z) 1))) none
def qbbk (r : Int × Int) : AV := .tup [.int .u64 r.1, .int .u64 r.2]
def qbbl : Shp := ⟨[(0, .one (.l .b)), (1, .one (.l (.i .i64)))], []⟩
def qqd (v0 : Bool) (v1 : Int) : Option (Int × Int) :=
  (bif (!v0) then (bif decide ((IntKind.u64.wrap (IntKind.i64.wrap ((32 : Int) - v1))) < 0) then none else (some ((0 : Int), (IntKind.u64.wrap ((IntKind.u64.wrap ((1 : Int) * 2 ^ min (IntKind.u64.wrap (IntKind.i64.wrap ((32 : Int) - v1))).toNat IntKind.u64.bits)) - (1 : Int)))))) else (bif (decide (v1 ≥ (64 : Int))) then (bif decide ((IntKind.u64.wrap (IntKind.i64.wrap ((128 : Int) - v1))) < 0) then none else (some ((0 : Int), (IntKind.u64.wrap ((IntKind.u64.wrap ((1 : Int) * 2 ^ min (IntKind.u64.wrap (IntKind.i64.wrap ((128 : Int) - v1))).toNat IntKind.u64.bits)) - (1 : Int)))))) else (bif decide ((IntKind.u64.wrap (IntKind.i64.wrap ((64 : Int) - v1))) < 0) then none else (some ((IntKind.u64.wrap ((IntKind.u64.wrap ((1 : Int) * 2 ^ min (IntKind.u64.wrap (IntKind.i64.wrap ((64 : Int) - v1))).toNat IntKind.u64.bits)) - (1 : Int))), (18446744073709551615 : Int))))))
def qm0 := hull qqd
theorem q0w : qm0 = qqd := qk _
def qu4 : AC (Int × Int) :=
  .seq (.reg [ao 4 (.mv (.c (.int .u64 0))),
 ao 5 (.mv (.c (.int .u64 0)))]) (.seq (.seq (.reg [ao 6 (.mv 0),
 ao 7 (.un .not 6)]) (.cond 7 (.seq (.reg [ao 8 (.mv 1),
 ao 9 (.bin .sub (.c (.int .i64 32)) 8),
 ao 10 (.conv (.int .u64) 9),
 ao 11 (.bin .shl (.c (.int .u64 1)) 10),
 ao 12 (.bin .sub 11 (.c (.int .u64 1))),
 ao 4 (.mv (.c (.int .u64 0))),
 ao 5 (.mv 12)]) (.ret)) (.skip))) (.seq (.seq (.reg [ao 13 (.mv 1),
 ao 14 (.bin .geq 13 (.c (.int .i64 64)))]) (.cond 14 (.seq (.reg [ao 15 (.mv 1),
 ao 16 (.bin .sub (.c (.int .i64 128)) 15),
 ao 17 (.conv (.int .u64) 16),
 ao 18 (.bin .shl (.c (.int .u64 1)) 17),
 ao 19 (.bin .sub 18 (.c (.int .u64 1))),
 ao 4 (.mv (.c (.int .u64 0))),
 ao 5 (.mv 19)]) (.ret)) (.skip))) (.seq (.reg [ao 20 (.mv 1),
 ao 21 (.bin .sub (.c (.int .i64 64)) 20),
 ao 22 (.conv (.int .u64) 21),
 ao 23 (.bin .shl (.c (.int .u64 1)) 22),
 ao 24 (.bin .sub 23 (.c (.int .u64 1))),
 ao 4 (.mv 24),
 ao 5 (.mv (.c (.int .u64 18446744073709551615)))]) (.ret))))
theorem qbda : AC.ok Try.prog (TIof Try.prog) 25 0 (kret [.t 4, .t 5] qr2) qu4 := qo trivial
theorem qbfx (v0 : Bool) (v1 : Int) : den 0 (kret [.t 4, .t 5] qr2) qu4 (qj [(0, (.bool v0)), (1, (.int .i64 v1))]) (qg []) (kend (kret [.t 4, .t 5] qr2)) = qm0 v0 v1 := by
  rw [q0w]; kernel_rfl
theorem qbfy : cFn (TIof Try.prog) Try.f72 = some ⟨25, [.t 4, .t 5], scOf qu4⟩ := by kernel_rfl
def qbfz (xs : List AV) : Option (Int × Int) := qm0 (gB [(ql xs) 0] 0) (gI [(ql xs) 1] 0)
def qr3 {R : Type} : List AV → (AV → Option R) → Option R := entF qbbl qbfz qbbk
theorem q2c {R : Type} : qd Try.prog 72 (qr3 (R := R)) :=
  qcg tabOk follows Try.func72 (by kernel_rfl) qbfy (fun z r h => by
 obtain ⟨h1, h2⟩ := qn h
 cases h2
 exact (qj9 h1).symm) qbda (qbi (by kernel_rfl)) fun xs => qbfx _ _
def qi : List LT := [.b, (.i .u64), (.i .u64), (.i .i64)]
def qb (x0 : Bool) (x1 x2 x3 : Int) : List AV := [.bool x0, .int .u64 x1, .int .u64 x2, .int .i64 x3]
def qf {β : Type} (cs : List AV) (f : Bool → Int → Int → Int → β) : β := f (gB cs 0) (gI cs 1) (gI cs 2) (gI cs 3)
def qwb  (Ai : Bool) (Aj Ak Al : Int) (K : Ex → Env → Mem → Option Bool) := (fun z_v21 => K .norm (qj [(1, (.ptr 0 0)), (21, (.bool z_v21))]) (qg [(some (.box true (qb Ai Aj Ak Al)))]))
def q5x : Shp := ⟨[(1, .one (.ptr 0 0))], [.box true (lk qi)]⟩
def qqr  (Ai : Bool) (Aj Ak Al : Int) (kn : Bool → Option Bool) : Option Bool :=
  (oB (qqc Ai Aj Ak) fun r1 => (bif (!r1) then (kn true) else (bif (decide (Al < (0 : Int))) then (kn true) else (oB (qim Ai Aj Ak) fun r2 => (kn (decide (Al > r2)))))))
def qo2 := hull (qqr)
theorem qwc : qo2 = qqr := qk _
def qmp : AC Bool :=
  .seq (.draw [] [ao 5 (.fa 0 1),
 ao 6 (.load true 3 5),
 .call (po 7 (.call 73 [6])) 73 qu3,
 ao 8 (.un .not 7),
 ao 9 (.mv 8),
 ag 10 9 false (.fa 3 1),
 ag 11 9 false (.load false 1 10),
 ag 12 9 false (.bin .lss 11 (.c (.int .i64 0))),
 ao 13 (.pick 9 (.c (.bool true)) 12),
 ao 14 (.mv 13),
 ag 15 14 false (.fa 3 1),
 ag 16 14 false (.load false 1 15),
 ag 17 14 false (.fa 0 1),
 ag 18 14 false (.load true 3 17),
 .call (pg 19 14 false (.call 76 [18])) 76 qkv] [ag 20 14 false (.bin .gtr 16 19),
 ao 21 (.pick 14 (.c (.bool true)) 20)]) (.view [.sel [1, 21] [0]])
theorem q6q : AC.ok Try.prog (TIof Try.prog) 45 0 (kret [.t 2] decB) qmp := qo (zA (qd.ok q6p) (zA (qd.ok qo1) (zA rfl trivial)))
theorem q9h (Ai : Bool) (Aj Ak Al : Int) (K : Ex → Env → Mem → Option Bool) : den 0 (kret [.t 2] decB) qmp (qj [(1, (.ptr 0 0))]) (qg [(some (.box true (qb Ai Aj Ak Al)))]) K = qo2 Ai Aj Ak Al (qwb Ai Aj Ak Al K) := by
  rw [qwc]; kernel_rfl
def qxy := subE (R := Bool) q5x fun t m K => qf (bxC (m.s 0)) (qo2) (qwb (gB (bxC (m.s 0)) 0) (gI (bxC (m.s 0)) 1) (gI (bxC (m.s 0)) 2) (gI (bxC (m.s 0)) 3) K)
theorem q9i : qdj Try.prog (TIof Try.prog) 45 0 (kret [.t 2] decB) (scOf qmp) (qxy) :=
  qk2 tabOk follows (q6q) (qbi (by kernel_rfl)) fun t m K => q9h _ _ _ _ K
def qbbm : Shp := ⟨[(0, .st (lk qi))], []⟩
def qu5 (Aa : Bool) (Ab Ac Ad : Int) : Option Bool :=
  (qo2 Aa Ab Ac Ad (fun v21q1 => (bif v21q1 then (some false) else (oB (qm0 Aa Ad) fun r2 => (some (((qcf .and .u64 Ab r2.1) == (0 : Int)) && ((qcf .and .u64 Ac r2.2) == (0 : Int))))))))
def qf7 := hull qu5
theorem q0x : qf7 = qu5 := qk _
def qu6 : AC Bool :=
  .seq (.reg [ao 1 (.box 0),
 ao 2 (.mv (.c (.bool false)))]) (.seq (.seq (.seq (.view [.sel [1] [0]]) (.sub (scOf qmp) qxy)) (.cond 21 (.seq (.reg [ao 2 (.mv (.c (.bool false)))]) (.ret)) (.skip))) (.seq (.reg [ao 23 (.fa 0 1),
 ao 24 (.fa 0 23),
 ao 25 (.load false 1 24),
 ao 26 (.fa 3 1),
 ao 27 (.load false 1 26),
 .call (po 28 (.call 72 [25, 27])) 72 qr3,
 ao 22 (.mv 28),
 ao 29 (.ext 22 0),
 ao 30 (.ext 22 1),
 ao 3 (.mv 29),
 ao 4 (.mv 30)]) (.seq (.reg [ao 31 (.fa 0 1),
 ao 32 (.fa 1 31),
 ao 33 (.load false 1 32),
 ao 34 (.mv 3),
 ao 35 (.bin .and 33 34),
 ao 36 (.bin .eql 35 (.c (.int .u64 0))),
 ao 37 (.mv 36),
 .grp 37 true [(pg 38 37 true (.fa 0 1)), (pg 39 37 true (.fa 2 38)), (pg 40 37 true (.load false 1 39)), (pg 41 37 true (.mv 4)), (pg 42 37 true (.bin .and 40 41)), (pg 43 37 true (.bin .eql 42 (.c (.int .u64 0))))] 44 43,
 ao 2 (.mv 44)]) (.ret))))
theorem qbdb : AC.ok Try.prog (TIof Try.prog) 45 0 (kret [.t 2] decB) qu6 := qo (zA q9i (zA (qd.ok q2c) trivial))
theorem qbf0 (Aa : Bool) (Ab Ac Ad : Int) : den 0 (kret [.t 2] decB) qu6 (qj [(0, .agg (qb Aa Ab Ac Ad))]) (qg []) (kend (kret [.t 2] decB)) = qf7 Aa Ab Ac Ad := by
  rw [q0x]; kernel_rfl
theorem qbf1 : cFn (TIof Try.prog) Try.f71 = some ⟨45, [.t 2], scOf qu6⟩ := by kernel_rfl
def qbf2 (xs : List AV) : Option Bool := qf ((ql xs) 0).cells (qf7)
def qgi {R : Type} : List AV → (AV → Option R) → Option R := entF qbbm qbf2 AV.bool
theorem qle {R : Type} : qd Try.prog 71 (qgi (R := R)) :=
  qcg tabOk follows Try.func71 (by kernel_rfl) qbf1 hdeB qbdb (qbi (by kernel_rfl)) fun xs => qbf0 _ _ _ _
def qbbn : Shp := ⟨[(0, .st (lk qi))], []⟩
def qu7 (Aa : Bool) (Ab Ac Ad : Int) : Option Int :=
  (bif Aa then (some (128 : Int)) else (some (32 : Int)))
def qpr := hull qu7
theorem q0y : qpr = qu7 := qk _
def qu8 : AC Int :=
  .seq (.reg [ao 1 (.box 0),
 ao 2 (.mv (.c (.int .i64 0)))]) (.seq (.seq (.reg [ao 3 (.fa 0 1),
 ao 4 (.fa 0 3),
 ao 5 (.load false 1 4)]) (.cond 5 (.seq (.reg [ao 2 (.mv (.c (.int .i64 128)))]) (.ret)) (.skip))) (.seq (.reg [ao 2 (.mv (.c (.int .i64 32)))]) (.ret)))
theorem qbdc : AC.ok Try.prog (TIof Try.prog) 6 0 (kret [.t 2] (decI .i64)) qu8 := qo trivial
theorem qbf3 (Aa : Bool) (Ab Ac Ad : Int) : den 0 (kret [.t 2] (decI .i64)) qu8 (qj [(0, .agg (qb Aa Ab Ac Ad))]) (qg []) (kend (kret [.t 2] (decI .i64))) = qpr Aa Ab Ac Ad := by
  rw [q0y]; kernel_rfl
theorem qbf4 : cFn (TIof Try.prog) Try.f77 = some ⟨6, [.t 2], scOf qu8⟩ := by kernel_rfl
def qbf5 (xs : List AV) : Option Int := qf ((ql xs) 0).cells (qpr)
def qzg {R : Type} : List AV → (AV → Option R) → Option R := entF qbbn qbf5 (AV.int .i64)
theorem qbf6 {R : Type} : qd Try.prog 77 (qzg (R := R)) :=
  qcg tabOk follows Try.func77 (by kernel_rfl) qbf4 hdeI qbdc (qbi (by kernel_rfl)) fun xs => qbf3 _ _ _ _
def qjr  (K : Ex → Env → Mem → Option Bool) := (fun (_ : Unit) => K (.exit 0) (qj []) (qg []))
def q1u : Shp := ⟨[(0, .one (.l .s)), (19, .one (.l (.i .i64))), (20, .one (.l (.i .i64)))], []⟩
def qm1 (v0 : List UInt8) (v19 v20 : Int) : Env := qj [(0, (.str v0)), (19, (.int .i64 v19)), (20, (.int .i64 v20))]
def qm2 (v0 : List UInt8) (v19 v20 : Int) : Mem := qg []
def qfn  (v0 : List UInt8) (v19 v20 : Int) (next : Int → Option Bool) (kx0 : Unit → Option Bool) : Option Bool :=
  (bif (decide (v20 < v19)) then (oB (ixB v0 v20) fun c1 => (bif (decide ((c1.toNat : Int) < (33 : Int))) then (some false) else (oB (ixB v0 v20) fun c2 => (bif (decide ((c2.toNat : Int) > (126 : Int))) then (some false) else (next (IntKind.i64.wrap (v20 + (1 : Int)))))))) else (kx0 ()))
def qk4  (v0 : List UInt8) (v19 : Int) (kx0 : Unit → Option Bool) : Nat → Int → Option Bool
  | 0 => (fun _ => none)
  | n + 1 => (fun v20 => qfn v0 v19 v20 (qk4 v0 v19 kx0 n) kx0)
def qjz := hull (qk4)
theorem qsq : qjz = qk4 := qk _
def qfo : AC Bool :=
  .seq (.reg [ao 21 (.bin .lss 20 19)]) (.seq (.cond 21 (.skip) (.seq (.view [.sel [] []]) (.exit 0))) (.seq (.block 1 (.seq (.reg [ao 22 (.mv 20),
 ao 7 (.mv 22)]) (.seq (.reg [ao 23 (.mv 0),
 ao 24 (.mv 7),
 ao 25 (.ixs 23 24),
 ao 26 (.bin .lss 25 (.c (.int .u8 33))),
 ao 27 (.mv 26),
 ag 28 27 false (.mv 0),
 ag 29 27 false (.mv 7),
 ag 30 27 false (.ixs 28 29),
 ag 31 27 false (.bin .gtr 30 (.c (.int .u8 126))),
 ao 32 (.pick 27 (.c (.bool true)) 31)]) (.cond 32 (.seq (.reg [ao 6 (.mv (.c (.bool false)))]) (.ret)) (.skip))))) (.seq (.reg [ao 33 (.bin .add 20 (.c (.int .i64 1))),
 ao 20 (.mv 33)]) (.view [.sel [0, 19, 20] []]))))
theorem q2d : AC.ok Try.prog (TIof Try.prog) 34 0 (kret [.t 6] decB) qfo := qo trivial
theorem q1v (v0 : List UInt8) (v19 v20 : Int) (K : Ex → Env → Mem → Option Bool) : den 0 (kret [.t 6] decB) qfo (qm1 v0 v19 v20) (qm2 v0 v19 v20) K = qfn v0 v19 v20 (fun z_v20 => K .norm (qm1 v0 v19 z_v20) (qm2 v0 v19 z_v20)) (qjr K) := by kernel_rfl
theorem q3w (v0 : List UInt8) (v19 : Int) (K : Ex → Env → Mem → Option Bool) : ∀ (n : Nat) (v20 : Int), qg0 (den 0 (kret [.t 6] decB) qfo) n (qm1 v0 v19 v20) (qm2 v0 v19 v20) K = qjz v0 v19 (qjr K) n v20 := by
  rw [qsq]
  intro n
  induction n with
  | zero => intros; rfl
  | succ n ih =>
 intro v20
 exact (q1v v0 v19 v20 (itK (den 0 (kret [.t 6] decB) qfo) n K)).trans (congrArg (fun q => qfn v0 v19 v20 q (qjr K)) (funext fun v20 => ih v20))
def qta := subE (R := Bool) q1u fun t m K => qjz (gS [t 0] 0) (gI [t 19] 0) (qjr K) FU (gI [t 20] 0)
theorem q3x : qdj Try.prog (TIof Try.prog) 34 0 (kret [.t 6] decB) (.loop (scOf qfo)) (qta) :=
  qic tabOk follows (q2d) (qbi (by kernel_rfl)) fun t m K => q3w _ _ K FU _
def q6r : Shp := ⟨[(0, .one (.l .s)), (1, .one (.l (.i .i64))), (2, .one (.l (.i .i64)))], []⟩
def qr4 (v0 : List UInt8) (v1 v2 : Int) : Option Bool :=
  (bif ((decide ((v0.length : Int) < v1)) || (decide ((v0.length : Int) > v2))) then (some false) else (qjz v0 (v0.length : Int) (fun (_ : Unit) => (some true)) FU (0 : Int)))
def qlf := hull qr4
theorem qxz : qlf = qr4 := qk _
def qr5 : AC Bool :=
  .seq (.reg [ao 6 (.mv (.c (.bool false)))]) (.seq (.seq (.reg [ao 8 (.mv 0),
 ao 9 (.len true 8),
 ao 10 (.mv 1),
 ao 11 (.bin .lss 9 10),
 ao 12 (.mv 11),
 .grp 12 false [(pg 13 12 false (.mv 0)), (pg 14 12 false (.len true 13)), (pg 15 12 false (.mv 2)), (pg 16 12 false (.bin .gtr 14 15))] 17 16]) (.cond 17 (.seq (.reg [ao 6 (.mv (.c (.bool false)))]) (.ret)) (.skip))) (.seq (.seq (.reg [ao 18 (.mv 0),
 ao 19 (.len true 18),
 ao 20 (.mv (.c (.int .i64 0)))]) (.block 0 (.seq (.view [.sel [0, 19, 20] []]) (.sub (.loop (scOf qfo)) qta)))) (.seq (.reg [ao 6 (.mv (.c (.bool true)))]) (.ret))))
theorem q9j : AC.ok Try.prog (TIof Try.prog) 34 0 (kret [.t 6] decB) qr5 := qo (zA q3x trivial)
theorem qbbo (v0 : List UInt8) (v1 v2 : Int) : den 0 (kret [.t 6] decB) qr5 (qj [(0, (.str v0)), (1, (.int .i64 v1)), (2, (.int .i64 v2))]) (qg []) (kend (kret [.t 6] decB)) = qlf v0 v1 v2 := by
  rw [qxz]; kernel_rfl
theorem qbbp : cFn (TIof Try.prog) Try.f78 = some ⟨34, [.t 6], scOf qr5⟩ := by kernel_rfl
def qbbq (xs : List AV) : Option Bool := qlf (gS [(ql xs) 0] 0) (gI [(ql xs) 1] 0) (gI [(ql xs) 2] 0)
def qps {R : Type} : List AV → (AV → Option R) → Option R := entF q6r qbbq AV.bool
theorem qzh {R : Type} : qd Try.prog 78 (qps (R := R)) :=
  qcg tabOk follows Try.func78 (by kernel_rfl) qbbp hdeB q9j (qbi (by kernel_rfl)) fun xs => qbbo _ _ _
def qun  (Ai : Bool) (Aj Ak Al Am : Int) (An Ao : List UInt8) (Ap : Int) (K : Ex → Env → Mem → Option Int) := (fun z_v28 => K .norm (qj [(1, (.ptr 0 0)), (28, (.bool z_v28))]) (qg [(some (.box true (qc Ai Aj Ak Al Am An Ao Ap)))]))
def q3y : Shp := ⟨[(1, .one (.ptr 0 0))], [.box true (lk qa)]⟩
def qpt  (Ai : Bool) (Aj Ak Al Am : Int) (An Ao : List UInt8) (Ap : Int) (kn : Bool → Option Int) : Option Int :=
  (bif (decide (Am < (1 : Int))) then (kn true) else (bif (decide (Am > (3 : Int))) then (kn true) else (bif (Am == (3 : Int)) then (oB (qpr Ai Aj Ak Al) fun r1 => (kn (Al != r1))) else (kn false))))
def qnj := hull (qpt)
theorem qup : qnj = qpt := qk _
def ql3 : AC Int :=
  .seq (.draw [] [ao 7 (.fa 4 1),
 ao 8 (.load false 1 7),
 ao 9 (.bin .lss 8 (.c (.int .i64 1))),
 ao 10 (.mv 9),
 ag 11 10 false (.fa 4 1),
 ag 12 10 false (.load false 1 11),
 ag 13 10 false (.bin .gtr 12 (.c (.int .i64 3))),
 ao 14 (.pick 10 (.c (.bool true)) 13),
 ao 15 (.mv 14),
 ag 16 15 false (.fa 4 1),
 ag 17 15 false (.load false 1 16),
 ag 18 15 false (.bin .eql 17 (.c (.int .i64 3))),
 ag 19 15 false (.mv 18),
 ag 20 19 true (.fa 0 1),
 ag 21 19 true (.fa 3 20),
 ag 22 19 true (.load false 1 21),
 ag 23 19 true (.fa 0 1),
 ag 24 19 true (.load true 4 23),
 .call (pg 25 19 true (.call 77 [24])) 77 qzg] [ag 26 19 true (.bin .neq 22 25),
 ag 27 15 false (.pick 19 26 (.c (.bool false))),
 ao 28 (.pick 15 (.c (.bool true)) 27)]) (.view [.sel [1, 28] [0]])
theorem q5y : AC.ok Try.prog (TIof Try.prog) 49 0 (kret [.t 2] (decI .i64)) ql3 := qo (zA (qd.ok qbf6) (zA rfl trivial))
theorem q6s (Ai : Bool) (Aj Ak Al Am : Int) (An Ao : List UInt8) (Ap : Int) (K : Ex → Env → Mem → Option Int) : den 0 (kret [.t 2] (decI .i64)) ql3 (qj [(1, (.ptr 0 0))]) (qg [(some (.box true (qc Ai Aj Ak Al Am An Ao Ap)))]) K = qnj Ai Aj Ak Al Am An Ao Ap (qun Ai Aj Ak Al Am An Ao Ap K) := by
  rw [qup]; kernel_rfl
def qwd := subE (R := Int) q3y fun t m K => qh (bxC (m.s 0)) (qnj) (qun (gB (bxC (m.s 0)) 0) (gI (bxC (m.s 0)) 1) (gI (bxC (m.s 0)) 2) (gI (bxC (m.s 0)) 3) (gI (bxC (m.s 0)) 4) (gS (bxC (m.s 0)) 5) (gS (bxC (m.s 0)) 6) (gI (bxC (m.s 0)) 7) K)
theorem q6t : qdj Try.prog (TIof Try.prog) 49 0 (kret [.t 2] (decI .i64)) (scOf ql3) (qwd) :=
  qk2 tabOk follows (q5y) (qbi (by kernel_rfl)) fun t m K => q6s _ _ _ _ _ _ _ _ K
def qbbr : Shp := ⟨[(0, .st (lk qa))], []⟩
def qu9 (Aa : Bool) (Ab Ac Ad Ae : Int) (Af Ag : List UInt8) (Ah : Int) : Option Int :=
  (oB (qf7 Aa Ab Ac Ad) fun r1 => (bif (!r1) then (some (3 : Int)) else (qnj Aa Ab Ac Ad Ae Af Ag Ah (fun v28q2 => (bif v28q2 then (some (1 : Int)) else (oB (qlf Af (1 : Int) (63 : Int)) fun r3 => (bif (!r3) then (some (1 : Int)) else (oB (qlf Ag (0 : Int) (32 : Int)) fun r4 => (bif (((!r4) || (decide (Ah < (0 : Int)))) || (decide (Ah > (4294967295 : Int)))) then (some (1 : Int)) else (some (0 : Int)))))))))))
def qll := hull qu9
theorem q0z : qll = qu9 := qk _
def qva : AC Int :=
  .seq (.reg [ao 1 (.box 0),
 ao 2 (.mv (.c (.int .i64 0)))]) (.seq (.seq (.reg [ao 3 (.fa 0 1),
 ao 4 (.load true 4 3),
 .call (po 5 (.call 71 [4])) 71 qgi,
 ao 6 (.un .not 5)]) (.cond 6 (.seq (.reg [ao 2 (.mv (.c (.int .i64 3)))]) (.ret)) (.skip))) (.seq (.seq (.seq (.view [.sel [1] [0]]) (.sub (scOf ql3) qwd)) (.cond 28 (.seq (.reg [ao 2 (.mv (.c (.int .i64 1)))]) (.ret)) (.skip))) (.seq (.seq (.reg [ao 29 (.fa 5 1),
 ao 30 (.load false 1 29),
 .call (po 31 (.call 78 [30, (.c (.int .i64 1)), (.c (.int .i64 63))])) 78 qps,
 ao 32 (.un .not 31),
 ao 33 (.mv 32),
 ag 34 33 false (.fa 6 1),
 ag 35 33 false (.load false 1 34),
 .call (pg 36 33 false (.call 78 [35, (.c (.int .i64 0)), (.c (.int .i64 32))])) 78 qps,
 ag 37 33 false (.un .not 36),
 ao 38 (.pick 33 (.c (.bool true)) 37),
 ao 39 (.mv 38),
 .grp 39 false [(pg 40 39 false (.fa 7 1)), (pg 41 39 false (.load false 1 40)), (pg 42 39 false (.bin .lss 41 (.c (.int .i64 0))))] 43 42,
 ao 44 (.mv 43),
 .grp 44 false [(pg 45 44 false (.fa 7 1)), (pg 46 44 false (.load false 1 45)), (pg 47 44 false (.bin .gtr 46 (.c (.int .i64 4294967295))))] 48 47]) (.cond 48 (.seq (.reg [ao 2 (.mv (.c (.int .i64 1)))]) (.ret)) (.skip))) (.seq (.reg [ao 2 (.mv (.c (.int .i64 0)))]) (.ret)))))
theorem qbdd : AC.ok Try.prog (TIof Try.prog) 49 0 (kret [.t 2] (decI .i64)) qva := qo (zA (qd.ok qle) (zA q6t (zA (qd.ok qzh) (zA (qd.ok qzh) trivial))))
theorem qbf7 (Aa : Bool) (Ab Ac Ad Ae : Int) (Af Ag : List UInt8) (Ah : Int) : den 0 (kret [.t 2] (decI .i64)) qva (qj [(0, .agg (qc Aa Ab Ac Ad Ae Af Ag Ah))]) (qg []) (kend (kret [.t 2] (decI .i64))) = qll Aa Ab Ac Ad Ae Af Ag Ah := by
  rw [q0z]; kernel_rfl
theorem qbf8 : cFn (TIof Try.prog) Try.f43 = some ⟨49, [.t 2], scOf qva⟩ := by kernel_rfl
def qbf9 (xs : List AV) : Option Int := qh ((ql xs) 0).cells (qll)
def qr6 {R : Type} : List AV → (AV → Option R) → Option R := entF qbbr qbf9 (AV.int .i64)
theorem q2e {R : Type} : qd Try.prog 43 (qr6 (R := R)) :=
  qcg tabOk follows Try.func43 (by kernel_rfl) qbf8 hdeI qbdd (qbi (by kernel_rfl)) fun xs => qbf7 _ _ _ _ _ _ _ _
def qbde : Shp := ⟨[(0, .one (.l (.i .u64))), (1, .one (.l (.i .u64)))], []⟩
def qxc (v0 v1 : Int) : Option Int :=
  (bif (decide (v0 < v1)) then (some (-1 : Int)) else (bif (decide (v0 > v1)) then (some (1 : Int)) else (some (0 : Int))))
def qrb := hull qxc
theorem q2f : qrb = qxc := qk _
def qxd : AC Int :=
  .seq (.reg [ao 4 (.mv (.c (.int .i64 0)))]) (.seq (.block 0 (.seq (.reg [ao 6 (.mv 0),
 ao 7 (.mv 1),
 ao 8 (.bin .lss 6 7),
 ao 5 (.mv 8)]) (.cond 5 (.seq (.reg [ao 4 (.mv (.c (.int .i64 (-1))))]) (.ret)) (.seq (.reg [ao 10 (.mv 0),
 ao 11 (.mv 1),
 ao 12 (.bin .gtr 10 11),
 ao 9 (.mv 12)]) (.cond 9 (.seq (.reg [ao 4 (.mv (.c (.int .i64 1)))]) (.ret)) (.skip)))))) (.seq (.reg [ao 4 (.mv (.c (.int .i64 0)))]) (.ret)))
theorem qbga : AC.ok Try.prog (TIof Try.prog) 13 0 (kret [.t 4] (decI .i64)) qxd := qo trivial
theorem qbip (v0 v1 : Int) : den 0 (kret [.t 4] (decI .i64)) qxd (qj [(0, (.int .u64 v0)), (1, (.int .u64 v1))]) (qg []) (kend (kret [.t 4] (decI .i64))) = qrb v0 v1 := by
  rw [q2f]; kernel_rfl
theorem qbiq : cFn (TIof Try.prog) Try.f101 = some ⟨13, [.t 4], scOf qxd⟩ := by kernel_rfl
def qbir (xs : List AV) : Option Int := qrb (gI [(ql xs) 0] 0) (gI [(ql xs) 1] 0)
def qtb {R : Type} : List AV → (AV → Option R) → Option R := entF qbde qbir (AV.int .i64)
theorem q5j {R : Type} : qd Try.prog 101 (qtb (R := R)) :=
  qcg tabOk follows Try.func101 (by kernel_rfl) qbiq hdeI qbga (qbi (by kernel_rfl)) fun xs => qbip _ _
def qbbs : Shp := ⟨[(0, .st (lk qge)), (1, .st (lk qge))], []⟩
def qvb (Aa : Bool) (Ab Ac : Int) (Aq : Bool) (Ar As : Int) : Option Int :=
  (bif ((!((Aa == Aq) && true)) && Aq) then (some (-1 : Int)) else (bif (!((Aa == Aq) && true)) then (some (1 : Int)) else (bif (Ab != Ar) then (oB (qrb Ab Ar) fun r1 => (some r1)) else (oB (qrb Ac As) fun r2 => (some r2)))))
def qpu := hull qvb
theorem q00 : qpu = qvb := qk _
def qvc : AC Int :=
  .seq (.reg [ao 2 (.box 0),
 ao 3 (.box 1),
 ao 4 (.mv (.c (.int .i64 0)))]) (.seq (.block 0 (.seq (.reg [ao 6 (.fa 0 2),
 ao 7 (.load false 1 6),
 ao 8 (.fa 0 3),
 ao 9 (.load false 1 8),
 ao 10 (.eq true false [.b] 7 9),
 ao 11 (.mv 10),
 .grp 11 true [(pg 12 11 true (.fa 0 3)), (pg 13 11 true (.load false 1 12))] 14 13,
 ao 5 (.mv 14)]) (.cond 5 (.seq (.reg [ao 4 (.mv (.c (.int .i64 (-1))))]) (.ret)) (.seq (.reg [ao 16 (.fa 0 2),
 ao 17 (.load false 1 16),
 ao 18 (.fa 0 3),
 ao 19 (.load false 1 18),
 ao 20 (.eq true false [.b] 17 19),
 ao 15 (.mv 20)]) (.cond 15 (.seq (.reg [ao 4 (.mv (.c (.int .i64 1)))]) (.ret)) (.seq (.reg [ao 22 (.fa 1 2),
 ao 23 (.load false 1 22),
 ao 24 (.fa 1 3),
 ao 25 (.load false 1 24),
 ao 26 (.bin .neq 23 25),
 ao 21 (.mv 26)]) (.cond 21 (.seq (.reg [ao 27 (.fa 1 2),
 ao 28 (.load false 1 27),
 ao 29 (.fa 1 3),
 ao 30 (.load false 1 29),
 .call (po 31 (.call 101 [28, 30])) 101 qtb,
 ao 4 (.mv 31)]) (.ret)) (.skip)))))))) (.seq (.reg [ao 32 (.fa 2 2),
 ao 33 (.load false 1 32),
 ao 34 (.fa 2 3),
 ao 35 (.load false 1 34),
 .call (po 36 (.call 101 [33, 35])) 101 qtb,
 ao 4 (.mv 36)]) (.ret)))
theorem qbdf : AC.ok Try.prog (TIof Try.prog) 37 0 (kret [.t 4] (decI .i64)) qvc := qo (zA (qd.ok q5j) (zA (qd.ok q5j) trivial))
theorem qbgb (Aa : Bool) (Ab Ac : Int) (Aq : Bool) (Ar As : Int) : den 0 (kret [.t 4] (decI .i64)) qvc (qj [(0, .agg (qdd Aa Ab Ac)), (1, .agg (qdd Aq Ar As))]) (qg []) (kend (kret [.t 4] (decI .i64))) = qpu Aa Ab Ac Aq Ar As := by
  rw [q00]; kernel_rfl
theorem qbgc : cFn (TIof Try.prog) Try.f75 = some ⟨37, [.t 4], scOf qvc⟩ := by kernel_rfl
def qbgd (xs : List AV) : Option Int := qes ((ql xs) 1).cells (qes ((ql xs) 0).cells (qpu))
def qzi {R : Type} : List AV → (AV → Option R) → Option R := entF qbbs qbgd (AV.int .i64)
theorem qbge {R : Type} : qd Try.prog 75 (qzi (R := R)) :=
  qcg tabOk follows Try.func75 (by kernel_rfl) qbgc hdeI qbdf (qbi (by kernel_rfl)) fun xs => qbgb _ _ _ _ _ _
def q6u : Shp := ⟨[(0, .st (lk qi)), (1, .st (lk qi))], []⟩
def qr7 (Aa : Bool) (Ab Ac Ad : Int) (Aq : Bool) (Ar As At : Int) : Option Int :=
  (oB (qpu Aa Ab Ac Aq Ar As) fun r1 => (bif (r1 != (0 : Int)) then (some r1) else (bif (decide (Ad < At)) then (some (-1 : Int)) else (bif (decide (Ad > At)) then (some (1 : Int)) else (some (0 : Int))))))
def qlg := hull qr7
theorem qx0 : qlg = qr7 := qk _
def qr8 : AC Int :=
  .seq (.reg [ao 2 (.box 0),
 ao 3 (.box 1),
 ao 4 (.mv (.c (.int .i64 0)))]) (.seq (.seq (.reg [ao 6 (.fa 0 2),
 ao 7 (.load true 3 6),
 ao 8 (.fa 0 3),
 ao 9 (.load true 3 8),
 .call (po 10 (.call 75 [7, 9])) 75 qzi,
 ao 5 (.mv 10)]) (.seq (.reg [ao 11 (.mv 5),
 ao 12 (.bin .neq 11 (.c (.int .i64 0)))]) (.cond 12 (.seq (.reg [ao 13 (.mv 5),
 ao 4 (.mv 13)]) (.ret)) (.skip)))) (.seq (.block 0 (.seq (.reg [ao 15 (.fa 3 2),
 ao 16 (.load false 1 15),
 ao 17 (.fa 3 3),
 ao 18 (.load false 1 17),
 ao 19 (.bin .lss 16 18),
 ao 14 (.mv 19)]) (.cond 14 (.seq (.reg [ao 4 (.mv (.c (.int .i64 (-1))))]) (.ret)) (.seq (.reg [ao 21 (.fa 3 2),
 ao 22 (.load false 1 21),
 ao 23 (.fa 3 3),
 ao 24 (.load false 1 23),
 ao 25 (.bin .gtr 22 24),
 ao 20 (.mv 25)]) (.cond 20 (.seq (.reg [ao 4 (.mv (.c (.int .i64 1)))]) (.ret)) (.skip)))))) (.seq (.reg [ao 4 (.mv (.c (.int .i64 0)))]) (.ret))))
theorem q9k : AC.ok Try.prog (TIof Try.prog) 26 0 (kret [.t 4] (decI .i64)) qr8 := qo (zA (qd.ok qbge) trivial)
theorem qbbt (Aa : Bool) (Ab Ac Ad : Int) (Aq : Bool) (Ar As At : Int) : den 0 (kret [.t 4] (decI .i64)) qr8 (qj [(0, .agg (qb Aa Ab Ac Ad)), (1, .agg (qb Aq Ar As At))]) (qg []) (kend (kret [.t 4] (decI .i64))) = qlg Aa Ab Ac Ad Aq Ar As At := by
  rw [qx0]; kernel_rfl
theorem qbbu : cFn (TIof Try.prog) Try.f40 = some ⟨26, [.t 4], scOf qr8⟩ := by kernel_rfl
def qbbv (xs : List AV) : Option Int := qf ((ql xs) 1).cells (qf ((ql xs) 0).cells (qlg))
def qpv {R : Type} : List AV → (AV → Option R) → Option R := entF q6u qbbv (AV.int .i64)
theorem qzj {R : Type} : qd Try.prog 40 (qpv (R := R)) :=
  qcg tabOk follows Try.func40 (by kernel_rfl) qbbu hdeI q9k (qbi (by kernel_rfl)) fun xs => qbbt _ _ _ _ _ _ _ _
def qlz (z : AV) : Option (AV × Bool) := cond (qnd [(.st [.b, (.i .u64), (.i .u64), (.i .i64)]), (.one .b)] z) (some ((gC (tpL z) 0), aB (gC (tpL z) 1))) none
def qbis (r : AV × Bool) : AV := .tup [qpe (.st [.b, (.i .u64), (.i .u64), (.i .i64)]) r.1, .bool r.2]
def q01  (v1 : Int) (Ai : Bool) (Aj Ak : Int) (Au : Bool) (Av Aw Ax : Int) (K : Ex → Env → Mem → Option (AV × Bool)) := (fun z_v20 => K .norm (qj [(1, (.int .i64 v1)), (2, (.ptr 0 0)), (4, (.ptr 1 0)), (20, (.bool z_v20))]) (qg [(some (.box true (qdd Ai Aj Ak))), (some (.box true (qb Au Av Aw Ax)))]))
def qbbw : Shp := ⟨[(1, .one (.l (.i .i64))), (2, .one (.ptr 0 0)), (4, .one (.ptr 1 0))], [.box true (lk qge), .box true (lk qi)]⟩
def qvd  (v1 : Int) (Ai : Bool) (Aj Ak : Int) (Au : Bool) (Av Aw Ax : Int) (kn : Bool → Option (AV × Bool)) : Option (AV × Bool) :=
  (oB (qqc Ai Aj Ak) fun r1 => (bif ((!r1) || (decide (v1 < (0 : Int)))) then (kn true) else (oB (qim Ai Aj Ak) fun r2 => (kn (decide (v1 > r2))))))
def qtc := hull (qvd)
theorem q02 : qtc = qvd := qk _
def qqe : AC (AV × Bool) :=
  .seq (.reg [ao 8 (.load true 3 2),
 .call (po 9 (.call 73 [8])) 73 qu3,
 ao 10 (.un .not 9),
 ao 11 (.mv 10),
 .grp 11 false [(pg 12 11 false (.mv 1)), (pg 13 11 false (.bin .lss 12 (.c (.int .i64 0))))] 14 13,
 ao 15 (.mv 14),
 ag 16 15 false (.mv 1),
 ag 17 15 false (.load true 3 2),
 .call (pg 18 15 false (.call 76 [17])) 76 qkv,
 ag 19 15 false (.bin .gtr 16 18),
 ao 20 (.pick 15 (.c (.bool true)) 19)]) (.view [.sel [1, 2, 4, 20] [0, 1]])
theorem qbdg : AC.ok Try.prog (TIof Try.prog) 42 0 (kret [(.cell 4 true 4), .t 5] qlz) qqe := qo (zA (qd.ok q6p) (zA (qd.ok qo1) trivial))
theorem qbgf (v1 : Int) (Ai : Bool) (Aj Ak : Int) (Au : Bool) (Av Aw Ax : Int) (K : Ex → Env → Mem → Option (AV × Bool)) : den 0 (kret [(.cell 4 true 4), .t 5] qlz) qqe (qj [(1, (.int .i64 v1)), (2, (.ptr 0 0)), (4, (.ptr 1 0))]) (qg [(some (.box true (qdd Ai Aj Ak))), (some (.box true (qb Au Av Aw Ax)))]) K = qtc v1 Ai Aj Ak Au Av Aw Ax (q01 v1 Ai Aj Ak Au Av Aw Ax K) := by
  rw [q02]; kernel_rfl
def q2g := subE (R := AV × Bool) qbbw fun t m K => qf (bxC (m.s 1)) (qes (bxC (m.s 0)) (qtc (gI [t 1] 0))) (q01 (gI [t 1] 0) (gB (bxC (m.s 0)) 0) (gI (bxC (m.s 0)) 1) (gI (bxC (m.s 0)) 2) (gB (bxC (m.s 1)) 0) (gI (bxC (m.s 1)) 1) (gI (bxC (m.s 1)) 2) (gI (bxC (m.s 1)) 3) K)
theorem qbgg : qdj Try.prog (TIof Try.prog) 42 0 (kret [(.cell 4 true 4), .t 5] qlz) (scOf qqe) (q2g) :=
  qk2 tabOk follows (qbdg) (qbi (by kernel_rfl)) fun t m K => qbgf _ _ _ _ _ _ _ _ K
def qbit : Shp := ⟨[(0, .st (lk qge)), (1, .one (.l (.i .i64)))], []⟩
def q1w (Aa : Bool) (Ab Ac v1 : Int) : Option (AV × Bool) :=
  (qtc v1 Aa Ab Ac false (0 : Int) (0 : Int) (0 : Int) (fun v20q1 => (bif v20q1 then (some ((.agg [(.bool false), (.int .u64 (0 : Int)), (.int .u64 (0 : Int)), (.int .i64 (0 : Int))]), false)) else (oB (qm0 Aa v1) fun r2 => (some ((.agg [(.bool Aa), (.int .u64 (qcf .andNot .u64 Ab r2.1)), (.int .u64 (qcf .andNot .u64 Ac r2.2)), (.int .i64 v1)]), true))))))
def qwe := hull q1w
theorem q6v : qwe = q1w := qk _
def q1x : AC (AV × Bool) :=
  .seq (.reg [ao 2 (.box 0),
 ao 4 (.alloc [(.bool false), (.int .u64 0), (.int .u64 0), (.int .i64 0)]),
 ao 5 (.mv (.c (.bool false)))]) (.seq (.seq (.seq (.view [.sel [1, 2, 4] [0, 1]]) (.sub (scOf qqe) q2g)) (.cond 20 (.seq (.reg [ao 21 (.build [(.bool false), (.int .u64 0), (.int .u64 0), (.int .i64 0)] []),
 an (.store 4 4 21),
 ao 5 (.mv (.c (.bool false)))]) (.ret)) (.skip))) (.seq (.reg [ao 23 (.fa 0 2),
 ao 24 (.load false 1 23),
 ao 25 (.mv 1),
 .call (po 26 (.call 72 [24, 25])) 72 qr3,
 ao 22 (.mv 26),
 ao 27 (.ext 22 0),
 ao 28 (.ext 22 1),
 ao 6 (.mv 27),
 ao 7 (.mv 28)]) (.seq (.reg [ao 29 (.fa 1 2),
 ao 30 (.load false 1 29),
 ao 31 (.mv 6),
 ao 32 (.bin .andNot 30 31),
 ao 33 (.fa 1 2),
 an (.store 1 33 32)]) (.seq (.reg [ao 34 (.fa 2 2),
 ao 35 (.load false 1 34),
 ao 36 (.mv 7),
 ao 37 (.bin .andNot 35 36),
 ao 38 (.fa 2 2),
 an (.store 1 38 37)]) (.seq (.reg [ao 39 (.load true 3 2),
 ao 40 (.mv 1),
 ao 41 (.build [(.bool false), (.int .u64 0), (.int .u64 0), (.int .i64 0)] [(0, (3, 39)), (3, (1, 40))]),
 an (.store 4 4 41),
 ao 5 (.mv (.c (.bool true)))]) (.ret))))))
theorem qbj4 : AC.ok Try.prog (TIof Try.prog) 42 0 (kret [(.cell 4 true 4), .t 5] qlz) q1x := qo (zA qbgg (zA (qd.ok q2c) trivial))
theorem qblx (Aa : Bool) (Ab Ac v1 : Int) : den 0 (kret [(.cell 4 true 4), .t 5] qlz) q1x (qj [(0, .agg (qdd Aa Ab Ac)), (1, (.int .i64 v1))]) (qg []) (kend (kret [(.cell 4 true 4), .t 5] qlz)) = qwe Aa Ab Ac v1 := by
  rw [q6v]; kernel_rfl
theorem qbly : cFn (TIof Try.prog) Try.f41 = some ⟨42, [(.cell 4 true 4), .t 5], scOf q1x⟩ := by kernel_rfl
def qblz (xs : List AV) : Option (AV × Bool) := qes ((ql xs) 0).cells (qwe) (gI [(ql xs) 1] 0)
def q5k {R : Type} : List AV → (AV → Option R) → Option R := entF qbit qblz qbis
theorem qbl0 {R : Type} : qd Try.prog 41 (q5k (R := R)) :=
  qcg tabOk follows Try.func41 (by kernel_rfl) qbly (fun z r h => by
 obtain ⟨h1, h2⟩ := qn h
 cases h2
 exact (qj9 h1).symm) qbj4 (qbi (by kernel_rfl)) fun xs => qblx _ _ _ _
def q5z : Shp := ⟨[(0, .st (lk qi)), (1, .st (lk qge))], []⟩
def qqs (Aa : Bool) (Ab Ac Ad : Int) (Aq : Bool) (Ar As : Int) : Option Bool :=
  (oB (qf7 Aa Ab Ac Ad) fun r1 => (bif ((!r1) || (!((Aa == Aq) && true))) then (some false) else (oB (qwe Aq Ar As Ad) fun r2 => (some (r2.2 && (((gB r2.1.cells 0) == Aa) && (((gI r2.1.cells 1) == Ab) && (((gI r2.1.cells 2) == Ac) && (((gI r2.1.cells 3) == Ad) && true)))))))))
def qkb := hull qqs
theorem qwf : qkb = qqs := qk _
def qqt : AC Bool :=
  .seq (.reg [ao 2 (.box 0),
 ao 3 (.box 1),
 ao 4 (.mv (.c (.bool false)))]) (.seq (.seq (.reg [ao 7 (.load true 4 2),
 .call (po 8 (.call 71 [7])) 71 qgi,
 ao 9 (.un .not 8),
 ao 10 (.mv 9),
 .grp 10 false [(pg 11 10 false (.fa 0 2)), (pg 12 10 false (.fa 0 11)), (pg 13 10 false (.load false 1 12)), (pg 14 10 false (.fa 0 3)), (pg 15 10 false (.load false 1 14)), (pg 16 10 false (.eq true false [.b] 13 15))] 17 16]) (.cond 17 (.seq (.reg [ao 4 (.mv (.c (.bool false)))]) (.ret)) (.skip))) (.seq (.reg [ao 19 (.load true 3 3),
 ao 20 (.fa 3 2),
 ao 21 (.load false 1 20),
 .call (po 22 (.call 41 [19, 21])) 41 q5k,
 ao 18 (.mv 22),
 ao 23 (.ext 18 0),
 ao 24 (.ext 18 1),
 ao 5 (.alloc [(.bool false), (.int .u64 0), (.int .u64 0), (.int .i64 0)]),
 an (.store 4 5 23),
 ao 6 (.mv 24)]) (.seq (.reg [ao 25 (.mv 6),
 ao 26 (.mv 25),
 .grp 26 true [(pg 27 26 true (.load true 4 5)), (pg 28 26 true (.load true 4 2)), (pg 29 26 true (.eq false true [.b, (.i .u64), (.i .u64), (.i .i64)] 27 28))] 30 29,
 ao 4 (.mv 30)]) (.ret))))
theorem q6w : AC.ok Try.prog (TIof Try.prog) 31 0 (kret [.t 4] decB) qqt := qo (zA (qd.ok qle) (zA (qd.ok qbl0) trivial))
theorem q9l (Aa : Bool) (Ab Ac Ad : Int) (Aq : Bool) (Ar As : Int) : den 0 (kret [.t 4] decB) qqt (qj [(0, .agg (qb Aa Ab Ac Ad)), (1, .agg (qdd Aq Ar As))]) (qg []) (kend (kret [.t 4] decB)) = qkb Aa Ab Ac Ad Aq Ar As := by
  rw [qwf]; kernel_rfl
theorem q9m : cFn (TIof Try.prog) Try.f35 = some ⟨31, [.t 4], scOf qqt⟩ := by kernel_rfl
def q9n (xs : List AV) : Option Bool := qes ((ql xs) 1).cells (qf ((ql xs) 0).cells (qkb))
def qor {R : Type} : List AV → (AV → Option R) → Option R := entF q5z q9n AV.bool
theorem qx1 {R : Type} : qd Try.prog 35 (qor (R := R)) :=
  qcg tabOk follows Try.func35 (by kernel_rfl) q9m hdeB q6w (qbi (by kernel_rfl)) fun xs => q9l _ _ _ _ _ _ _
def q9o : Shp := ⟨[(0, .st (lk qi)), (1, .st (lk qi))], []⟩
def qtd (Aa : Bool) (Ab Ac Ad : Int) (Aq : Bool) (Ar As At : Int) : Option Bool :=
  (oB (qf7 Aa Ab Ac Ad) fun r1 => (bif r1 then (oB (qf7 Aq Ar As At) fun r2 => (bif (r2 && (decide (Ad ≥ At))) then (oB (qkb Aq Ar As At Aa Ab Ac) fun r3 => (some r3)) else (some false))) else (some false)))
def qgf := hull qtd
theorem qzk : qgf = qtd := qk _
def qte : AC Bool :=
  .seq (.reg [ao 2 (.box 0),
 ao 3 (.box 1),
 ao 4 (.mv (.c (.bool false)))]) (.seq (.reg [ao 5 (.load true 4 2),
 .call (po 6 (.call 71 [5])) 71 qgi,
 ao 7 (.mv 6),
 ag 8 7 true (.load true 4 3),
 .call (pg 9 7 true (.call 71 [8])) 71 qgi,
 ao 10 (.pick 7 9 (.c (.bool false))),
 ao 11 (.mv 10),
 .grp 11 true [(pg 12 11 true (.fa 3 2)), (pg 13 11 true (.load false 1 12)), (pg 14 11 true (.fa 3 3)), (pg 15 11 true (.load false 1 14)), (pg 16 11 true (.bin .geq 13 15))] 17 16,
 ao 18 (.mv 17),
 ag 19 18 true (.load true 4 3),
 ag 20 18 true (.fa 0 2),
 ag 21 18 true (.load true 3 20),
 .call (pg 22 18 true (.call 35 [19, 21])) 35 qor,
 ao 23 (.pick 18 22 (.c (.bool false))),
 ao 4 (.mv 23)]) (.ret))
theorem qbbx : AC.ok Try.prog (TIof Try.prog) 24 0 (kret [.t 4] decB) qte := qo (zA (qd.ok qle) (zA (qd.ok qle) (zA (qd.ok qx1) trivial)))
theorem qbdh (Aa : Bool) (Ab Ac Ad : Int) (Aq : Bool) (Ar As At : Int) : den 0 (kret [.t 4] decB) qte (qj [(0, .agg (qb Aa Ab Ac Ad)), (1, .agg (qb Aq Ar As At))]) (qg []) (kend (kret [.t 4] decB)) = qgf Aa Ab Ac Ad Aq Ar As At := by
  rw [qzk]; kernel_rfl
theorem qbdi : cFn (TIof Try.prog) Try.f37 = some ⟨24, [.t 4], scOf qte⟩ := by kernel_rfl
def qbdj (xs : List AV) : Option Bool := qf ((ql xs) 1).cells (qf ((ql xs) 0).cells (qgf))
def qh3 {R : Type} : List AV → (AV → Option R) → Option R := entF q9o qbdj AV.bool
theorem ql4 {R : Type} : qd Try.prog 37 (qh3 (R := R)) :=
  qcg tabOk follows Try.func37 (by kernel_rfl) qbdi hdeB qbbx (qbi (by kernel_rfl)) fun xs => qbdh _ _ _ _ _ _ _ _
def qbdk : Shp := ⟨[(0, .st (lk qi)), (1, .st (lk qi))], []⟩
def qxe (Aa : Bool) (Ab Ac Ad : Int) (Aq : Bool) (Ar As At : Int) : Option Bool :=
  (bif (decide (Ad > At)) then (oB (qgf Aa Ab Ac Ad Aq Ar As At) fun r1 => (some r1)) else (some false))
def qf8 := hull qxe
theorem q2h : qf8 = qxe := qk _
def qxf : AC Bool :=
  .seq (.reg [ao 2 (.box 0),
 ao 3 (.box 1),
 ao 4 (.mv (.c (.bool false)))]) (.seq (.reg [ao 5 (.fa 3 2),
 ao 6 (.load false 1 5),
 ao 7 (.fa 3 3),
 ao 8 (.load false 1 7),
 ao 9 (.bin .gtr 6 8),
 ao 10 (.mv 9),
 ag 11 10 true (.load true 4 2),
 ag 12 10 true (.load true 4 3),
 .call (pg 13 10 true (.call 37 [11, 12])) 37 qh3,
 ao 14 (.pick 10 13 (.c (.bool false))),
 ao 4 (.mv 14)]) (.ret))
theorem qbgh : AC.ok Try.prog (TIof Try.prog) 15 0 (kret [.t 4] decB) qxf := qo (zA (qd.ok ql4) trivial)
theorem qbiu (Aa : Bool) (Ab Ac Ad : Int) (Aq : Bool) (Ar As At : Int) : den 0 (kret [.t 4] decB) qxf (qj [(0, .agg (qb Aa Ab Ac Ad)), (1, .agg (qb Aq Ar As At))]) (qg []) (kend (kret [.t 4] decB)) = qf8 Aa Ab Ac Ad Aq Ar As At := by
  rw [q2h]; kernel_rfl
theorem qbiv : cFn (TIof Try.prog) Try.f64 = some ⟨15, [.t 4], scOf qxf⟩ := by kernel_rfl
def qbiw (xs : List AV) : Option Bool := qf ((ql xs) 1).cells (qf ((ql xs) 0).cells (qf8))
def qfx {R : Type} : List AV → (AV → Option R) → Option R := entF qbdk qbiw AV.bool
theorem qkl {R : Type} : qd Try.prog 64 (qfx (R := R)) :=
  qcg tabOk follows Try.func64 (by kernel_rfl) qbiv hdeB qbgh (qbi (by kernel_rfl)) fun xs => qbiu _ _ _ _ _ _ _ _
def q9p : Shp := ⟨[(0, .st (lk qa)), (1, .st (lk qa))], []⟩
def qtf (Aa : Bool) (Ab Ac Ad Ae : Int) (Af Ag : List UInt8) (Ah : Int) (Aq : Bool) (Ar As At Ay : Int) (Az A0 : List UInt8) (A1 : Int) : Option Bool :=
  (bif (Ae == (1 : Int)) then (some true) else (bif (Ae == (2 : Int)) then (some (Ay == (3 : Int))) else (some false)))
def qn7 := hull qtf
theorem qzl : qn7 = qtf := qk _
def qtg : AC Bool :=
  .seq (.reg [ao 2 (.box 0),
 ao 3 (.box 1),
 ao 4 (.mv (.c (.bool false)))]) (.seq (.reg [ao 5 (.fa 4 2),
 ao 6 (.load false 1 5),
 ao 7 (.bin .eql 6 (.c (.int .i64 1))),
 ao 8 (.mv 7),
 ag 9 8 false (.fa 4 2),
 ag 10 8 false (.load false 1 9),
 ag 11 8 false (.bin .eql 10 (.c (.int .i64 2))),
 ag 12 8 false (.mv 11),
 ag 13 12 true (.fa 4 3),
 ag 14 12 true (.load false 1 13),
 ag 15 12 true (.bin .eql 14 (.c (.int .i64 3))),
 ag 16 8 false (.pick 12 15 (.c (.bool false))),
 ao 17 (.pick 8 (.c (.bool true)) 16),
 ao 4 (.mv 17)]) (.ret))
theorem qbby : AC.ok Try.prog (TIof Try.prog) 18 0 (kret [.t 4] decB) qtg := qo trivial
theorem qbdl (Aa : Bool) (Ab Ac Ad Ae : Int) (Af Ag : List UInt8) (Ah : Int) (Aq : Bool) (Ar As At Ay : Int) (Az A0 : List UInt8) (A1 : Int) : den 0 (kret [.t 4] decB) qtg (qj [(0, .agg (qc Aa Ab Ac Ad Ae Af Ag Ah)), (1, .agg (qc Aq Ar As At Ay Az A0 A1))]) (qg []) (kend (kret [.t 4] decB)) = qn7 Aa Ab Ac Ad Ae Af Ag Ah Aq Ar As At Ay Az A0 A1 := by
  rw [qzl]; kernel_rfl
theorem qbdm : cFn (TIof Try.prog) Try.f80 = some ⟨18, [.t 4], scOf qtg⟩ := by kernel_rfl
def qbdn (xs : List AV) : Option Bool := qh ((ql xs) 1).cells (qh ((ql xs) 0).cells (qn7))
def qx2 {R : Type} : List AV → (AV → Option R) → Option R := entF q9p qbdn AV.bool
theorem qbdo {R : Type} : qd Try.prog 80 (qx2 (R := R)) :=
  qcg tabOk follows Try.func80 (by kernel_rfl) qbdm hdeB qbby (qbi (by kernel_rfl)) fun xs => qbdl _ _ _ _ _ _ _ _ _ _ _ _ _ _ _ _
def q1y : Shp := ⟨[(0, .st (lk qa)), (1, .one (.ptr 0 0))], [.box true (lk qa)]⟩
def qsr {R : Type} (KK : AV → Mem → Option R) := (fun v3 Ai Aj Ak Al Am An Ao Ap => KK (.bool v3) (qg [(some (.box true [(.bool Ai), (.int .u64 Aj), (.int .u64 Ak), (.int .i64 Al), (.int .i64 Am), (.str An), (.str Ao), (.int .i64 Ap)]))]))
def qnk {R : Type}  (Aa : Bool) (Ab Ac Ad Ae : Int) (Af Ag : List UInt8) (Ah : Int) (Ai : Bool) (Aj Ak Al Am : Int) (An Ao : List UInt8) (Ap : Int) (kr : Bool → Bool → Int → Int → Int → Int → (List UInt8) → (List UInt8) → Int → Option R) : Option R :=
  (oB (qf8 Ai Aj Ak Al Aa Ab Ac Ad) fun r1 => (bif r1 then (oB (qn7 Aa Ab Ac Ad Ae Af Ag Ah Ai Aj Ak Al Am An Ao Ap) fun r2 => (kr (!r2) Ai Aj Ak Al Am An Ao Ap)) else (kr false Ai Aj Ak Al Am An Ao Ap)))
def qj0 {R : Type} := hull (qnk (R := R))
theorem qss {R : Type} : qj0 (R := R) = qnk := qk _
def qfp {R : Type} (KK : AV → Mem → Option R) : AC R :=
  .seq (.reg [ao 2 (.box 0),
 ao 3 (.mv (.c (.bool false)))]) (.seq (.reg [ao 4 (.fa 0 1),
 ao 5 (.load true 4 4),
 ao 6 (.fa 0 2),
 ao 7 (.load true 4 6),
 .call (po 8 (.call 64 [5, 7])) 64 qfx,
 ao 9 (.mv 8),
 ag 10 9 true (.load true 8 2),
 ag 11 9 true (.load true 8 1),
 .call (pg 12 9 true (.call 80 [10, 11])) 80 qx2,
 ag 13 9 true (.un .not 12),
 ao 14 (.pick 9 13 (.c (.bool false))),
 ao 3 (.mv 14)]) (.seq (.view [.sel [3] [0]]) (.ret)))
theorem q2i {R : Type} (KK : AV → Mem → Option R) : AC.ok Try.prog (TIof Try.prog) 15 1 (qm [.t 3] KK) (qfp KK) := qo (zA (qd.ok qkl) (zA (qd.ok qbdo) trivial))
theorem q3z {R : Type} (KK : AV → Mem → Option R) (Aa : Bool) (Ab Ac Ad Ae : Int) (Af Ag : List UInt8) (Ah : Int) (Ai : Bool) (Aj Ak Al Am : Int) (An Ao : List UInt8) (Ap : Int) : den 1 (qm [.t 3] KK) (qfp KK) (qj [(0, .agg (qc Aa Ab Ac Ad Ae Af Ag Ah)), (1, (.ptr 0 0))]) (qg [(some (.box true (qc Ai Aj Ak Al Am An Ao Ap)))]) (kend (qm [.t 3] KK)) = qj0 Aa Ab Ac Ad Ae Af Ag Ah Ai Aj Ak Al Am An Ao Ap (qsr KK) := by
  rw [qss]; kernel_rfl
theorem q30 : cFn (TIof Try.prog) Try.f79 = some ⟨15, [.t 3], scOf (qfp (R := Unit) (fun _ _ => none))⟩ := by kernel_rfl
theorem q31 {R : Type} (KK : AV → Mem → Option R) : (qfp KK).er = some (scOf (qfp (R := Unit) (fun _ _ => none))) := by kernel_rfl
def qth {R : Type} : List AV → Mem → (AV → Mem → Option R) → Option R := refE q1y fun xs m KK => qh (bxC (m.s 0)) (qh ((ql xs) 0).cells (qj0)) (qsr KK)
theorem q32 {R : Type} : qfa Try.prog 79 (qth (R := R)) :=
  qka (ac := fun KK => qfp KK) tabOk follows Try.func79 (by kernel_rfl) q30 (fun KK => q2i KK) (fun KK => q31 KK) rfl fun xs m KK => q3z KK _ _ _ _ _ _ _ _ _ _ _ _ _ _ _ _
def qbp {R : Type}  (K : Ex → Env → Mem → Option R) := (fun z_b0_0 z_b0_1 z_b0_2 z_b0_3 z_b0_4 z_b0_5 z_b0_6 z_b0_7 => K (.exit 0) (qj []) (qg [(some (.box true (qc z_b0_0 z_b0_1 z_b0_2 z_b0_3 z_b0_4 z_b0_5 z_b0_6 z_b0_7)))]))
def qbr {R : Type} (KK : AV → Mem → Option R) := (fun v4 Ai Aj Ak Al Am An Ao Ap => KK (.int .i64 v4) (qg [(some (.box true [(.bool Ai), (.int .u64 Aj), (.int .u64 Ak), (.int .i64 Al), (.int .i64 Am), (.str An), (.str Ao), (.int .i64 Ap)]))]))
def qgo : Shp := ⟨[(0, .one (.l (.sl 8))), (1, .one (.fn 79 [(0, 0)])), (7, .one (.l (.i .i64))), (8, .one (.l (.i .i64)))], [.box true (lk qa)]⟩
def qco (v0 : List AV) (v7 v8 : Int) (Ai : Bool) (Aj Ak Al Am : Int) (An Ao : List UInt8) (Ap : Int) : Env := qj [(0, (.sl 8 v0)), (1, (.func 79 [(.ptr 0 0)])), (7, (.int .i64 v7)), (8, (.int .i64 v8))]
def qcp (v0 : List AV) (v7 v8 : Int) (Ai : Bool) (Aj Ak Al Am : Int) (An Ao : List UInt8) (Ap : Int) : Mem := qg [(some (.box true (qc Ai Aj Ak Al Am An Ao Ap)))]
def qu {R : Type}  (v0 : List AV) (v7 v8 : Int) (Ai : Bool) (Aj Ak Al Am : Int) (An Ao : List UInt8) (Ap : Int) (next : Int → Bool → Int → Int → Int → Int → (List UInt8) → (List UInt8) → Int → Option R) (kx0 : Bool → Int → Int → Int → Int → (List UInt8) → (List UInt8) → Int → Option R) (kr : Int → Bool → Int → Int → Int → Int → (List UInt8) → (List UInt8) → Int → Option R) : Option R :=
  (bif (decide (v8 < v7)) then (oB (ixB v0 v8) fun y1 => (bif fitC qa y1.cells then (qj0 (gB y1.cells 0) (gI y1.cells 1) (gI y1.cells 2) (gI y1.cells 3) (gI y1.cells 4) (gS y1.cells 5) (gS y1.cells 6) (gI y1.cells 7) Ai Aj Ak Al Am An Ao Ap fun v3q2 b0_0q3 b0_1q4 b0_2q5 b0_3q6 b0_4q7 b0_5q8 b0_6q9 b0_7q10 => (bif v3q2 then (kr v8 b0_0q3 b0_1q4 b0_2q5 b0_3q6 b0_4q7 b0_5q8 b0_6q9 b0_7q10) else (next (IntKind.i64.wrap (v8 + (1 : Int))) b0_0q3 b0_1q4 b0_2q5 b0_3q6 b0_4q7 b0_5q8 b0_6q9 b0_7q10))) else none)) else (kx0 Ai Aj Ak Al Am An Ao Ap))
def qbv {R : Type}  (v0 : List AV) (v7 : Int) (kx0 : Bool → Int → Int → Int → Int → (List UInt8) → (List UInt8) → Int → Option R) (kr : Int → Bool → Int → Int → Int → Int → (List UInt8) → (List UInt8) → Int → Option R) : Nat → Int → Bool → Int → Int → Int → Int → (List UInt8) → (List UInt8) → Int → Option R
  | 0 => (fun _ _ _ _ _ _ _ _ _ => none)
  | n + 1 => (fun v8 Ai Aj Ak Al Am An Ao Ap => qu v0 v7 v8 Ai Aj Ak Al Am An Ao Ap (qbv v0 v7 kx0 kr n) kx0 kr)
def qb2 {R : Type} := hull (qbv (R := R))
theorem qdn {R : Type} : qb2 (R := R) = qbv := qk _
def qv {R : Type} (KK : AV → Mem → Option R) : AC R :=
  .seq (.reg [ao 9 (.bin .lss 8 7)]) (.seq (.cond 9 (.skip) (.seq (.view [.sel [] [0]]) (.exit 0))) (.seq (.block 1 (.seq (.reg [ao 10 (.mv 8),
 ao 5 (.mv 10)]) (.seq (.reg [ao 11 (.mv 1),
 ao 12 (.mv 0),
 ao 13 (.mv 5),
 ao 14 (.ia 8 12 13),
 .st (.etac 14 qa),
 ao 15 (.load true 8 14),
 .st (.sel [0, 1, 5, 7, 8, 11, 15] [0]),
 .callr (po 16 (.callv 11 [15])) 79 qth]) (.cond 16 (.seq (.reg [ao 17 (.mv 5),
 ao 4 (.mv 17)]) (.seq (.view [.sel [4] [0]]) (.ret))) (.skip))))) (.seq (.reg [ao 18 (.bin .add 8 (.c (.int .i64 1))),
 ao 8 (.mv 18)]) (.view [.sel [0, 1, 7, 8] [0]]))))
theorem qg2 {R : Type} (KK : AV → Mem → Option R) : AC.ok Try.prog (TIof Try.prog) 19 1 (qm [.t 4] KK) (qv KK) := qo (zA q32 trivial)
theorem qgp {R : Type} (KK : AV → Mem → Option R) (v0 : List AV) (v7 v8 : Int) (Ai : Bool) (Aj Ak Al Am : Int) (An Ao : List UInt8) (Ap : Int) (K : Ex → Env → Mem → Option R) : den 1 (qm [.t 4] KK) (qv KK) (qco v0 v7 v8 Ai Aj Ak Al Am An Ao Ap) (qcp v0 v7 v8 Ai Aj Ak Al Am An Ao Ap) K = qu v0 v7 v8 Ai Aj Ak Al Am An Ao Ap (fun z_v8 z_b0_0 z_b0_1 z_b0_2 z_b0_3 z_b0_4 z_b0_5 z_b0_6 z_b0_7 => K .norm (qco v0 v7 z_v8 z_b0_0 z_b0_1 z_b0_2 z_b0_3 z_b0_4 z_b0_5 z_b0_6 z_b0_7) (qcp v0 v7 z_v8 z_b0_0 z_b0_1 z_b0_2 z_b0_3 z_b0_4 z_b0_5 z_b0_6 z_b0_7)) (qbp K) (qbr KK) := by kernel_rfl
theorem qhd {R : Type} (KK : AV → Mem → Option R) (v0 : List AV) (v7 : Int) (K : Ex → Env → Mem → Option R) : ∀ (n : Nat) (v8 : Int) (Ai : Bool) (Aj Ak Al Am : Int) (An Ao : List UInt8) (Ap : Int), qg0 (den 1 (qm [.t 4] KK) (qv KK)) n (qco v0 v7 v8 Ai Aj Ak Al Am An Ao Ap) (qcp v0 v7 v8 Ai Aj Ak Al Am An Ao Ap) K = qb2 v0 v7 (qbp K) (qbr KK) n v8 Ai Aj Ak Al Am An Ao Ap := by
  rw [qdn]
  intro n
  induction n with
  | zero => intros; rfl
  | succ n ih =>
 intro v8 Ai Aj Ak Al Am An Ao Ap
 exact (qgp KK v0 v7 v8 Ai Aj Ak Al Am An Ao Ap (itK (den 1 (qm [.t 4] KK) (qv KK)) n K)).trans (congrArg (fun q => qu v0 v7 v8 Ai Aj Ak Al Am An Ao Ap q (qbp K) (qbr KK)) (funext fun v8 => funext fun Ai => funext fun Aj => funext fun Ak => funext fun Al => funext fun Am => funext fun An => funext fun Ao => funext fun Ap => ih v8 Ai Aj Ak Al Am An Ao Ap))
def qdv {R : Type} (KK : AV → Mem → Option R) := subE (R := R) qgo fun t m K => qh (bxC (m.s 0)) (qb2 (gL [t 0] 0) (gI [t 7] 0) (qbp K) (qbr KK) FU (gI [t 8] 0))
theorem qhe {R : Type} (KK : AV → Mem → Option R) : qdj Try.prog (TIof Try.prog) 19 1 (qm [.t 4] KK) (.loop (scOf (qv KK))) (qdv KK) :=
  qic tabOk follows (qg2 KK) (qbi (by kernel_rfl)) fun t m K => qhd KK _ _ K FU _ _ _ _ _ _ _ _ _
def qhm : Shp := ⟨[(0, .one (.l (.sl 8))), (1, .one (.fn 79 [(0, 0)]))], [.box true (lk qa)]⟩
def qd6 {R : Type} (KK : AV → Mem → Option R) := (fun v4 Ai Aj Ak Al Am An Ao Ap => KK (.int .i64 v4) (qg [(some (.box true [(.bool Ai), (.int .u64 Aj), (.int .u64 Ak), (.int .i64 Al), (.int .i64 Am), (.str An), (.str Ao), (.int .i64 Ap)]))]))
def qc1 {R : Type}  (v0 : List AV) (Ai : Bool) (Aj Ak Al Am : Int) (An Ao : List UInt8) (Ap : Int) (kr : Int → Bool → Int → Int → Int → Int → (List UInt8) → (List UInt8) → Int → Option R) : Option R :=
  (qb2 v0 (v0.length : Int) (fun b0_0q1 b0_1q2 b0_2q3 b0_3q4 b0_4q5 b0_5q6 b0_6q7 b0_7q8 => (kr (-1 : Int) b0_0q1 b0_1q2 b0_2q3 b0_3q4 b0_4q5 b0_5q6 b0_6q7 b0_7q8)) kr FU (0 : Int) Ai Aj Ak Al Am An Ao Ap)
def qbl {R : Type} := hull (qc1 (R := R))
theorem qd7 {R : Type} : qbl (R := R) = qc1 := qk _
def qba {R : Type} (KK : AV → Mem → Option R) : AC R :=
  .seq (.reg [ao 4 (.mv (.c (.int .i64 0)))]) (.seq (.seq (.reg [ao 6 (.mv 0),
 ao 7 (.len false 6),
 ao 8 (.mv (.c (.int .i64 0)))]) (.block 0 (.seq (.view [.sel [0, 1, 7, 8] [0]]) (.sub (.loop (scOf (qv KK))) (qdv KK))))) (.seq (.reg [ao 4 (.mv (.c (.int .i64 (-1))))]) (.seq (.view [.sel [4] [0]]) (.ret))))
theorem qid {R : Type} (KK : AV → Mem → Option R) : AC.ok Try.prog (TIof Try.prog) 19 1 (qm [.t 4] KK) (qba KK) := qo (zA (qhe KK) trivial)
theorem qip {R : Type} (KK : AV → Mem → Option R) (v0 : List AV) (Ai : Bool) (Aj Ak Al Am : Int) (An Ao : List UInt8) (Ap : Int) : den 1 (qm [.t 4] KK) (qba KK) (qj [(0, (.sl 8 v0)), (1, (.func 79 [(.ptr 0 0)]))]) (qg [(some (.box true (qc Ai Aj Ak Al Am An Ao Ap)))]) (kend (qm [.t 4] KK)) = qbl v0 Ai Aj Ak Al Am An Ao Ap (qd6 KK) := by
  rw [qd7]; kernel_rfl
theorem qiq : cFn (TIof Try.prog) Try.f88 = some ⟨19, [.t 4], scOf (qba (R := Unit) (fun _ _ => none))⟩ := by kernel_rfl
theorem qir {R : Type} (KK : AV → Mem → Option R) : (qba KK).er = some (scOf (qba (R := Unit) (fun _ _ => none))) := by kernel_rfl
def qek {R : Type} : List AV → Mem → (AV → Mem → Option R) → Option R := refE qhm fun xs m KK => qh (bxC (m.s 0)) (qbl (gL [(ql xs) 0] 0)) (qd6 KK)
theorem qis {R : Type} : qfa Try.prog 88 (qek (R := R)) :=
  qka (ac := fun KK => qba KK) tabOk follows Try.func88 (by kernel_rfl) qiq (fun KK => qid KK) (fun KK => qir KK) rfl fun xs m KK => qip KK _ _ _ _ _ _ _ _ _
def qgq : Shp := ⟨[(0, .one (.l (.sl 8))), (1, .one (.fn 79 [(0, 0)]))], [.box true (lk qa)]⟩
def qdo {R : Type} (KK : AV → Mem → Option R) := (fun v4 Ai Aj Ak Al Am An Ao Ap => KK (.bool v4) (qg [(some (.box true [(.bool Ai), (.int .u64 Aj), (.int .u64 Ak), (.int .i64 Al), (.int .i64 Am), (.str An), (.str Ao), (.int .i64 Ap)]))]))
def qcs {R : Type}  (v0 : List AV) (Ai : Bool) (Aj Ak Al Am : Int) (An Ao : List UInt8) (Ap : Int) (kr : Bool → Bool → Int → Int → Int → Int → (List UInt8) → (List UInt8) → Int → Option R) : Option R :=
  (qbl v0 Ai Aj Ak Al Am An Ao Ap fun v4q1 b0_0q2 b0_1q3 b0_2q4 b0_3q5 b0_4q6 b0_5q7 b0_6q8 b0_7q9 => (kr (decide (v4q1 ≥ (0 : Int))) b0_0q2 b0_1q3 b0_2q4 b0_3q5 b0_4q6 b0_5q7 b0_6q8 b0_7q9))
def qb3 {R : Type} := hull (qcs (R := R))
theorem qdp {R : Type} : qb3 (R := R) = qcs := qk _
def qw {R : Type} (KK : AV → Mem → Option R) : AC R :=
  .seq (.reg [ao 4 (.mv (.c (.bool false)))]) (.seq (.reg [ao 5 (.mv 0),
 ao 6 (.mv 1),
 .st (.sel [5, 6] [0]),
 .callr (po 7 (.call 88 [5, 6])) 88 qek,
 ao 8 (.bin .geq 7 (.c (.int .i64 0))),
 ao 4 (.mv 8)]) (.seq (.view [.sel [4] [0]]) (.ret)))
theorem qg3 {R : Type} (KK : AV → Mem → Option R) : AC.ok Try.prog (TIof Try.prog) 9 1 (qm [.t 4] KK) (qw KK) := qo (zA qis trivial)
theorem qhf {R : Type} (KK : AV → Mem → Option R) (v0 : List AV) (Ai : Bool) (Aj Ak Al Am : Int) (An Ao : List UInt8) (Ap : Int) : den 1 (qm [.t 4] KK) (qw KK) (qj [(0, (.sl 8 v0)), (1, (.func 79 [(.ptr 0 0)]))]) (qg [(some (.box true (qc Ai Aj Ak Al Am An Ao Ap)))]) (kend (qm [.t 4] KK)) = qb3 v0 Ai Aj Ak Al Am An Ao Ap (qdo KK) := by
  rw [qdp]; kernel_rfl
theorem qhg : cFn (TIof Try.prog) Try.f68 = some ⟨9, [.t 4], scOf (qw (R := Unit) (fun _ _ => none))⟩ := by kernel_rfl
theorem qhh {R : Type} (KK : AV → Mem → Option R) : (qw KK).er = some (scOf (qw (R := Unit) (fun _ _ => none))) := by kernel_rfl
def qdw {R : Type} : List AV → Mem → (AV → Mem → Option R) → Option R := refE qgq fun xs m KK => qh (bxC (m.s 0)) (qb3 (gL [(ql xs) 0] 0)) (qdo KK)
theorem qhi {R : Type} : qfa Try.prog 68 (qdw (R := R)) :=
  qka (ac := fun KK => qw KK) tabOk follows Try.func68 (by kernel_rfl) qhg (fun KK => qg3 KK) (fun KK => qhh KK) rfl fun xs m KK => qhf KK _ _ _ _ _ _ _ _ _
def q33 : Shp := ⟨[(0, .one (.l (.sl 8))), (1, .st (lk qa))], []⟩
def qpw (v0 : List AV) (Aq : Bool) (Ar As At Ay : Int) (Az A0 : List UInt8) (A1 : Int) : Option Bool :=
  (qb3 v0 Aq Ar As At Ay Az A0 A1 fun v4q1 b0_0q2 b0_1q3 b0_2q4 b0_3q5 b0_4q6 b0_5q7 b0_6q8 b0_7q9 => (some v4q1))
def qgj := hull qpw
theorem quq : qgj = qpw := qk _
def qpx : AC Bool :=
  .seq (.reg [ao 3 (.box 1),
 ao 4 (.mv (.c (.bool false)))]) (.seq (.reg [ao 5 (.mv 0),
 ao 6 (.mkf 79 [3]),
 .st (.sel [5, 6] [0]),
 .callr (po 7 (.call 68 [5, 6])) 68 qdw,
 ao 4 (.mv 7)]) (.ret))
theorem q50 : AC.ok Try.prog (TIof Try.prog) 8 0 (kret [.t 4] decB) qpx := qo (zA qhi trivial)
theorem q6x (v0 : List AV) (Aq : Bool) (Ar As At Ay : Int) (Az A0 : List UInt8) (A1 : Int) : den 0 (kret [.t 4] decB) qpx (qj [(0, (.sl 8 v0)), (1, .agg (qc Aq Ar As At Ay Az A0 A1))]) (qg []) (kend (kret [.t 4] decB)) = qgj v0 Aq Ar As At Ay Az A0 A1 := by
  rw [quq]; kernel_rfl
theorem q6y : cFn (TIof Try.prog) Try.f44 = some ⟨8, [.t 4], scOf qpx⟩ := by kernel_rfl
def q6z (xs : List AV) : Option Bool := qh ((ql xs) 1).cells (qgj (gL [(ql xs) 0] 0))
def qnl {R : Type} : List AV → (AV → Option R) → Option R := entF q33 q6z AV.bool
theorem qwg {R : Type} : qd Try.prog 44 (qnl (R := R)) :=
  qcg tabOk follows Try.func44 (by kernel_rfl) q6y hdeB q50 (qbi (by kernel_rfl)) fun xs => q6x _ _ _ _ _ _ _ _ _
def qur  (v0 : List AV) (v3 : Int) (v10 : List AV) (v11 v12 : Int) (Ai : Bool) (Aj Ak Al Am : Int) (An Ao : List UInt8) (Ap : Int) (K : Ex → Env → Mem → Option Int) := (fun (_ : Unit) => K .norm (qj [(0, (.sl 8 v0)), (3, (.int .i64 v3)), (4, (.ptr 0 0)), (10, (.sl 8 v10)), (11, (.int .i64 v11)), (12, (.int .i64 v12))]) (qg [(some (.box true (qc Ai Aj Ak Al Am An Ao Ap)))]))
def q34 : Shp := ⟨[(0, .one (.l (.sl 8))), (3, .one (.l (.i .i64))), (4, .one (.ptr 0 0)), (10, .one (.l (.sl 8))), (11, .one (.l (.i .i64))), (12, .one (.l (.i .i64)))], [.box true (lk qa)]⟩
def qpy  (v0 : List AV) (v3 : Int) (v10 : List AV) (v11 v12 : Int) (Ai : Bool) (Aj Ak Al Am : Int) (An Ao : List UInt8) (Ap : Int) (kn : Unit → Option Int) : Option Int :=
  (bif (decide (v3 > (0 : Int))) then (oB (ixB v0 (IntKind.i64.wrap (v3 - (1 : Int)))) fun y1 => (bif fitC qa y1.cells then (oB (qlg Ai Aj Ak Al (gB y1.cells 0) (gI y1.cells 1) (gI y1.cells 2) (gI y1.cells 3)) fun r2 => (bif (decide (r2 < (0 : Int))) then (some (7 : Int)) else (bif (r2 == (0 : Int)) then (some (12 : Int)) else (kn ())))) else none)) else (kn ()))
def qnm := hull (qpy)
theorem qus : qnm = qpy := qk _
def ql5 : AC Int :=
  .seq (.reg [ao 22 (.mv 3),
 ao 23 (.bin .gtr 22 (.c (.int .i64 0)))]) (.cond 23 (.seq (.draw [] [ao 24 (.fa 0 4),
 ao 25 (.load true 4 24),
 ao 26 (.mv 0),
 ao 27 (.mv 3),
 ao 28 (.bin .sub 27 (.c (.int .i64 1))),
 ao 29 (.ia 8 26 28),
 .et 29 qa,
 ao 30 (.fa 0 29),
 ao 31 (.load true 4 30)] [.call (po 32 (.call 40 [25, 31])) 40 qpv,
 ao 6 (.mv 32)]) (.seq (.seq (.reg [ao 33 (.mv 6),
 ao 34 (.bin .lss 33 (.c (.int .i64 0)))]) (.cond 34 (.seq (.reg [ao 2 (.mv (.c (.int .i64 7)))]) (.ret)) (.skip))) (.seq (.reg [ao 35 (.mv 6),
 ao 36 (.bin .eql 35 (.c (.int .i64 0)))]) (.cond 36 (.seq (.reg [ao 2 (.mv (.c (.int .i64 12)))]) (.ret)) (.seq (.skip) (.view [.sel [0, 3, 4, 10, 11, 12] [0]])))))) (.seq (.skip) (.view [.sel [0, 3, 4, 10, 11, 12] [0]])))
theorem q51 : AC.ok Try.prog (TIof Try.prog) 43 0 (kret [.t 2] (decI .i64)) ql5 := qo (zA (qd.ok qzj) (zA rfl trivial))
theorem q60 (v0 : List AV) (v3 : Int) (v10 : List AV) (v11 v12 : Int) (Ai : Bool) (Aj Ak Al Am : Int) (An Ao : List UInt8) (Ap : Int) (K : Ex → Env → Mem → Option Int) : den 0 (kret [.t 2] (decI .i64)) ql5 (qj [(0, (.sl 8 v0)), (3, (.int .i64 v3)), (4, (.ptr 0 0)), (10, (.sl 8 v10)), (11, (.int .i64 v11)), (12, (.int .i64 v12))]) (qg [(some (.box true (qc Ai Aj Ak Al Am An Ao Ap)))]) K = qnm v0 v3 v10 v11 v12 Ai Aj Ak Al Am An Ao Ap (qur v0 v3 v10 v11 v12 Ai Aj Ak Al Am An Ao Ap K) := by
  rw [qus]; kernel_rfl
def qwh := subE (R := Int) q34 fun t m K => qh (bxC (m.s 0)) (qnm (gL [t 0] 0) (gI [t 3] 0) (gL [t 10] 0) (gI [t 11] 0) (gI [t 12] 0)) (qur (gL [t 0] 0) (gI [t 3] 0) (gL [t 10] 0) (gI [t 11] 0) (gI [t 12] 0) (gB (bxC (m.s 0)) 0) (gI (bxC (m.s 0)) 1) (gI (bxC (m.s 0)) 2) (gI (bxC (m.s 0)) 3) (gI (bxC (m.s 0)) 4) (gS (bxC (m.s 0)) 5) (gS (bxC (m.s 0)) 6) (gI (bxC (m.s 0)) 7) K)
theorem q61 : qdj Try.prog (TIof Try.prog) 43 0 (kret [.t 2] (decI .i64)) (scOf ql5) (qwh) :=
  qk2 tabOk follows (q51) (qbi (by kernel_rfl)) fun t m K => q60 _ _ _ _ _ _ _ _ _ _ _ _ _ K
def qk5  (K : Ex → Env → Mem → Option Int) := (fun (_ : Unit) => K (.exit 0) (qj []) (qg []))
def q35 : Shp := ⟨[(0, .one (.l (.sl 8))), (10, .one (.l (.sl 8))), (11, .one (.l (.i .i64))), (12, .one (.l (.i .i64)))], []⟩
def qos (v0 v10 : List AV) (v11 v12 : Int) : Env := qj [(0, (.sl 8 v0)), (10, (.sl 8 v10)), (11, (.int .i64 v11)), (12, (.int .i64 v12))]
def qot (v0 v10 : List AV) (v11 v12 : Int) : Mem := qg []
def qgr  (v0 v10 : List AV) (v11 v12 : Int) (next : Int → Option Int) (kx0 : Unit → Option Int) : Option Int :=
  (bif (decide (v12 < v11)) then (oB (ixB v10 v12) fun y1 => (bif fitC qa y1.cells then (oB (qll (gB y1.cells 0) (gI y1.cells 1) (gI y1.cells 2) (gI y1.cells 3) (gI y1.cells 4) (gS y1.cells 5) (gS y1.cells 6) (gI y1.cells 7)) fun r2 => (bif (r2 != (0 : Int)) then (some r2) else (qnm v0 v12 v10 v11 v12 (gB y1.cells 0) (gI y1.cells 1) (gI y1.cells 2) (gI y1.cells 3) (gI y1.cells 4) (gS y1.cells 5) (gS y1.cells 6) (gI y1.cells 7) (fun (_ : Unit) => (oB (cutI v0 none (some v12)) fun s3 => (oB (qgj s3 (gB y1.cells 0) (gI y1.cells 1) (gI y1.cells 2) (gI y1.cells 3) (gI y1.cells 4) (gS y1.cells 5) (gS y1.cells 6) (gI y1.cells 7)) fun r4 => (bif r4 then (some (24 : Int)) else (next (IntKind.i64.wrap (v12 + (1 : Int))))))))))) else none)) else (kx0 ()))
def ql6  (v0 v10 : List AV) (v11 : Int) (kx0 : Unit → Option Int) : Nat → Int → Option Int
  | 0 => (fun _ => none)
  | n + 1 => (fun v12 => qgr v0 v10 v11 v12 (ql6 v0 v10 v11 kx0 n) kx0)
def qnn := hull (ql6)
theorem qut : qnn = ql6 := qk _
def qgs : AC Int :=
  .seq (.reg [ao 13 (.bin .lss 12 11)]) (.seq (.cond 13 (.skip) (.seq (.view [.sel [] []]) (.exit 0))) (.seq (.block 1 (.seq (.reg [ao 14 (.mv 12),
 ao 15 (.ia 8 10 12),
 .st (.etac 15 qa),
 ao 16 (.load true 8 15),
 ao 4 (.alloc [(.bool false), (.int .u64 0), (.int .u64 0), (.int .i64 0), (.int .i64 0), (.str []), (.str []), (.int .i64 0)]),
 ao 3 (.mv 14),
 an (.store 8 4 16)]) (.seq (.seq (.reg [ao 17 (.load true 8 4),
 .call (po 18 (.call 43 [17])) 43 qr6,
 ao 5 (.mv 18)]) (.seq (.reg [ao 19 (.mv 5),
 ao 20 (.bin .neq 19 (.c (.int .i64 0)))]) (.cond 20 (.seq (.reg [ao 21 (.mv 5),
 ao 2 (.mv 21)]) (.ret)) (.skip)))) (.seq (.seq (.view [.sel [0, 3, 4, 10, 11, 12] [0]]) (.sub (scOf ql5) qwh)) (.seq (.draw [] [ao 37 (.mv 0),
 ao 38 (.mv 3),
 ao 39 (.slc 8 37 none (some 38)),
 ao 40 (.load true 8 4)] [.call (po 41 (.call 44 [39, 40])) 44 qnl]) (.cond 41 (.seq (.reg [ao 2 (.mv (.c (.int .i64 24)))]) (.ret)) (.skip))))))) (.seq (.reg [ao 42 (.bin .add 12 (.c (.int .i64 1))),
 ao 12 (.mv 42)]) (.view [.sel [0, 10, 11, 12] []]))))
theorem q52 : AC.ok Try.prog (TIof Try.prog) 43 0 (kret [.t 2] (decI .i64)) qgs := qo (zA (qd.ok q2e) (zA q61 (zA (qd.ok qwg) (zA rfl trivial))))
theorem q36 (v0 v10 : List AV) (v11 v12 : Int) (K : Ex → Env → Mem → Option Int) : den 0 (kret [.t 2] (decI .i64)) qgs (qos v0 v10 v11 v12) (qot v0 v10 v11 v12) K = qgr v0 v10 v11 v12 (fun z_v12 => K .norm (qos v0 v10 v11 z_v12) (qot v0 v10 v11 z_v12)) (qk5 K) := by kernel_rfl
theorem q62 (v0 v10 : List AV) (v11 : Int) (K : Ex → Env → Mem → Option Int) : ∀ (n : Nat) (v12 : Int), qg0 (den 0 (kret [.t 2] (decI .i64)) qgs) n (qos v0 v10 v11 v12) (qot v0 v10 v11 v12) K = qnn v0 v10 v11 (qk5 K) n v12 := by
  rw [qut]
  intro n
  induction n with
  | zero => intros; rfl
  | succ n ih =>
 intro v12
 exact (q36 v0 v10 v11 v12 (itK (den 0 (kret [.t 2] (decI .i64)) qgs) n K)).trans (congrArg (fun q => qgr v0 v10 v11 v12 q (qk5 K)) (funext fun v12 => ih v12))
def qwi := subE (R := Int) q35 fun t m K => qnn (gL [t 0] 0) (gL [t 10] 0) (gI [t 11] 0) (qk5 K) FU (gI [t 12] 0)
theorem q63 : qdj Try.prog (TIof Try.prog) 43 0 (kret [.t 2] (decI .i64)) (.loop (scOf qgs)) (qwi) :=
  qic tabOk follows (q52) (qbi (by kernel_rfl)) fun t m K => q62 _ _ _ K FU _
def qbbz : Shp := ⟨[(0, .one (.l (.sl 8)))], []⟩
def qve (v0 : List AV) : Option Int :=
  (bif (decide ((v0.length : Int) > (512 : Int))) then (some (9 : Int)) else (qnn v0 v0 (v0.length : Int) (fun (_ : Unit) => (some (0 : Int))) FU (0 : Int)))
def qlm := hull qve
theorem q03 : qlm = qve := qk _
def qvf : AC Int :=
  .seq (.reg [ao 2 (.mv (.c (.int .i64 0)))]) (.seq (.seq (.reg [ao 7 (.mv 0),
 ao 8 (.len false 7),
 ao 9 (.bin .gtr 8 (.c (.int .i64 512)))]) (.cond 9 (.seq (.reg [ao 2 (.mv (.c (.int .i64 9)))]) (.ret)) (.skip))) (.seq (.seq (.reg [ao 10 (.mv 0),
 ao 11 (.len false 10),
 ao 12 (.mv (.c (.int .i64 0)))]) (.block 0 (.seq (.view [.sel [0, 10, 11, 12] []]) (.sub (.loop (scOf qgs)) qwi)))) (.seq (.reg [ao 2 (.mv (.c (.int .i64 0)))]) (.ret))))
theorem qbdp : AC.ok Try.prog (TIof Try.prog) 43 0 (kret [.t 2] (decI .i64)) qvf := qo (zA q63 trivial)
theorem qbgi (v0 : List AV) : den 0 (kret [.t 2] (decI .i64)) qvf (qj [(0, (.sl 8 v0))]) (qg []) (kend (kret [.t 2] (decI .i64))) = qlm v0 := by
  rw [q03]; kernel_rfl
theorem qbgj : cFn (TIof Try.prog) Try.f11 = some ⟨43, [.t 2], scOf qvf⟩ := by kernel_rfl
def qbgk (xs : List AV) : Option Int := qlm (gL [(ql xs) 0] 0)
def qr9 {R : Type} : List AV → (AV → Option R) → Option R := entF qbbz qbgk (AV.int .i64)
theorem q2j {R : Type} : qd Try.prog 11 (qr9 (R := R)) :=
  qcg tabOk follows Try.func11 (by kernel_rfl) qbgj hdeI qbdp (qbi (by kernel_rfl)) fun xs => qbgi _
def qbdq : Shp := ⟨[(0, .one (.l (.i .u64))), (1, .one (.l (.i .i64)))], []⟩
def q5l (v0 v1 : Int) : Option AV :=
  (some (.agg [(.bool false), (.int .u64 (0 : Int)), (.int .u64 v0), (.int .i64 v1)]))
def qmi := hull q5l
theorem q2k : qmi = q5l := qk _
def qxg : AC AV :=
  .seq (.reg [ao 4 (.alloc [(.bool false), (.int .u64 0), (.int .u64 0), (.int .i64 0)])]) (.seq (.reg [ao 5 (.mv 0),
 ao 6 (.build [(.bool false), (.int .u64 0), (.int .u64 0)] [(2, (1, 5))]),
 ao 7 (.mv 1),
 ao 8 (.build [(.bool false), (.int .u64 0), (.int .u64 0), (.int .i64 0)] [(0, (3, 6)), (3, (1, 7))]),
 an (.store 4 4 8)]) (.ret))
theorem qbgl : AC.ok Try.prog (TIof Try.prog) 9 0 (kret [(.cell 4 true 4)] (decT [.b, (.i .u64), (.i .u64), (.i .i64)])) qxg := qo trivial
theorem qbix (v0 v1 : Int) : den 0 (kret [(.cell 4 true 4)] (decT [.b, (.i .u64), (.i .u64), (.i .i64)])) qxg (qj [(0, (.int .u64 v0)), (1, (.int .i64 v1))]) (qg []) (kend (kret [(.cell 4 true 4)] (decT [.b, (.i .u64), (.i .u64), (.i .i64)]))) = qmi v0 v1 := by
  rw [q2k]; kernel_rfl
theorem qbiy : cFn (TIof Try.prog) Try.f87 = some ⟨9, [(.cell 4 true 4)], scOf qxg⟩ := by kernel_rfl
def qbiz (xs : List AV) : Option AV := qmi (gI [(ql xs) 0] 0) (gI [(ql xs) 1] 0)
def qo3 {R : Type} : List AV → (AV → Option R) → Option R := entF qbdq qbiz (qpe (.st [.b, (.i .u64), (.i .u64), (.i .i64)]))
theorem qxh {R : Type} : qd Try.prog 87 (qo3 (R := R)) :=
  qcg tabOk follows Try.func87 (by kernel_rfl) qbiy hdeT qbgl (qbi (by kernel_rfl)) fun xs => qbix _ _
def q37 : Shp := ⟨[], []⟩
def qpz : Option (List AV) :=
  (oB (qmi (167772160 : Int) (8 : Int)) fun r1 => (oB (qmi (167772160 : Int) (24 : Int)) fun r2 => (oB (qmi (167772165 : Int) (32 : Int)) fun r3 => (bif hd ([(.agg [(.bool (gB r1.cells 0)), (.int .u64 (gI r1.cells 1)), (.int .u64 (gI r1.cells 2)), (.int .i64 (gI r1.cells 3)), (.int .i64 (1 : Int)), (.str ([97, 108, 108] : List UInt8)), (.str ([] : List UInt8)), (.int .i64 (0 : Int))]), (.agg [(.bool (gB r2.cells 0)), (.int .u64 (gI r2.cells 1)), (.int .u64 (gI r2.cells 2)), (.int .i64 (gI r2.cells 3)), (.int .i64 (2 : Int)), (.str ([110, 101, 116] : List UInt8)), (.str ([] : List UInt8)), (.int .i64 (0 : Int))]), (.agg [(.bool (gB r3.cells 0)), (.int .u64 (gI r3.cells 1)), (.int .u64 (gI r3.cells 2)), (.int .i64 (gI r3.cells 3)), (.int .i64 (3 : Int)), (.str ([104, 111, 115, 116] : List UInt8)), (.str ([] : List UInt8)), (.int .i64 (0 : Int))])] : List AV) (([(.agg [(.bool (gB r1.cells 0)), (.int .u64 (gI r1.cells 1)), (.int .u64 (gI r1.cells 2)), (.int .i64 (gI r1.cells 3)), (.int .i64 (1 : Int)), (.str ([97, 108, 108] : List UInt8)), (.str ([] : List UInt8)), (.int .i64 (0 : Int))]), (.agg [(.bool (gB r2.cells 0)), (.int .u64 (gI r2.cells 1)), (.int .u64 (gI r2.cells 2)), (.int .i64 (gI r2.cells 3)), (.int .i64 (2 : Int)), (.str ([110, 101, 116] : List UInt8)), (.str ([] : List UInt8)), (.int .i64 (0 : Int))]), (.agg [(.bool (gB r3.cells 0)), (.int .u64 (gI r3.cells 1)), (.int .u64 (gI r3.cells 2)), (.int .i64 (gI r3.cells 3)), (.int .i64 (3 : Int)), (.str ([104, 111, 115, 116] : List UInt8)), (.str ([] : List UInt8)), (.int .i64 (0 : Int))])] : List AV).length) then (some ([(.agg [(.bool (gB r1.cells 0)), (.int .u64 (gI r1.cells 1)), (.int .u64 (gI r1.cells 2)), (.int .i64 (gI r1.cells 3)), (.int .i64 (1 : Int)), (.str ([97, 108, 108] : List UInt8)), (.str ([] : List UInt8)), (.int .i64 (0 : Int))]), (.agg [(.bool (gB r2.cells 0)), (.int .u64 (gI r2.cells 1)), (.int .u64 (gI r2.cells 2)), (.int .i64 (gI r2.cells 3)), (.int .i64 (2 : Int)), (.str ([110, 101, 116] : List UInt8)), (.str ([] : List UInt8)), (.int .i64 (0 : Int))]), (.agg [(.bool (gB r3.cells 0)), (.int .u64 (gI r3.cells 1)), (.int .u64 (gI r3.cells 2)), (.int .i64 (gI r3.cells 3)), (.int .i64 (3 : Int)), (.str ([104, 111, 115, 116] : List UInt8)), (.str ([] : List UInt8)), (.int .i64 (0 : Int))])] : List AV)) else none))))
def qln := hull qpz
theorem quu : qln = qpz := qk _
def qp0 : AC (List AV) :=
  .seq (.reg [ao 0 (.mv (.c .nils))]) (.seq (.reg [.call (po 1 (.call 87 [(.c (.int .u64 167772160)), (.c (.int .i64 8))])) 87 qo3,
 ao 2 (.build [(.bool false), (.int .u64 0), (.int .u64 0), (.int .i64 0), (.int .i64 0), (.str []), (.str []), (.int .i64 0)] [(0, (4, 1)), (4, (1, (.c (.int .i64 1)))), (5, (1, (.c (.str [97, 108, 108]))))]),
 .call (po 3 (.call 87 [(.c (.int .u64 167772160)), (.c (.int .i64 24))])) 87 qo3,
 ao 4 (.build [(.bool false), (.int .u64 0), (.int .u64 0), (.int .i64 0), (.int .i64 0), (.str []), (.str []), (.int .i64 0)] [(0, (4, 3)), (4, (1, (.c (.int .i64 2)))), (5, (1, (.c (.str [110, 101, 116]))))]),
 .call (po 5 (.call 87 [(.c (.int .u64 167772165)), (.c (.int .i64 32))])) 87 qo3,
 ao 6 (.build [(.bool false), (.int .u64 0), (.int .u64 0), (.int .i64 0), (.int .i64 0), (.str []), (.str []), (.int .i64 0)] [(0, (4, 5)), (4, (1, (.c (.int .i64 3)))), (5, (1, (.c (.str [104, 111, 115, 116]))))]),
 ao 7 (.bsl 8 [2, 4, 6]),
 ao 0 (.mv 7)]) (.ret))
theorem q53 : AC.ok Try.prog (TIof Try.prog) 8 0 (kret [.t 0] (decF true 8)) qp0 := qo (zA (qd.ok qxh) (zA (qd.ok qxh) (zA (qd.ok qxh) trivial)))
theorem q64 : den 0 (kret [.t 0] (decF true 8)) qp0 (qj []) (qg []) (kend (kret [.t 0] (decF true 8))) = qln := by
  rw [quu]; kernel_rfl
theorem q65 : cFn (TIof Try.prog) Try.f49 = some ⟨8, [.t 0], scOf qp0⟩ := by kernel_rfl
def q66 (xs : List AV) : Option (List AV) := qln
def qti {R : Type} : List AV → (AV → Option R) → Option R := entF q37 q66 (AV.fr true 8)
theorem q67 {R : Type} : qd Try.prog 49 (qti (R := R)) :=
  qcg tabOk follows Try.func49 (by kernel_rfl) q65 hdeF q53 (qbi (by kernel_rfl)) fun xs => q64
def q68 : Shp := ⟨[(0, .st (lk qa)), (1, .one (.ptr 0 0))], [.box true (lk qi)]⟩
def qx3 {R : Type} (KK : AV → Mem → Option R) := (fun v3 Ai Aj Ak Al => KK (.bool v3) (qg [(some (.box true [(.bool Ai), (.int .u64 Aj), (.int .u64 Ak), (.int .i64 Al)]))]))
def qsa {R : Type}  (Aa : Bool) (Ab Ac Ad Ae : Int) (Af Ag : List UInt8) (Ah : Int) (Ai : Bool) (Aj Ak Al : Int) (kr : Bool → Bool → Int → Int → Int → Option R) : Option R :=
  (kr ((Aa == Ai) && ((Ab == Aj) && ((Ac == Ak) && ((Ad == Al) && true)))) Ai Aj Ak Al)
def qqf {R : Type} := hull (qsa (R := R))
theorem qx4 {R : Type} : qqf (R := R) = qsa := qk _
def qjd {R : Type} (KK : AV → Mem → Option R) : AC R :=
  .seq (.reg [ao 2 (.box 0),
 ao 3 (.mv (.c (.bool false)))]) (.seq (.reg [ao 4 (.fa 0 2),
 ao 5 (.load true 4 4),
 ao 6 (.load true 4 1),
 ao 7 (.eq false true [.b, (.i .u64), (.i .u64), (.i .i64)] 5 6),
 ao 3 (.mv 7)]) (.seq (.view [.sel [3] [0]]) (.ret)))
theorem q9q {R : Type} (KK : AV → Mem → Option R) : AC.ok Try.prog (TIof Try.prog) 8 1 (qm [.t 3] KK) (qjd KK) := qo trivial
theorem qbb0 {R : Type} (KK : AV → Mem → Option R) (Aa : Bool) (Ab Ac Ad Ae : Int) (Af Ag : List UInt8) (Ah : Int) (Ai : Bool) (Aj Ak Al : Int) : den 1 (qm [.t 3] KK) (qjd KK) (qj [(0, .agg (qc Aa Ab Ac Ad Ae Af Ag Ah)), (1, (.ptr 0 0))]) (qg [(some (.box true (qb Ai Aj Ak Al)))]) (kend (qm [.t 3] KK)) = qqf Aa Ab Ac Ad Ae Af Ag Ah Ai Aj Ak Al (qx3 KK) := by
  rw [qx4]; kernel_rfl
theorem qbb1 : cFn (TIof Try.prog) Try.f89 = some ⟨8, [.t 3], scOf (qjd (R := Unit) (fun _ _ => none))⟩ := by kernel_rfl
theorem qbb2 {R : Type} (KK : AV → Mem → Option R) : (qjd KK).er = some (scOf (qjd (R := Unit) (fun _ _ => none))) := by kernel_rfl
def qzm {R : Type} : List AV → Mem → (AV → Mem → Option R) → Option R := refE q68 fun xs m KK => qf (bxC (m.s 0)) (qh ((ql xs) 0).cells (qqf)) (qx3 KK)
theorem qbb3 {R : Type} : qfa Try.prog 89 (qzm (R := R)) :=
  qka (ac := fun KK => qjd KK) tabOk follows Try.func89 (by kernel_rfl) qbb1 (fun KK => q9q KK) (fun KK => qbb2 KK) rfl fun xs m KK => qbb0 KK _ _ _ _ _ _ _ _ _ _ _ _
def qb4 {R : Type}  (K : Ex → Env → Mem → Option R) := (fun z_b0_0 z_b0_1 z_b0_2 z_b0_3 => K (.exit 0) (qj []) (qg [(some (.box true (qb z_b0_0 z_b0_1 z_b0_2 z_b0_3)))]))
def qb6 {R : Type} (KK : AV → Mem → Option R) := (fun v4 Ai Aj Ak Al => KK (.int .i64 v4) (qg [(some (.box true [(.bool Ai), (.int .u64 Aj), (.int .u64 Ak), (.int .i64 Al)]))]))
def qie : Shp := ⟨[(0, .one (.l (.sl 8))), (1, .one (.fn 89 [(0, 0)])), (7, .one (.l (.i .i64))), (8, .one (.l (.i .i64)))], [.box true (lk qi)]⟩
def qc2 (v0 : List AV) (v7 v8 : Int) (Ai : Bool) (Aj Ak Al : Int) : Env := qj [(0, (.sl 8 v0)), (1, (.func 89 [(.ptr 0 0)])), (7, (.int .i64 v7)), (8, (.int .i64 v8))]
def qc3 (v0 : List AV) (v7 v8 : Int) (Ai : Bool) (Aj Ak Al : Int) : Mem := qg [(some (.box true (qb Ai Aj Ak Al)))]
def qbd {R : Type}  (v0 : List AV) (v7 v8 : Int) (Ai : Bool) (Aj Ak Al : Int) (next : Int → Bool → Int → Int → Int → Option R) (kx0 : Bool → Int → Int → Int → Option R) (kr : Int → Bool → Int → Int → Int → Option R) : Option R :=
  (bif (decide (v8 < v7)) then (oB (ixB v0 v8) fun y1 => (bif fitC qa y1.cells then (qqf (gB y1.cells 0) (gI y1.cells 1) (gI y1.cells 2) (gI y1.cells 3) (gI y1.cells 4) (gS y1.cells 5) (gS y1.cells 6) (gI y1.cells 7) Ai Aj Ak Al fun v3q2 b0_0q3 b0_1q4 b0_2q5 b0_3q6 => (bif v3q2 then (kr v8 b0_0q3 b0_1q4 b0_2q5 b0_3q6) else (next (IntKind.i64.wrap (v8 + (1 : Int))) b0_0q3 b0_1q4 b0_2q5 b0_3q6))) else none)) else (kx0 Ai Aj Ak Al))
def qcb {R : Type}  (v0 : List AV) (v7 : Int) (kx0 : Bool → Int → Int → Int → Option R) (kr : Int → Bool → Int → Int → Int → Option R) : Nat → Int → Bool → Int → Int → Int → Option R
  | 0 => (fun _ _ _ _ _ => none)
  | n + 1 => (fun v8 Ai Aj Ak Al => qbd v0 v7 v8 Ai Aj Ak Al (qcb v0 v7 kx0 kr n) kx0 kr)
def qcd {R : Type} := hull (qcb (R := R))
theorem qel {R : Type} : qcd (R := R) = qcb := qk _
def qbe {R : Type} (KK : AV → Mem → Option R) : AC R :=
  .seq (.reg [ao 9 (.bin .lss 8 7)]) (.seq (.cond 9 (.skip) (.seq (.view [.sel [] [0]]) (.exit 0))) (.seq (.block 1 (.seq (.reg [ao 10 (.mv 8),
 ao 5 (.mv 10)]) (.seq (.reg [ao 11 (.mv 1),
 ao 12 (.mv 0),
 ao 13 (.mv 5),
 ao 14 (.ia 8 12 13),
 .st (.etac 14 qa),
 ao 15 (.load true 8 14),
 .st (.sel [0, 1, 5, 7, 8, 11, 15] [0]),
 .callr (po 16 (.callv 11 [15])) 89 qzm]) (.cond 16 (.seq (.reg [ao 17 (.mv 5),
 ao 4 (.mv 17)]) (.seq (.view [.sel [4] [0]]) (.ret))) (.skip))))) (.seq (.reg [ao 18 (.bin .add 8 (.c (.int .i64 1))),
 ao 8 (.mv 18)]) (.view [.sel [0, 1, 7, 8] [0]]))))
theorem qit {R : Type} (KK : AV → Mem → Option R) : AC.ok Try.prog (TIof Try.prog) 19 1 (qm [.t 4] KK) (qbe KK) := qo (zA qbb3 trivial)
theorem qif {R : Type} (KK : AV → Mem → Option R) (v0 : List AV) (v7 v8 : Int) (Ai : Bool) (Aj Ak Al : Int) (K : Ex → Env → Mem → Option R) : den 1 (qm [.t 4] KK) (qbe KK) (qc2 v0 v7 v8 Ai Aj Ak Al) (qc3 v0 v7 v8 Ai Aj Ak Al) K = qbd v0 v7 v8 Ai Aj Ak Al (fun z_v8 z_b0_0 z_b0_1 z_b0_2 z_b0_3 => K .norm (qc2 v0 v7 z_v8 z_b0_0 z_b0_1 z_b0_2 z_b0_3) (qc3 v0 v7 z_v8 z_b0_0 z_b0_1 z_b0_2 z_b0_3)) (qb4 K) (qb6 KK) := by kernel_rfl
theorem qiy {R : Type} (KK : AV → Mem → Option R) (v0 : List AV) (v7 : Int) (K : Ex → Env → Mem → Option R) : ∀ (n : Nat) (v8 : Int) (Ai : Bool) (Aj Ak Al : Int), qg0 (den 1 (qm [.t 4] KK) (qbe KK)) n (qc2 v0 v7 v8 Ai Aj Ak Al) (qc3 v0 v7 v8 Ai Aj Ak Al) K = qcd v0 v7 (qb4 K) (qb6 KK) n v8 Ai Aj Ak Al := by
  rw [qel]
  intro n
  induction n with
  | zero => intros; rfl
  | succ n ih =>
 intro v8 Ai Aj Ak Al
 exact (qif KK v0 v7 v8 Ai Aj Ak Al (itK (den 1 (qm [.t 4] KK) (qbe KK)) n K)).trans (congrArg (fun q => qbd v0 v7 v8 Ai Aj Ak Al q (qb4 K) (qb6 KK)) (funext fun v8 => funext fun Ai => funext fun Aj => funext fun Ak => funext fun Al => ih v8 Ai Aj Ak Al))
def qep {R : Type} (KK : AV → Mem → Option R) := subE (R := R) qie fun t m K => qf (bxC (m.s 0)) (qcd (gL [t 0] 0) (gI [t 7] 0) (qb4 K) (qb6 KK) FU (gI [t 8] 0))
theorem qiz {R : Type} (KK : AV → Mem → Option R) : qdj Try.prog (TIof Try.prog) 19 1 (qm [.t 4] KK) (.loop (scOf (qbe KK))) (qep KK) :=
  qic tabOk follows (qit KK) (qbi (by kernel_rfl)) fun t m K => qiy KK _ _ K FU _ _ _ _ _
def qje : Shp := ⟨[(0, .one (.l (.sl 8))), (1, .one (.fn 89 [(0, 0)]))], [.box true (lk qi)]⟩
def qex {R : Type} (KK : AV → Mem → Option R) := (fun v4 Ai Aj Ak Al => KK (.int .i64 v4) (qg [(some (.box true [(.bool Ai), (.int .u64 Aj), (.int .u64 Ak), (.int .i64 Al)]))]))
def qdc {R : Type}  (v0 : List AV) (Ai : Bool) (Aj Ak Al : Int) (kr : Int → Bool → Int → Int → Int → Option R) : Option R :=
  (qcd v0 (v0.length : Int) (fun b0_0q1 b0_1q2 b0_2q3 b0_3q4 => (kr (-1 : Int) b0_0q1 b0_1q2 b0_2q3 b0_3q4)) kr FU (0 : Int) Ai Aj Ak Al)
def qch {R : Type} := hull (qdc (R := R))
theorem qey {R : Type} : qch (R := R) = qdc := qk _
def qbj {R : Type} (KK : AV → Mem → Option R) : AC R :=
  .seq (.reg [ao 4 (.mv (.c (.int .i64 0)))]) (.seq (.seq (.reg [ao 6 (.mv 0),
 ao 7 (.len false 6),
 ao 8 (.mv (.c (.int .i64 0)))]) (.block 0 (.seq (.view [.sel [0, 1, 7, 8] [0]]) (.sub (.loop (scOf (qbe KK))) (qep KK))))) (.seq (.reg [ao 4 (.mv (.c (.int .i64 (-1))))]) (.seq (.view [.sel [4] [0]]) (.ret))))
theorem qjs {R : Type} (KK : AV → Mem → Option R) : AC.ok Try.prog (TIof Try.prog) 19 1 (qm [.t 4] KK) (qbj KK) := qo (zA (qiz KK) trivial)
theorem qj1 {R : Type} (KK : AV → Mem → Option R) (v0 : List AV) (Ai : Bool) (Aj Ak Al : Int) : den 1 (qm [.t 4] KK) (qbj KK) (qj [(0, (.sl 8 v0)), (1, (.func 89 [(.ptr 0 0)]))]) (qg [(some (.box true (qb Ai Aj Ak Al)))]) (kend (qm [.t 4] KK)) = qch v0 Ai Aj Ak Al (qex KK) := by
  rw [qey]; kernel_rfl
theorem qj2 : cFn (TIof Try.prog) Try.f88 = some ⟨19, [.t 4], scOf (qbj (R := Unit) (fun _ _ => none))⟩ := by kernel_rfl
theorem qj3 {R : Type} (KK : AV → Mem → Option R) : (qbj KK).er = some (scOf (qbj (R := Unit) (fun _ _ => none))) := by kernel_rfl
def qe0 {R : Type} : List AV → Mem → (AV → Mem → Option R) → Option R := refE qje fun xs m KK => qf (bxC (m.s 0)) (qch (gL [(ql xs) 0] 0)) (qex KK)
theorem qj4 {R : Type} : qfa Try.prog 88 (qe0 (R := R)) :=
  qka (ac := fun KK => qbj KK) tabOk follows Try.func88 (by kernel_rfl) qj2 (fun KK => qjs KK) (fun KK => qj3 KK) rfl fun xs m KK => qj1 KK _ _ _ _ _
def qbb4 : Shp := ⟨[(0, .one (.l (.sl 8))), (1, .st (lk qi))], []⟩
def qvg (v0 : List AV) (Aq : Bool) (Ar As At : Int) : Option Int :=
  (qch v0 Aq Ar As At fun v4q1 b0_0q2 b0_1q3 b0_2q4 b0_3q5 => (some v4q1))
def qff := hull qvg
theorem q04 : qff = qvg := qk _
def qvh : AC Int :=
  .seq (.reg [ao 3 (.box 1),
 ao 4 (.mv (.c (.int .i64 0)))]) (.seq (.reg [ao 5 (.mv 0),
 ao 6 (.mkf 89 [3]),
 .st (.sel [5, 6] [0]),
 .callr (po 7 (.call 88 [5, 6])) 88 qe0,
 ao 4 (.mv 7)]) (.ret))
theorem qbdr : AC.ok Try.prog (TIof Try.prog) 8 0 (kret [.t 4] (decI .i64)) qvh := qo (zA qj4 trivial)
theorem qbgm (v0 : List AV) (Aq : Bool) (Ar As At : Int) : den 0 (kret [.t 4] (decI .i64)) qvh (qj [(0, (.sl 8 v0)), (1, .agg (qb Aq Ar As At))]) (qg []) (kend (kret [.t 4] (decI .i64))) = qff v0 Aq Ar As At := by
  rw [q04]; kernel_rfl
theorem qbgn : cFn (TIof Try.prog) Try.f51 = some ⟨8, [.t 4], scOf qvh⟩ := by kernel_rfl
def qbgo (xs : List AV) : Option Int := qf ((ql xs) 1).cells (qff (gL [(ql xs) 0] 0))
def qfg {R : Type} : List AV → (AV → Option R) → Option R := entF qbb4 qbgo (AV.int .i64)
theorem qjf {R : Type} : qd Try.prog 51 (qfg (R := R)) :=
  qcg tabOk follows Try.func51 (by kernel_rfl) qbgn hdeI qbdr (qbi (by kernel_rfl)) fun xs => qbgm _ _ _ _ _
def q2l : Shp := ⟨[(0, .st (lk qa)), (1, .one (.ptr 0 0))], [.box true (lk qi)]⟩
def qtj {R : Type} (KK : AV → Mem → Option R) := (fun v3 Ai Aj Ak Al => KK (.bool v3) (qg [(some (.box true [(.bool Ai), (.int .u64 Aj), (.int .u64 Ak), (.int .i64 Al)]))]))
def qou {R : Type}  (Aa : Bool) (Ab Ac Ad Ae : Int) (Af Ag : List UInt8) (Ah : Int) (Ai : Bool) (Aj Ak Al : Int) (kr : Bool → Bool → Int → Int → Int → Option R) : Option R :=
  (oB (qf8 Aa Ab Ac Ad Ai Aj Ak Al) fun r1 => (kr r1 Ai Aj Ak Al))
def qkw {R : Type} := hull (qou (R := R))
theorem qtk {R : Type} : qkw (R := R) = qou := qk _
def qf3 {R : Type} (KK : AV → Mem → Option R) : AC R :=
  .seq (.reg [ao 2 (.box 0),
 ao 3 (.mv (.c (.bool false)))]) (.seq (.reg [ao 4 (.fa 0 2),
 ao 5 (.load true 4 4),
 ao 6 (.load true 4 1),
 .call (po 7 (.call 64 [5, 6])) 64 qfx,
 ao 3 (.mv 7)]) (.seq (.view [.sel [3] [0]]) (.ret)))
theorem q38 {R : Type} (KK : AV → Mem → Option R) : AC.ok Try.prog (TIof Try.prog) 8 1 (qm [.t 3] KK) (qf3 KK) := qo (zA (qd.ok qkl) trivial)
theorem q54 {R : Type} (KK : AV → Mem → Option R) (Aa : Bool) (Ab Ac Ad Ae : Int) (Af Ag : List UInt8) (Ah : Int) (Ai : Bool) (Aj Ak Al : Int) : den 1 (qm [.t 3] KK) (qf3 KK) (qj [(0, .agg (qc Aa Ab Ac Ad Ae Af Ag Ah)), (1, (.ptr 0 0))]) (qg [(some (.box true (qb Ai Aj Ak Al)))]) (kend (qm [.t 3] KK)) = qkw Aa Ab Ac Ad Ae Af Ag Ah Ai Aj Ak Al (qtj KK) := by
  rw [qtk]; kernel_rfl
theorem q55 : cFn (TIof Try.prog) Try.f90 = some ⟨8, [.t 3], scOf (qf3 (R := Unit) (fun _ _ => none))⟩ := by kernel_rfl
theorem q56 {R : Type} (KK : AV → Mem → Option R) : (qf3 KK).er = some (scOf (qf3 (R := Unit) (fun _ _ => none))) := by kernel_rfl
def quv {R : Type} : List AV → Mem → (AV → Mem → Option R) → Option R := refE q2l fun xs m KK => qf (bxC (m.s 0)) (qh ((ql xs) 0).cells (qkw)) (qtj KK)
theorem q57 {R : Type} : qfa Try.prog 90 (quv (R := R)) :=
  qka (ac := fun KK => qf3 KK) tabOk follows Try.func90 (by kernel_rfl) q55 (fun KK => q38 KK) (fun KK => q56 KK) rfl fun xs m KK => q54 KK _ _ _ _ _ _ _ _ _ _ _ _
def qbs {R : Type}  (K : Ex → Env → Mem → Option R) := (fun z_b0_0 z_b0_1 z_b0_2 z_b0_3 => K (.exit 0) (qj []) (qg [(some (.box true (qb z_b0_0 z_b0_1 z_b0_2 z_b0_3)))]))
def qbw {R : Type} (KK : AV → Mem → Option R) := (fun v4 Ai Aj Ak Al => KK (.int .i64 v4) (qg [(some (.box true [(.bool Ai), (.int .u64 Aj), (.int .u64 Ak), (.int .i64 Al)]))]))
def qg4 : Shp := ⟨[(0, .one (.l (.sl 8))), (1, .one (.fn 90 [(0, 0)])), (7, .one (.l (.i .i64))), (8, .one (.l (.i .i64)))], [.box true (lk qi)]⟩
def qct (v0 : List AV) (v7 v8 : Int) (Ai : Bool) (Aj Ak Al : Int) : Env := qj [(0, (.sl 8 v0)), (1, (.func 90 [(.ptr 0 0)])), (7, (.int .i64 v7)), (8, (.int .i64 v8))]
def qcu (v0 : List AV) (v7 v8 : Int) (Ai : Bool) (Aj Ak Al : Int) : Mem := qg [(some (.box true (qb Ai Aj Ak Al)))]
def qx {R : Type}  (v0 : List AV) (v7 v8 : Int) (Ai : Bool) (Aj Ak Al : Int) (next : Int → Bool → Int → Int → Int → Option R) (kx0 : Bool → Int → Int → Int → Option R) (kr : Int → Bool → Int → Int → Int → Option R) : Option R :=
  (bif (decide (v8 < v7)) then (oB (ixB v0 v8) fun y1 => (bif fitC qa y1.cells then (qkw (gB y1.cells 0) (gI y1.cells 1) (gI y1.cells 2) (gI y1.cells 3) (gI y1.cells 4) (gS y1.cells 5) (gS y1.cells 6) (gI y1.cells 7) Ai Aj Ak Al fun v3q2 b0_0q3 b0_1q4 b0_2q5 b0_3q6 => (bif v3q2 then (kr v8 b0_0q3 b0_1q4 b0_2q5 b0_3q6) else (next (IntKind.i64.wrap (v8 + (1 : Int))) b0_0q3 b0_1q4 b0_2q5 b0_3q6))) else none)) else (kx0 Ai Aj Ak Al))
def qbx {R : Type}  (v0 : List AV) (v7 : Int) (kx0 : Bool → Int → Int → Int → Option R) (kr : Int → Bool → Int → Int → Int → Option R) : Nat → Int → Bool → Int → Int → Int → Option R
  | 0 => (fun _ _ _ _ _ => none)
  | n + 1 => (fun v8 Ai Aj Ak Al => qx v0 v7 v8 Ai Aj Ak Al (qbx v0 v7 kx0 kr n) kx0 kr)
def qb7 {R : Type} := hull (qbx (R := R))
theorem qdx {R : Type} : qb7 (R := R) = qbx := qk _
def qy {R : Type} (KK : AV → Mem → Option R) : AC R :=
  .seq (.reg [ao 9 (.bin .lss 8 7)]) (.seq (.cond 9 (.skip) (.seq (.view [.sel [] [0]]) (.exit 0))) (.seq (.block 1 (.seq (.reg [ao 10 (.mv 8),
 ao 5 (.mv 10)]) (.seq (.reg [ao 11 (.mv 1),
 ao 12 (.mv 0),
 ao 13 (.mv 5),
 ao 14 (.ia 8 12 13),
 .st (.etac 14 qa),
 ao 15 (.load true 8 14),
 .st (.sel [0, 1, 5, 7, 8, 11, 15] [0]),
 .callr (po 16 (.callv 11 [15])) 90 quv]) (.cond 16 (.seq (.reg [ao 17 (.mv 5),
 ao 4 (.mv 17)]) (.seq (.view [.sel [4] [0]]) (.ret))) (.skip))))) (.seq (.reg [ao 18 (.bin .add 8 (.c (.int .i64 1))),
 ao 8 (.mv 18)]) (.view [.sel [0, 1, 7, 8] [0]]))))
theorem qhj {R : Type} (KK : AV → Mem → Option R) : AC.ok Try.prog (TIof Try.prog) 19 1 (qm [.t 4] KK) (qy KK) := qo (zA q57 trivial)
theorem qg5 {R : Type} (KK : AV → Mem → Option R) (v0 : List AV) (v7 v8 : Int) (Ai : Bool) (Aj Ak Al : Int) (K : Ex → Env → Mem → Option R) : den 1 (qm [.t 4] KK) (qy KK) (qct v0 v7 v8 Ai Aj Ak Al) (qcu v0 v7 v8 Ai Aj Ak Al) K = qx v0 v7 v8 Ai Aj Ak Al (fun z_v8 z_b0_0 z_b0_1 z_b0_2 z_b0_3 => K .norm (qct v0 v7 z_v8 z_b0_0 z_b0_1 z_b0_2 z_b0_3) (qcu v0 v7 z_v8 z_b0_0 z_b0_1 z_b0_2 z_b0_3)) (qbs K) (qbw KK) := by kernel_rfl
theorem qhn {R : Type} (KK : AV → Mem → Option R) (v0 : List AV) (v7 : Int) (K : Ex → Env → Mem → Option R) : ∀ (n : Nat) (v8 : Int) (Ai : Bool) (Aj Ak Al : Int), qg0 (den 1 (qm [.t 4] KK) (qy KK)) n (qct v0 v7 v8 Ai Aj Ak Al) (qcu v0 v7 v8 Ai Aj Ak Al) K = qb7 v0 v7 (qbs K) (qbw KK) n v8 Ai Aj Ak Al := by
  rw [qdx]
  intro n
  induction n with
  | zero => intros; rfl
  | succ n ih =>
 intro v8 Ai Aj Ak Al
 exact (qg5 KK v0 v7 v8 Ai Aj Ak Al (itK (den 1 (qm [.t 4] KK) (qy KK)) n K)).trans (congrArg (fun q => qx v0 v7 v8 Ai Aj Ak Al q (qbs K) (qbw KK)) (funext fun v8 => funext fun Ai => funext fun Aj => funext fun Ak => funext fun Al => ih v8 Ai Aj Ak Al))
def qd1 {R : Type} (KK : AV → Mem → Option R) := subE (R := R) qg4 fun t m K => qf (bxC (m.s 0)) (qb7 (gL [t 0] 0) (gI [t 7] 0) (qbs K) (qbw KK) FU (gI [t 8] 0))
theorem qho {R : Type} (KK : AV → Mem → Option R) : qdj Try.prog (TIof Try.prog) 19 1 (qm [.t 4] KK) (.loop (scOf (qy KK))) (qd1 KK) :=
  qic tabOk follows (qhj KK) (qbi (by kernel_rfl)) fun t m K => qhn KK _ _ K FU _ _ _ _ _
def qig : Shp := ⟨[(0, .one (.l (.sl 8))), (1, .one (.fn 90 [(0, 0)]))], [.box true (lk qi)]⟩
def qem {R : Type} (KK : AV → Mem → Option R) := (fun v4 Ai Aj Ak Al => KK (.int .i64 v4) (qg [(some (.box true [(.bool Ai), (.int .u64 Aj), (.int .u64 Ak), (.int .i64 Al)]))]))
def qc7 {R : Type}  (v0 : List AV) (Ai : Bool) (Aj Ak Al : Int) (kr : Int → Bool → Int → Int → Int → Option R) : Option R :=
  (qb7 v0 (v0.length : Int) (fun b0_0q1 b0_1q2 b0_2q3 b0_3q4 => (kr (-1 : Int) b0_0q1 b0_1q2 b0_2q3 b0_3q4)) kr FU (0 : Int) Ai Aj Ak Al)
def qbm {R : Type} := hull (qc7 (R := R))
theorem qen {R : Type} : qbm (R := R) = qc7 := qk _
def qbf {R : Type} (KK : AV → Mem → Option R) : AC R :=
  .seq (.reg [ao 4 (.mv (.c (.int .i64 0)))]) (.seq (.seq (.reg [ao 6 (.mv 0),
 ao 7 (.len false 6),
 ao 8 (.mv (.c (.int .i64 0)))]) (.block 0 (.seq (.view [.sel [0, 1, 7, 8] [0]]) (.sub (.loop (scOf (qy KK))) (qd1 KK))))) (.seq (.reg [ao 4 (.mv (.c (.int .i64 (-1))))]) (.seq (.view [.sel [4] [0]]) (.ret))))
theorem qiu {R : Type} (KK : AV → Mem → Option R) : AC.ok Try.prog (TIof Try.prog) 19 1 (qm [.t 4] KK) (qbf KK) := qo (zA (qho KK) trivial)
theorem qi0 {R : Type} (KK : AV → Mem → Option R) (v0 : List AV) (Ai : Bool) (Aj Ak Al : Int) : den 1 (qm [.t 4] KK) (qbf KK) (qj [(0, (.sl 8 v0)), (1, (.func 90 [(.ptr 0 0)]))]) (qg [(some (.box true (qb Ai Aj Ak Al)))]) (kend (qm [.t 4] KK)) = qbm v0 Ai Aj Ak Al (qem KK) := by
  rw [qen]; kernel_rfl
theorem qi1 : cFn (TIof Try.prog) Try.f88 = some ⟨19, [.t 4], scOf (qbf (R := Unit) (fun _ _ => none))⟩ := by kernel_rfl
theorem qi2 {R : Type} (KK : AV → Mem → Option R) : (qbf KK).er = some (scOf (qbf (R := Unit) (fun _ _ => none))) := by kernel_rfl
def qeq {R : Type} : List AV → Mem → (AV → Mem → Option R) → Option R := refE qig fun xs m KK => qf (bxC (m.s 0)) (qbm (gL [(ql xs) 0] 0)) (qem KK)
theorem qi3 {R : Type} : qfa Try.prog 88 (qeq (R := R)) :=
  qka (ac := fun KK => qbf KK) tabOk follows Try.func88 (by kernel_rfl) qi1 (fun KK => qiu KK) (fun KK => qi2 KK) rfl fun xs m KK => qi0 KK _ _ _ _ _
def qg6 : Shp := ⟨[(0, .one (.l (.sl 8))), (1, .one (.fn 90 [(0, 0)]))], [.box true (lk qi)]⟩
def qdy {R : Type} (KK : AV → Mem → Option R) := (fun v4 Ai Aj Ak Al => KK (.bool v4) (qg [(some (.box true [(.bool Ai), (.int .u64 Aj), (.int .u64 Ak), (.int .i64 Al)]))]))
def qcv {R : Type}  (v0 : List AV) (Ai : Bool) (Aj Ak Al : Int) (kr : Bool → Bool → Int → Int → Int → Option R) : Option R :=
  (qbm v0 Ai Aj Ak Al fun v4q1 b0_0q2 b0_1q3 b0_2q4 b0_3q5 => (kr (decide (v4q1 ≥ (0 : Int))) b0_0q2 b0_1q3 b0_2q4 b0_3q5))
def qb8 {R : Type} := hull (qcv (R := R))
theorem qdz {R : Type} : qb8 (R := R) = qcv := qk _
def qz {R : Type} (KK : AV → Mem → Option R) : AC R :=
  .seq (.reg [ao 4 (.mv (.c (.bool false)))]) (.seq (.reg [ao 5 (.mv 0),
 ao 6 (.mv 1),
 .st (.sel [5, 6] [0]),
 .callr (po 7 (.call 88 [5, 6])) 88 qeq,
 ao 8 (.bin .geq 7 (.c (.int .i64 0))),
 ao 4 (.mv 8)]) (.seq (.view [.sel [4] [0]]) (.ret)))
theorem qhk {R : Type} (KK : AV → Mem → Option R) : AC.ok Try.prog (TIof Try.prog) 9 1 (qm [.t 4] KK) (qz KK) := qo (zA qi3 trivial)
theorem qhp {R : Type} (KK : AV → Mem → Option R) (v0 : List AV) (Ai : Bool) (Aj Ak Al : Int) : den 1 (qm [.t 4] KK) (qz KK) (qj [(0, (.sl 8 v0)), (1, (.func 90 [(.ptr 0 0)]))]) (qg [(some (.box true (qb Ai Aj Ak Al)))]) (kend (qm [.t 4] KK)) = qb8 v0 Ai Aj Ak Al (qdy KK) := by
  rw [qdz]; kernel_rfl
theorem qhq : cFn (TIof Try.prog) Try.f68 = some ⟨9, [.t 4], scOf (qz (R := Unit) (fun _ _ => none))⟩ := by kernel_rfl
theorem qhr {R : Type} (KK : AV → Mem → Option R) : (qz KK).er = some (scOf (qz (R := Unit) (fun _ _ => none))) := by kernel_rfl
def qd2 {R : Type} : List AV → Mem → (AV → Mem → Option R) → Option R := refE qg6 fun xs m KK => qf (bxC (m.s 0)) (qb8 (gL [(ql xs) 0] 0)) (qdy KK)
theorem qhs {R : Type} : qfa Try.prog 68 (qd2 (R := R)) :=
  qka (ac := fun KK => qz KK) tabOk follows Try.func68 (by kernel_rfl) qhq (fun KK => qhk KK) (fun KK => qhr KK) rfl fun xs m KK => qhp KK _ _ _ _ _
def q58 : Shp := ⟨[(0, .one (.l (.sl 8))), (1, .st (lk qi))], []⟩
def qqu (v0 : List AV) (Aq : Bool) (Ar As At : Int) : Option Bool :=
  (qb8 v0 Aq Ar As At fun v4q1 b0_0q2 b0_1q3 b0_2q4 b0_3q5 => (some v4q1))
def qht := hull qqu
theorem qwj : qht = qqu := qk _
def qqv : AC Bool :=
  .seq (.reg [ao 3 (.box 1),
 ao 4 (.mv (.c (.bool false)))]) (.seq (.reg [ao 5 (.mv 0),
 ao 6 (.mkf 90 [3]),
 .st (.sel [5, 6] [0]),
 .callr (po 7 (.call 68 [5, 6])) 68 qd2,
 ao 4 (.mv 7)]) (.ret))
theorem q69 : AC.ok Try.prog (TIof Try.prog) 8 0 (kret [.t 4] decB) qqv := qo (zA qhs trivial)
theorem q9r (v0 : List AV) (Aq : Bool) (Ar As At : Int) : den 0 (kret [.t 4] decB) qqv (qj [(0, (.sl 8 v0)), (1, .agg (qb Aq Ar As At))]) (qg []) (kend (kret [.t 4] decB)) = qht v0 Aq Ar As At := by
  rw [qwj]; kernel_rfl
theorem q9s : cFn (TIof Try.prog) Try.f52 = some ⟨8, [.t 4], scOf qqv⟩ := by kernel_rfl
def q9t (xs : List AV) : Option Bool := qf ((ql xs) 1).cells (qht (gL [(ql xs) 0] 0))
def qlt {R : Type} : List AV → (AV → Option R) → Option R := entF q58 q9t AV.bool
theorem qqw {R : Type} : qd Try.prog 52 (qlt (R := R)) :=
  qcg tabOk follows Try.func52 (by kernel_rfl) q9s hdeB q69 (qbi (by kernel_rfl)) fun xs => q9r _ _ _ _ _
def qbu (l : List AV) : Option (List AV) := q8q 80 l
def qe4 {R : Type} (xs : List AV) (K : AV → Option R) : Option R := q49 8 80 xs K
theorem qj5 {R : Type} : qd Try.prog 93 (qe4 (R := R)) := qbrm (ρ := qbcx 93 4 22 34) tabOk (qbo0 follows "slices.Clone[[]ddi/api.Block,ddi/api.Block]" (by kernel_rfl) (by kernel_rfl) (by kernel_rfl) (by kernel_rfl) (by kernel_rfl) (by kernel_rfl) (by kernel_rfl) (by kernel_rfl)) (by kernel_rfl) (by decide) (by decide)
def q7a {R : Type} (vs : List AV) (m : Mem) (K : AV → Mem → Option R) : Option R := q1l 8 vs m K
theorem qbj5 {R : Type} : qfa Try.prog 95 (q7a (R := R)) := qbo1 (ρ := q8r 95 0 3 4 22 34) tabOk (qbnt follows "slices.Delete[[]ddi/api.Block,ddi/api.Block]" (by kernel_rfl) (by kernel_rfl) (by kernel_rfl) (by kernel_rfl) (by kernel_rfl) (by kernel_rfl) (by kernel_rfl) (by kernel_rfl) (by kernel_rfl) (by kernel_rfl) (by kernel_rfl) (by kernel_rfl) (by kernel_rfl) (by kernel_rfl)) (by kernel_rfl) (by decide)
def q7b : Shp := ⟨[(0, .one (.l (.sl 8))), (1, .one (.l (.i .i64)))], []⟩
def qsb (v0 : List AV) (v1 : Int) : Option (List AV) :=
  (oB (qbu v0) fun r1 => (bif hd r1 r1.length then (oB (q3r r1 v1 (IntKind.i64.wrap (v1 + (1 : Int)))) fun r2 => (bif hd r2 r2.length then (some r2) else none)) else none))
def qfq := hull qsb
theorem qx5 : qfq = qsb := qk _
def qsc : AC (List AV) :=
  .seq (.reg [ao 4 (.mv (.c .nils))]) (.seq (.reg [ao 5 (.mv 0),
 .call (po 6 (.call 93 [5])) 93 qe4,
 ao 7 (.mv 1),
 ao 8 (.mv 1),
 ao 9 (.bin .add 8 (.c (.int .i64 1))),
 .callr (po 10 (.call 95 [6, 7, 9])) 95 q7a,
 ao 4 (.mv 10)]) (.ret))
theorem q9u : AC.ok Try.prog (TIof Try.prog) 11 0 (kret [.t 4] (decF true 8)) qsc := qo (zA (qd.ok qj5) (zA qbj5 trivial))
theorem qbb5 (v0 : List AV) (v1 : Int) : den 0 (kret [.t 4] (decF true 8)) qsc (qj [(0, (.sl 8 v0)), (1, (.int .i64 v1))]) (qg []) (kend (kret [.t 4] (decF true 8))) = qfq v0 v1 := by
  rw [qx5]; kernel_rfl
theorem qbb6 : cFn (TIof Try.prog) Try.f56 = some ⟨11, [.t 4], scOf qsc⟩ := by kernel_rfl
def qbb7 (xs : List AV) : Option (List AV) := qfq (gL [(ql xs) 0] 0) (gI [(ql xs) 1] 0)
def qj6 {R : Type} : List AV → (AV → Option R) → Option R := entF q7b qbb7 (AV.fr true 8)
theorem qno {R : Type} : qd Try.prog 56 (qj6 (R := R)) :=
  qcg tabOk follows Try.func56 (by kernel_rfl) qbb6 hdeF q9u (qbi (by kernel_rfl)) fun xs => qbb5 _ _
def qqx (z : AV) : Option ((List AV) × Int) := cond (qnd [(.one (.sl 8)), (.one (.i .i64))] z) (some (aL (gC (tpL z) 0), aI (gC (tpL z) 1))) none
def q9v (r : (List AV) × Int) : AV := .tup [.sl 8 r.1, .int .i64 r.2]
def q9w : Shp := ⟨[(0, .one (.l (.sl 8))), (1, .st (lk qi))], []⟩
def qtl (v0 : List AV) (Aq : Bool) (Ar As At : Int) : Option ((List AV) × Int) :=
  (oB (qff v0 Aq Ar As At) fun r1 => (bif (decide (r1 < (0 : Int))) then (some (([] : List AV), (11 : Int))) else (oB (qht v0 Aq Ar As At) fun r2 => (bif r2 then (some (([] : List AV), (25 : Int))) else (oB (qfq v0 r1) fun r3 => (some (r3, (0 : Int))))))))
def qkm := hull qtl
theorem qzn : qkm = qtl := qk _
def qtm : AC ((List AV) × Int) :=
  .seq (.reg [ao 3 (.box 1),
 ao 4 (.mv (.c .nils)),
 ao 5 (.mv (.c (.int .i64 0)))]) (.seq (.reg [ao 7 (.mv 0),
 ao 8 (.load true 4 3),
 .call (po 9 (.call 51 [7, 8])) 51 qfg,
 ao 6 (.mv 9)]) (.seq (.seq (.reg [ao 10 (.mv 6),
 ao 11 (.bin .lss 10 (.c (.int .i64 0)))]) (.cond 11 (.seq (.reg [ao 4 (.mv (.c .nils)),
 ao 5 (.mv (.c (.int .i64 11)))]) (.seq (.view [.eta 4 (.one (.sl 8))]) (.ret))) (.skip))) (.seq (.seq (.reg [ao 12 (.mv 0),
 ao 13 (.load true 4 3),
 .call (po 14 (.call 52 [12, 13])) 52 qlt]) (.cond 14 (.seq (.reg [ao 4 (.mv (.c .nils)),
 ao 5 (.mv (.c (.int .i64 25)))]) (.seq (.view [.eta 4 (.one (.sl 8))]) (.ret))) (.skip))) (.seq (.reg [ao 15 (.mv 0),
 ao 16 (.mv 6),
 .callc (po 17 (.call 56 [15, 16])) 56 qj6,
 ao 4 (.mv 17),
 ao 5 (.mv (.c (.int .i64 0)))]) (.ret)))))
theorem qbb8 : AC.ok Try.prog (TIof Try.prog) 18 0 (kret [.t 4, .t 5] qqx) qtm := qo (zA (qd.ok qjf) (zA (qd.ok qqw) (zA (qd.ok qno) trivial)))
theorem qbds (v0 : List AV) (Aq : Bool) (Ar As At : Int) : den 0 (kret [.t 4, .t 5] qqx) qtm (qj [(0, (.sl 8 v0)), (1, .agg (qb Aq Ar As At))]) (qg []) (kend (kret [.t 4, .t 5] qqx)) = qkm v0 Aq Ar As At := by
  rw [qzn]; kernel_rfl
theorem qbdt : cFn (TIof Try.prog) Try.f17 = some ⟨18, [.t 4, .t 5], scOf qtm⟩ := by kernel_rfl
def qbdu (xs : List AV) : Option ((List AV) × Int) := qf ((ql xs) 1).cells (qkm (gL [(ql xs) 0] 0))
def qqy {R : Type} : List AV → (AV → Option R) → Option R := entF q9w qbdu q9v
theorem q05 {R : Type} : qd Try.prog 17 (qqy (R := R)) :=
  qcg tabOk follows Try.func17 (by kernel_rfl) qbdt (fun z r h => by
 obtain ⟨h1, h2⟩ := qn h
 cases h2
 exact (qj9 h1).symm) qbb8 (qbi (by kernel_rfl)) fun xs => qbds _ _ _ _ _
def qbdv : Shp := ⟨[(0, .one (.l (.i .u64))), (1, .one (.l (.i .i64)))], []⟩
def q5m (v0 v1 : Int) : Option AV :=
  (some (.agg [(.bool false), (.int .u64 (0 : Int)), (.int .u64 v0), (.int .i64 v1)]))
def qf9 := hull q5m
theorem q2m : qf9 = q5m := qk _
def qxi : AC AV :=
  .seq (.reg [ao 4 (.alloc [(.bool false), (.int .u64 0), (.int .u64 0), (.int .i64 0)])]) (.seq (.reg [ao 5 (.mv 0),
 ao 6 (.build [(.bool false), (.int .u64 0), (.int .u64 0)] [(2, (1, 5))]),
 ao 7 (.mv 1),
 ao 8 (.build [(.bool false), (.int .u64 0), (.int .u64 0), (.int .i64 0)] [(0, (3, 6)), (3, (1, 7))]),
 an (.store 4 4 8)]) (.ret))
theorem qbgp : AC.ok Try.prog (TIof Try.prog) 9 0 (kret [(.cell 4 true 4)] (decT [.b, (.i .u64), (.i .u64), (.i .i64)])) qxi := qo trivial
theorem qbi0 (v0 v1 : Int) : den 0 (kret [(.cell 4 true 4)] (decT [.b, (.i .u64), (.i .u64), (.i .i64)])) qxi (qj [(0, (.int .u64 v0)), (1, (.int .i64 v1))]) (qg []) (kend (kret [(.cell 4 true 4)] (decT [.b, (.i .u64), (.i .u64), (.i .i64)]))) = qf9 v0 v1 := by
  rw [q2m]; kernel_rfl
theorem qbi1 : cFn (TIof Try.prog) Try.f50 = some ⟨9, [(.cell 4 true 4)], scOf qxi⟩ := by kernel_rfl
def qbi2 (xs : List AV) : Option AV := qf9 (gI [(ql xs) 0] 0) (gI [(ql xs) 1] 0)
def qfy {R : Type} : List AV → (AV → Option R) → Option R := entF qbdv qbi2 (qpe (.st [.b, (.i .u64), (.i .u64), (.i .i64)]))
theorem qkn {R : Type} : qd Try.prog 50 (qfy (R := R)) :=
  qcg tabOk follows Try.func50 (by kernel_rfl) qbi1 hdeT qbgp (qbi (by kernel_rfl)) fun xs => qbi0 _ _
def q59 : Shp := ⟨[(0, .st (lk qa)), (1, .one (.ptr 0 0))], [.box true (lk qa)]⟩
def qwk {R : Type} (KK : AV → Mem → Option R) := (fun v3 Ai Aj Ak Al Am An Ao Ap => KK (.bool v3) (qg [(some (.box true [(.bool Ai), (.int .u64 Aj), (.int .u64 Ak), (.int .i64 Al), (.int .i64 Am), (.str An), (.str Ao), (.int .i64 Ap)]))]))
def qqz {R : Type}  (Aa : Bool) (Ab Ac Ad Ae : Int) (Af Ag : List UInt8) (Ah : Int) (Ai : Bool) (Aj Ak Al Am : Int) (An Ao : List UInt8) (Ap : Int) (kr : Bool → Bool → Int → Int → Int → Int → (List UInt8) → (List UInt8) → Int → Option R) : Option R :=
  (oB (qlg Aa Ab Ac Ad Ai Aj Ak Al) fun r1 => (kr (decide (r1 > (0 : Int))) Ai Aj Ak Al Am An Ao Ap))
def ql7 {R : Type} := hull (qqz (R := R))
theorem qwl {R : Type} : ql7 (R := R) = qqz := qk _
def qh4 {R : Type} (KK : AV → Mem → Option R) : AC R :=
  .seq (.reg [ao 2 (.box 0),
 ao 3 (.mv (.c (.bool false)))]) (.seq (.reg [ao 4 (.fa 0 2),
 ao 5 (.load true 4 4),
 ao 6 (.fa 0 1),
 ao 7 (.load true 4 6),
 .call (po 8 (.call 40 [5, 7])) 40 qpv,
 ao 9 (.bin .gtr 8 (.c (.int .i64 0))),
 ao 3 (.mv 9)]) (.seq (.view [.sel [3] [0]]) (.ret)))
theorem q7c {R : Type} (KK : AV → Mem → Option R) : AC.ok Try.prog (TIof Try.prog) 10 1 (qm [.t 3] KK) (qh4 KK) := qo (zA (qd.ok qzj) trivial)
theorem q9x {R : Type} (KK : AV → Mem → Option R) (Aa : Bool) (Ab Ac Ad Ae : Int) (Af Ag : List UInt8) (Ah : Int) (Ai : Bool) (Aj Ak Al Am : Int) (An Ao : List UInt8) (Ap : Int) : den 1 (qm [.t 3] KK) (qh4 KK) (qj [(0, .agg (qc Aa Ab Ac Ad Ae Af Ag Ah)), (1, (.ptr 0 0))]) (qg [(some (.box true (qc Ai Aj Ak Al Am An Ao Ap)))]) (kend (qm [.t 3] KK)) = ql7 Aa Ab Ac Ad Ae Af Ag Ah Ai Aj Ak Al Am An Ao Ap (qwk KK) := by
  rw [qwl]; kernel_rfl
theorem q9y : cFn (TIof Try.prog) Try.f91 = some ⟨10, [.t 3], scOf (qh4 (R := Unit) (fun _ _ => none))⟩ := by kernel_rfl
theorem q9z {R : Type} (KK : AV → Mem → Option R) : (qh4 KK).er = some (scOf (qh4 (R := Unit) (fun _ _ => none))) := by kernel_rfl
def qx6 {R : Type} : List AV → Mem → (AV → Mem → Option R) → Option R := refE q59 fun xs m KK => qh (bxC (m.s 0)) (qh ((ql xs) 0).cells (ql7)) (qwk KK)
theorem q90 {R : Type} : qfa Try.prog 91 (qx6 (R := R)) :=
  qka (ac := fun KK => qh4 KK) tabOk follows Try.func91 (by kernel_rfl) q9y (fun KK => q7c KK) (fun KK => q9z KK) rfl fun xs m KK => q9x KK _ _ _ _ _ _ _ _ _ _ _ _ _ _ _ _
def qby {R : Type}  (K : Ex → Env → Mem → Option R) := (fun z_b0_0 z_b0_1 z_b0_2 z_b0_3 z_b0_4 z_b0_5 z_b0_6 z_b0_7 => K (.exit 0) (qj []) (qg [(some (.box true (qc z_b0_0 z_b0_1 z_b0_2 z_b0_3 z_b0_4 z_b0_5 z_b0_6 z_b0_7)))]))
def qb5 {R : Type} (KK : AV → Mem → Option R) := (fun v4 Ai Aj Ak Al Am An Ao Ap => KK (.int .i64 v4) (qg [(some (.box true [(.bool Ai), (.int .u64 Aj), (.int .u64 Ak), (.int .i64 Al), (.int .i64 Am), (.str An), (.str Ao), (.int .i64 Ap)]))]))
def qhu : Shp := ⟨[(0, .one (.l (.sl 8))), (1, .one (.fn 91 [(0, 0)])), (7, .one (.l (.i .i64))), (8, .one (.l (.i .i64)))], [.box true (lk qa)]⟩
def qcy (v0 : List AV) (v7 v8 : Int) (Ai : Bool) (Aj Ak Al Am : Int) (An Ao : List UInt8) (Ap : Int) : Env := qj [(0, (.sl 8 v0)), (1, (.func 91 [(.ptr 0 0)])), (7, (.int .i64 v7)), (8, (.int .i64 v8))]
def qcz (v0 : List AV) (v7 v8 : Int) (Ai : Bool) (Aj Ak Al Am : Int) (An Ao : List UInt8) (Ap : Int) : Mem := qg [(some (.box true (qc Ai Aj Ak Al Am An Ao Ap)))]
def qbb {R : Type}  (v0 : List AV) (v7 v8 : Int) (Ai : Bool) (Aj Ak Al Am : Int) (An Ao : List UInt8) (Ap : Int) (next : Int → Bool → Int → Int → Int → Int → (List UInt8) → (List UInt8) → Int → Option R) (kx0 : Bool → Int → Int → Int → Int → (List UInt8) → (List UInt8) → Int → Option R) (kr : Int → Bool → Int → Int → Int → Int → (List UInt8) → (List UInt8) → Int → Option R) : Option R :=
  (bif (decide (v8 < v7)) then (oB (ixB v0 v8) fun y1 => (bif fitC qa y1.cells then (ql7 (gB y1.cells 0) (gI y1.cells 1) (gI y1.cells 2) (gI y1.cells 3) (gI y1.cells 4) (gS y1.cells 5) (gS y1.cells 6) (gI y1.cells 7) Ai Aj Ak Al Am An Ao Ap fun v3q2 b0_0q3 b0_1q4 b0_2q5 b0_3q6 b0_4q7 b0_5q8 b0_6q9 b0_7q10 => (bif v3q2 then (kr v8 b0_0q3 b0_1q4 b0_2q5 b0_3q6 b0_4q7 b0_5q8 b0_6q9 b0_7q10) else (next (IntKind.i64.wrap (v8 + (1 : Int))) b0_0q3 b0_1q4 b0_2q5 b0_3q6 b0_4q7 b0_5q8 b0_6q9 b0_7q10))) else none)) else (kx0 Ai Aj Ak Al Am An Ao Ap))
def qb9 {R : Type}  (v0 : List AV) (v7 : Int) (kx0 : Bool → Int → Int → Int → Int → (List UInt8) → (List UInt8) → Int → Option R) (kr : Int → Bool → Int → Int → Int → Int → (List UInt8) → (List UInt8) → Int → Option R) : Nat → Int → Bool → Int → Int → Int → Int → (List UInt8) → (List UInt8) → Int → Option R
  | 0 => (fun _ _ _ _ _ _ _ _ _ => none)
  | n + 1 => (fun v8 Ai Aj Ak Al Am An Ao Ap => qbb v0 v7 v8 Ai Aj Ak Al Am An Ao Ap (qb9 v0 v7 kx0 kr n) kx0 kr)
def qcc {R : Type} := hull (qb9 (R := R))
theorem qd8 {R : Type} : qcc (R := R) = qb9 := qk _
def qbc {R : Type} (KK : AV → Mem → Option R) : AC R :=
  .seq (.reg [ao 9 (.bin .lss 8 7)]) (.seq (.cond 9 (.skip) (.seq (.view [.sel [] [0]]) (.exit 0))) (.seq (.block 1 (.seq (.reg [ao 10 (.mv 8),
 ao 5 (.mv 10)]) (.seq (.reg [ao 11 (.mv 1),
 ao 12 (.mv 0),
 ao 13 (.mv 5),
 ao 14 (.ia 8 12 13),
 .st (.etac 14 qa),
 ao 15 (.load true 8 14),
 .st (.sel [0, 1, 5, 7, 8, 11, 15] [0]),
 .callr (po 16 (.callv 11 [15])) 91 qx6]) (.cond 16 (.seq (.reg [ao 17 (.mv 5),
 ao 4 (.mv 17)]) (.seq (.view [.sel [4] [0]]) (.ret))) (.skip))))) (.seq (.reg [ao 18 (.bin .add 8 (.c (.int .i64 1))),
 ao 8 (.mv 18)]) (.view [.sel [0, 1, 7, 8] [0]]))))
theorem qih {R : Type} (KK : AV → Mem → Option R) : AC.ok Try.prog (TIof Try.prog) 19 1 (qm [.t 4] KK) (qbc KK) := qo (zA q90 trivial)
theorem qhv {R : Type} (KK : AV → Mem → Option R) (v0 : List AV) (v7 v8 : Int) (Ai : Bool) (Aj Ak Al Am : Int) (An Ao : List UInt8) (Ap : Int) (K : Ex → Env → Mem → Option R) : den 1 (qm [.t 4] KK) (qbc KK) (qcy v0 v7 v8 Ai Aj Ak Al Am An Ao Ap) (qcz v0 v7 v8 Ai Aj Ak Al Am An Ao Ap) K = qbb v0 v7 v8 Ai Aj Ak Al Am An Ao Ap (fun z_v8 z_b0_0 z_b0_1 z_b0_2 z_b0_3 z_b0_4 z_b0_5 z_b0_6 z_b0_7 => K .norm (qcy v0 v7 z_v8 z_b0_0 z_b0_1 z_b0_2 z_b0_3 z_b0_4 z_b0_5 z_b0_6 z_b0_7) (qcz v0 v7 z_v8 z_b0_0 z_b0_1 z_b0_2 z_b0_3 z_b0_4 z_b0_5 z_b0_6 z_b0_7)) (qby K) (qb5 KK) := by kernel_rfl
theorem qiv {R : Type} (KK : AV → Mem → Option R) (v0 : List AV) (v7 : Int) (K : Ex → Env → Mem → Option R) : ∀ (n : Nat) (v8 : Int) (Ai : Bool) (Aj Ak Al Am : Int) (An Ao : List UInt8) (Ap : Int), qg0 (den 1 (qm [.t 4] KK) (qbc KK)) n (qcy v0 v7 v8 Ai Aj Ak Al Am An Ao Ap) (qcz v0 v7 v8 Ai Aj Ak Al Am An Ao Ap) K = qcc v0 v7 (qby K) (qb5 KK) n v8 Ai Aj Ak Al Am An Ao Ap := by
  rw [qd8]
  intro n
  induction n with
  | zero => intros; rfl
  | succ n ih =>
 intro v8 Ai Aj Ak Al Am An Ao Ap
 exact (qhv KK v0 v7 v8 Ai Aj Ak Al Am An Ao Ap (itK (den 1 (qm [.t 4] KK) (qbc KK)) n K)).trans (congrArg (fun q => qbb v0 v7 v8 Ai Aj Ak Al Am An Ao Ap q (qby K) (qb5 KK)) (funext fun v8 => funext fun Ai => funext fun Aj => funext fun Ak => funext fun Al => funext fun Am => funext fun An => funext fun Ao => funext fun Ap => ih v8 Ai Aj Ak Al Am An Ao Ap))
def qeo {R : Type} (KK : AV → Mem → Option R) := subE (R := R) qhu fun t m K => qh (bxC (m.s 0)) (qcc (gL [t 0] 0) (gI [t 7] 0) (qby K) (qb5 KK) FU (gI [t 8] 0))
theorem qiw {R : Type} (KK : AV → Mem → Option R) : qdj Try.prog (TIof Try.prog) 19 1 (qm [.t 4] KK) (.loop (scOf (qbc KK))) (qeo KK) :=
  qic tabOk follows (qih KK) (qbi (by kernel_rfl)) fun t m K => qiv KK _ _ K FU _ _ _ _ _ _ _ _ _
def qi4 : Shp := ⟨[(0, .one (.l (.sl 8))), (1, .one (.fn 91 [(0, 0)]))], [.box true (lk qa)]⟩
def qet {R : Type} (KK : AV → Mem → Option R) := (fun v4 Ai Aj Ak Al Am An Ao Ap => KK (.int .i64 v4) (qg [(some (.box true [(.bool Ai), (.int .u64 Aj), (.int .u64 Ak), (.int .i64 Al), (.int .i64 Am), (.str An), (.str Ao), (.int .i64 Ap)]))]))
def qdb {R : Type}  (v0 : List AV) (Ai : Bool) (Aj Ak Al Am : Int) (An Ao : List UInt8) (Ap : Int) (kr : Int → Bool → Int → Int → Int → Int → (List UInt8) → (List UInt8) → Int → Option R) : Option R :=
  (qcc v0 (v0.length : Int) (fun b0_0q1 b0_1q2 b0_2q3 b0_3q4 b0_4q5 b0_5q6 b0_6q7 b0_7q8 => (kr (-1 : Int) b0_0q1 b0_1q2 b0_2q3 b0_3q4 b0_4q5 b0_5q6 b0_6q7 b0_7q8)) kr FU (0 : Int) Ai Aj Ak Al Am An Ao Ap)
def qbo {R : Type} := hull (qdb (R := R))
theorem qeu {R : Type} : qbo (R := R) = qdb := qk _
def qbh {R : Type} (KK : AV → Mem → Option R) : AC R :=
  .seq (.reg [ao 4 (.mv (.c (.int .i64 0)))]) (.seq (.seq (.reg [ao 6 (.mv 0),
 ao 7 (.len false 6),
 ao 8 (.mv (.c (.int .i64 0)))]) (.block 0 (.seq (.view [.sel [0, 1, 7, 8] [0]]) (.sub (.loop (scOf (qbc KK))) (qeo KK))))) (.seq (.reg [ao 4 (.mv (.c (.int .i64 (-1))))]) (.seq (.view [.sel [4] [0]]) (.ret))))
theorem qjg {R : Type} (KK : AV → Mem → Option R) : AC.ok Try.prog (TIof Try.prog) 19 1 (qm [.t 4] KK) (qbh KK) := qo (zA (qiw KK) trivial)
theorem qjt {R : Type} (KK : AV → Mem → Option R) (v0 : List AV) (Ai : Bool) (Aj Ak Al Am : Int) (An Ao : List UInt8) (Ap : Int) : den 1 (qm [.t 4] KK) (qbh KK) (qj [(0, (.sl 8 v0)), (1, (.func 91 [(.ptr 0 0)]))]) (qg [(some (.box true (qc Ai Aj Ak Al Am An Ao Ap)))]) (kend (qm [.t 4] KK)) = qbo v0 Ai Aj Ak Al Am An Ao Ap (qet KK) := by
  rw [qeu]; kernel_rfl
theorem qju : cFn (TIof Try.prog) Try.f88 = some ⟨19, [.t 4], scOf (qbh (R := Unit) (fun _ _ => none))⟩ := by kernel_rfl
theorem qjv {R : Type} (KK : AV → Mem → Option R) : (qbh KK).er = some (scOf (qbh (R := Unit) (fun _ _ => none))) := by kernel_rfl
def qez {R : Type} : List AV → Mem → (AV → Mem → Option R) → Option R := refE qi4 fun xs m KK => qh (bxC (m.s 0)) (qbo (gL [(ql xs) 0] 0)) (qet KK)
theorem qjw {R : Type} : qfa Try.prog 88 (qez (R := R)) :=
  qka (ac := fun KK => qbh KK) tabOk follows Try.func88 (by kernel_rfl) qju (fun KK => qjg KK) (fun KK => qjv KK) rfl fun xs m KK => qjt KK _ _ _ _ _ _ _ _ _
def q7d {R : Type} (vs : List AV) (m : Mem) (K : AV → Mem → Option R) : Option R := q1m 8 80 vs m K
theorem qbj6 {R : Type} : qfa Try.prog 92 (q7d (R := R)) := qbo2 (ρ := q8s 92 102 103 0 3 4 22 34) tabOk (qbnu follows "slices.Insert[[]ddi/api.Block,ddi/api.Block]" (by kernel_rfl) (by kernel_rfl) Try.func102 (by kernel_rfl) (by kernel_rfl) (by kernel_rfl) (by kernel_rfl) (by kernel_rfl) (by kernel_rfl) (by kernel_rfl) (by kernel_rfl) (by kernel_rfl) (by kernel_rfl) (by kernel_rfl) (by kernel_rfl) (by kernel_rfl) (by kernel_rfl) (by kernel_rfl) (by kernel_rfl) (by kernel_rfl)) (by kernel_rfl) (by kernel_rfl) (by decide) (by decide)
def quw  (v0 : List AV) (Ai : Bool) (Aj Ak Al Am : Int) (An Ao : List UInt8) (Ap : Int) (K : Ex → Env → Mem → Option (List AV)) := (fun z_v5 => K .norm (qj [(0, (.sl 8 v0)), (3, (.ptr 0 0)), (5, (.int .i64 z_v5))]) (qg [(some (.box true (qc Ai Aj Ak Al Am An Ao Ap)))]))
def q39 : Shp := ⟨[(0, .one (.l (.sl 8))), (3, .one (.ptr 0 0)), (5, .one (.l (.i .i64)))], [.box true (lk qa)]⟩
def qp1  (v0 : List AV) (v5 : Int) (Ai : Bool) (Aj Ak Al Am : Int) (An Ao : List UInt8) (Ap : Int) (kn : Int → Option (List AV)) : Option (List AV) :=
  (bif (decide (v5 < (0 : Int))) then (kn (v0.length : Int)) else (kn v5))
def qnp := hull (qp1)
theorem qux : qnp = qp1 := qk _
def ql8 : AC (List AV) :=
  .seq (.reg [ao 9 (.mv 5),
 ao 10 (.bin .lss 9 (.c (.int .i64 0)))]) (.cond 10 (.seq (.reg [ao 11 (.mv 0),
 ao 12 (.len false 11),
 ao 5 (.mv 12)]) (.view [.sel [0, 3, 5] [0]])) (.seq (.skip) (.view [.sel [0, 3, 5] [0]])))
theorem q6a : AC.ok Try.prog (TIof Try.prog) 19 0 (kret [.t 4] (decF true 8)) ql8 := qo trivial
theorem q7e (v0 : List AV) (v5 : Int) (Ai : Bool) (Aj Ak Al Am : Int) (An Ao : List UInt8) (Ap : Int) (K : Ex → Env → Mem → Option (List AV)) : den 0 (kret [.t 4] (decF true 8)) ql8 (qj [(0, (.sl 8 v0)), (3, (.ptr 0 0)), (5, (.int .i64 v5))]) (qg [(some (.box true (qc Ai Aj Ak Al Am An Ao Ap)))]) K = qnp v0 v5 Ai Aj Ak Al Am An Ao Ap (quw v0 Ai Aj Ak Al Am An Ao Ap K) := by
  rw [qux]; kernel_rfl
def qwm := subE (R := (List AV)) q39 fun t m K => qh (bxC (m.s 0)) (qnp (gL [t 0] 0) (gI [t 5] 0)) (quw (gL [t 0] 0) (gB (bxC (m.s 0)) 0) (gI (bxC (m.s 0)) 1) (gI (bxC (m.s 0)) 2) (gI (bxC (m.s 0)) 3) (gI (bxC (m.s 0)) 4) (gS (bxC (m.s 0)) 5) (gS (bxC (m.s 0)) 6) (gI (bxC (m.s 0)) 7) K)
theorem q7f : qdj Try.prog (TIof Try.prog) 19 0 (kret [.t 4] (decF true 8)) (scOf ql8) (qwm) :=
  qk2 tabOk follows (q6a) (qbi (by kernel_rfl)) fun t m K => q7e _ _ _ _ _ _ _ _ _ _ K
def q91 : Shp := ⟨[(0, .one (.l (.sl 8))), (1, .st (lk qa))], []⟩
def qtn (v0 : List AV) (Aq : Bool) (Ar As At Ay : Int) (Az A0 : List UInt8) (A1 : Int) : Option (List AV) :=
  (qbo v0 Aq Ar As At Ay Az A0 A1 fun v4q1 b0_0q2 b0_1q3 b0_2q4 b0_3q5 b0_4q6 b0_5q7 b0_6q8 b0_7q9 => (qnp v0 v4q1 b0_0q2 b0_1q3 b0_2q4 b0_3q5 b0_4q6 b0_5q7 b0_6q8 b0_7q9 (fun v5q10 => (oB (qbu v0) fun r11 => (bif hd r11 r11.length then (bif hd ([(.agg [(.bool b0_0q2), (.int .u64 b0_1q3), (.int .u64 b0_2q4), (.int .i64 b0_3q5), (.int .i64 b0_4q6), (.str b0_5q7), (.str b0_6q8), (.int .i64 b0_7q9)])] : List AV) (([(.agg [(.bool b0_0q2), (.int .u64 b0_1q3), (.int .u64 b0_2q4), (.int .i64 b0_3q5), (.int .i64 b0_4q6), (.str b0_5q7), (.str b0_6q8), (.int .i64 b0_7q9)])] : List AV).length) then (oB (qvu 80 r11 v5q10 ([(.agg [(.bool b0_0q2), (.int .u64 b0_1q3), (.int .u64 b0_2q4), (.int .i64 b0_3q5), (.int .i64 b0_4q6), (.str b0_5q7), (.str b0_6q8), (.int .i64 b0_7q9)])] : List AV)) fun r12 => (bif hd r12 r12.length then (some r12) else none)) else none) else none)))))
def qgg := hull qtn
theorem qzo : qgg = qtn := qk _
def qto : AC (List AV) :=
  .seq (.reg [ao 3 (.box 1),
 ao 4 (.mv (.c .nils))]) (.seq (.reg [ao 6 (.mv 0),
 ao 7 (.mkf 91 [3]),
 .st (.sel [0, 3, 6, 7] [0]),
 .callr (po 8 (.call 88 [6, 7])) 88 qez,
 ao 5 (.mv 8)]) (.seq (.seq (.view [.sel [0, 3, 5] [0]]) (.sub (scOf ql8) qwm)) (.seq (.draw3 [] [14, 17] [ao 13 (.mv 0),
 .call (po 14 (.call 93 [13])) 93 qe4,
 ao 15 (.mv 5),
 ao 16 (.load true 8 3),
 ao 17 (.bsl 8 [16])] [.callr (po 18 (.call 92 [14, 15, 17])) 92 q7d,
 ao 4 (.mv 18)]) (.ret))))
theorem qbb9 : AC.ok Try.prog (TIof Try.prog) 19 0 (kret [.t 4] (decF true 8)) qto := qo (zA qjw (zA q7f (zA (qd.ok qj5) (zA qbj6 (zA rfl trivial)))))
theorem qbdw (v0 : List AV) (Aq : Bool) (Ar As At Ay : Int) (Az A0 : List UInt8) (A1 : Int) : den 0 (kret [.t 4] (decF true 8)) qto (qj [(0, (.sl 8 v0)), (1, .agg (qc Aq Ar As At Ay Az A0 A1))]) (qg []) (kend (kret [.t 4] (decF true 8))) = qgg v0 Aq Ar As At Ay Az A0 A1 := by
  rw [qzo]; kernel_rfl
theorem qbdx : cFn (TIof Try.prog) Try.f53 = some ⟨19, [.t 4], scOf qto⟩ := by kernel_rfl
def qbdy (xs : List AV) : Option (List AV) := qh ((ql xs) 1).cells (qgg (gL [(ql xs) 0] 0))
def qkx {R : Type} : List AV → (AV → Option R) → Option R := entF q91 qbdy (AV.fr true 8)
theorem qo4 {R : Type} : qd Try.prog 53 (qkx (R := R)) :=
  qcg tabOk follows Try.func53 (by kernel_rfl) qbdx hdeF qbb9 (qbi (by kernel_rfl)) fun xs => qbdw _ _ _ _ _ _ _ _ _
def qlh (z : AV) : Option ((List AV) × Int) := cond (qnd [(.one (.sl 8)), (.one (.i .i64))] z) (some (aL (gC (tpL z) 0), aI (gC (tpL z) 1))) none
def qbgq (r : (List AV) × Int) : AV := .tup [.sl 8 r.1, .int .i64 r.2]
def qx7  (v0 : List AV) (Ai : Bool) (Aj Ak Al Am : Int) (An Ao : List UInt8) (Ap : Int) (K : Ex → Env → Mem → Option ((List AV) × Int)) := (fun z_v25 => K .norm (qj [(0, (.sl 8 v0)), (3, (.ptr 0 0)), (25, (.bool z_v25))]) (qg [(some (.box true (qc Ai Aj Ak Al Am An Ao Ap)))]))
def q7g : Shp := ⟨[(0, .one (.l (.sl 8))), (3, .one (.ptr 0 0))], [.box true (lk qa)]⟩
def qsd  (v0 : List AV) (Ai : Bool) (Aj Ak Al Am : Int) (An Ao : List UInt8) (Ap : Int) (kn : Bool → Option ((List AV) × Int)) : Option ((List AV) × Int) :=
  (oB (qgj v0 Ai Aj Ak Al Am An Ao Ap) fun r1 => (bif r1 then (kn true) else (oB (qht v0 Ai Aj Ak Al) fun r2 => (kn r2))))
def qqg := hull (qsd)
theorem qx8 : qqg = qsd := qk _
def qnq : AC ((List AV) × Int) :=
  .seq (.reg [ao 17 (.mv 0),
 ao 18 (.load true 8 3),
 .call (po 19 (.call 44 [17, 18])) 44 qnl,
 ao 20 (.mv 19),
 ag 21 20 false (.mv 0),
 ag 22 20 false (.fa 0 3),
 ag 23 20 false (.load true 4 22),
 .call (pg 24 20 false (.call 52 [21, 23])) 52 qlt,
 ao 25 (.pick 20 (.c (.bool true)) 24)]) (.view [.sel [0, 3, 25] [0]])
theorem q92 : AC.ok Try.prog (TIof Try.prog) 32 0 (kret [.t 4, .t 5] qlh) qnq := qo (zA (qd.ok qwg) (zA (qd.ok qqw) trivial))
theorem qbca (v0 : List AV) (Ai : Bool) (Aj Ak Al Am : Int) (An Ao : List UInt8) (Ap : Int) (K : Ex → Env → Mem → Option ((List AV) × Int)) : den 0 (kret [.t 4, .t 5] qlh) qnq (qj [(0, (.sl 8 v0)), (3, (.ptr 0 0))]) (qg [(some (.box true (qc Ai Aj Ak Al Am An Ao Ap)))]) K = qqg v0 Ai Aj Ak Al Am An Ao Ap (qx7 v0 Ai Aj Ak Al Am An Ao Ap K) := by
  rw [qx8]; kernel_rfl
def qzp := subE (R := (List AV) × Int) q7g fun t m K => qh (bxC (m.s 0)) (qqg (gL [t 0] 0)) (qx7 (gL [t 0] 0) (gB (bxC (m.s 0)) 0) (gI (bxC (m.s 0)) 1) (gI (bxC (m.s 0)) 2) (gI (bxC (m.s 0)) 3) (gI (bxC (m.s 0)) 4) (gS (bxC (m.s 0)) 5) (gS (bxC (m.s 0)) 6) (gI (bxC (m.s 0)) 7) K)
theorem qbcb : qdj Try.prog (TIof Try.prog) 32 0 (kret [.t 4, .t 5] qlh) (scOf qnq) (qzp) :=
  qk2 tabOk follows (q92) (qbi (by kernel_rfl)) fun t m K => qbca _ _ _ _ _ _ _ _ _ K
def qbgr : Shp := ⟨[(0, .one (.l (.sl 8))), (1, .st (lk qa))], []⟩
def qzq (v0 : List AV) (Aq : Bool) (Ar As At Ay : Int) (Az A0 : List UInt8) (A1 : Int) : Option ((List AV) × Int) :=
  (oB (qll Aq Ar As At Ay Az A0 A1) fun r1 => (bif (r1 != (0 : Int)) then (some (([] : List AV), r1)) else (oB (qff v0 Aq Ar As At) fun r2 => (bif (decide (r2 ≥ (0 : Int))) then (some (([] : List AV), (12 : Int))) else (qqg v0 Aq Ar As At Ay Az A0 A1 (fun v25q3 => (bif v25q3 then (some (([] : List AV), (24 : Int))) else (bif (decide ((v0.length : Int) ≥ (512 : Int))) then (some (([] : List AV), (9 : Int))) else (oB (qgg v0 Aq Ar As At Ay Az A0 A1) fun r4 => (some (r4, (0 : Int))))))))))))
def qqh := hull qzq
theorem q5n : qqh = qzq := qk _
def qzr : AC ((List AV) × Int) :=
  .seq (.reg [ao 3 (.box 1),
 ao 4 (.mv (.c .nils)),
 ao 5 (.mv (.c (.int .i64 0)))]) (.seq (.seq (.reg [ao 7 (.load true 8 3),
 .call (po 8 (.call 43 [7])) 43 qr6,
 ao 6 (.mv 8)]) (.seq (.reg [ao 9 (.mv 6),
 ao 10 (.bin .neq 9 (.c (.int .i64 0)))]) (.cond 10 (.seq (.reg [ao 11 (.mv 6),
 ao 4 (.mv (.c .nils)),
 ao 5 (.mv 11)]) (.seq (.view [.eta 4 (.one (.sl 8))]) (.ret))) (.skip)))) (.seq (.seq (.reg [ao 12 (.mv 0),
 ao 13 (.fa 0 3),
 ao 14 (.load true 4 13),
 .call (po 15 (.call 51 [12, 14])) 51 qfg,
 ao 16 (.bin .geq 15 (.c (.int .i64 0)))]) (.cond 16 (.seq (.reg [ao 4 (.mv (.c .nils)),
 ao 5 (.mv (.c (.int .i64 12)))]) (.seq (.view [.eta 4 (.one (.sl 8))]) (.ret))) (.skip))) (.seq (.seq (.seq (.view [.sel [0, 3] [0]]) (.sub (scOf qnq) qzp)) (.cond 25 (.seq (.reg [ao 4 (.mv (.c .nils)),
 ao 5 (.mv (.c (.int .i64 24)))]) (.seq (.view [.eta 4 (.one (.sl 8))]) (.ret))) (.skip))) (.seq (.seq (.reg [ao 26 (.mv 0),
 ao 27 (.len false 26),
 ao 28 (.bin .geq 27 (.c (.int .i64 512)))]) (.cond 28 (.seq (.reg [ao 4 (.mv (.c .nils)),
 ao 5 (.mv (.c (.int .i64 9)))]) (.seq (.view [.eta 4 (.one (.sl 8))]) (.ret))) (.skip))) (.seq (.reg [ao 29 (.mv 0),
 ao 30 (.load true 8 3),
 .callc (po 31 (.call 53 [29, 30])) 53 qkx,
 ao 4 (.mv 31),
 ao 5 (.mv (.c (.int .i64 0)))]) (.ret))))))
theorem qbi3 : AC.ok Try.prog (TIof Try.prog) 32 0 (kret [.t 4, .t 5] qlh) qzr := qo (zA (qd.ok q2e) (zA (qd.ok qjf) (zA qbcb (zA (qd.ok qo4) trivial))))
theorem qbj7 (v0 : List AV) (Aq : Bool) (Ar As At Ay : Int) (Az A0 : List UInt8) (A1 : Int) : den 0 (kret [.t 4, .t 5] qlh) qzr (qj [(0, (.sl 8 v0)), (1, .agg (qc Aq Ar As At Ay Az A0 A1))]) (qg []) (kend (kret [.t 4, .t 5] qlh)) = qqh v0 Aq Ar As At Ay Az A0 A1 := by
  rw [q5n]; kernel_rfl
theorem qbj8 : cFn (TIof Try.prog) Try.f15 = some ⟨32, [.t 4, .t 5], scOf qzr⟩ := by kernel_rfl
def qbj9 (xs : List AV) : Option ((List AV) × Int) := qh ((ql xs) 1).cells (qqh (gL [(ql xs) 0] 0))
def q2n {R : Type} : List AV → (AV → Option R) → Option R := entF qbgr qbj9 qbgq
theorem qbka {R : Type} : qd Try.prog 15 (q2n (R := R)) :=
  qcg tabOk follows Try.func15 (by kernel_rfl) qbj8 (fun z r h => by
 obtain ⟨h1, h2⟩ := qn h
 cases h2
 exact (qj9 h1).symm) qbi3 (qbi (by kernel_rfl)) fun xs => qbj7 _ _ _ _ _ _ _ _ _
end
end Go.Proofs.Ytmjdngnagiloeaa.Dn
