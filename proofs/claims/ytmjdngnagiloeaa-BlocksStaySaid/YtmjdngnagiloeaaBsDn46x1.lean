import Derived.Test.YtmjdngnagiloeaaProg
import Derived.Test.YtmjdngnagiloeaaBsLibD
set_option linter.all false
namespace Go.Proofs.Ytmjdngnagiloeaa.Dn
open Go Go.Pev
set_option linter.unusedVariables false
set_option linter.unusedSimpArgs false
set_option maxRecDepth 100000
set_option maxHeartbeats 4000000
theorem zT : True := True.intro
theorem zA {a b : Prop} (x : a) (y : b) : a ∧ b := ⟨x, y⟩
theorem tabOk : Tab.ok (TIof Try.prog) Try.prog := fun _ _ h => h
theorem follows : Try.prog.follows .mixedOrders = true := by kernel_rfl
def qa : List LT := [.b, (.i .u64), (.i .u64), (.i .i64), (.i .i64), .s, .s, (.i .i64)]
def qc (x0 : Bool) (x1 x2 x3 x4 : Int) (x5 x6 : List UInt8) (x7 : Int) : List AV := [.bool x0, .int .u64 x1, .int .u64 x2, .int .i64 x3, .int .i64 x4, .str x5, .str x6, .int .i64 x7]
def qh {β : Type} (cs : List AV) (f : Bool → Int → Int → Int → Int → List UInt8 → List UInt8 → Int → β) : β := f (gB cs 0) (gI cs 1) (gI cs 2) (gI cs 3) (gI cs 4) (gS cs 5) (gS cs 6) (gI cs 7)
def q7u : Shp := ⟨[(0, .st (lk qa))], []⟩
noncomputable section
def qsn (Aa : Bool) (Ab Ac Ad Ae : Int) (Af Ag : List UInt8) (Ah : Int) : Option AV :=
  (oB (cutI Af none (some (if (100 : Int) < (Af.length : Int) then (100 : Int) else (Af.length : Int)))) fun s1 => (oB (cutI Ag none (some (if (100 : Int) < (Ag.length : Int) then (100 : Int) else (Ag.length : Int)))) fun s2 => (some (.agg [(.bool Aa), (.int .u64 Ab), (.int .u64 Ac), (.int .i64 Ad), (.int .i64 Ae), (.str s1), (.str s2), (.int .i64 Ah)]))))
def qm8 := hull qsn
theorem qyt : qm8 = qsn := qk _
def qso : AC AV :=
  .seq (.reg [ao 1 (.box 0),
 ao 2 (.alloc [(.bool false), (.int .u64 0), (.int .u64 0), (.int .i64 0), (.int .i64 0), (.str []), (.str []), (.int .i64 0)])]) (.seq (.reg [ao 3 (.fa 5 1),
 ao 4 (.load false 1 3),
 ao 5 (.fa 5 1),
 ao 6 (.load false 1 5),
 ao 7 (.len true 6),
 ao 8 (.mm false 7 [(.c (.int .i64 100))]),
 ao 9 (.slcs 4 none (some 8)),
 ao 10 (.fa 5 1),
 an (.store 1 10 9)]) (.seq (.reg [ao 11 (.fa 6 1),
 ao 12 (.load false 1 11),
 ao 13 (.fa 6 1),
 ao 14 (.load false 1 13),
 ao 15 (.len true 14),
 ao 16 (.mm false 15 [(.c (.int .i64 100))]),
 ao 17 (.slcs 12 none (some 16)),
 ao 18 (.fa 6 1),
 an (.store 1 18 17)]) (.seq (.reg [ao 19 (.load true 8 1),
 an (.store 8 2 19)]) (.ret))))
theorem qbal : AC.ok Try.prog (TIof Try.prog) 20 0 (kret [(.cell 2 true 8)] (decT [.b, (.i .u64), (.i .u64), (.i .i64), (.i .i64), .s, .s, (.i .i64)])) qso := qo trivial
theorem qbcn (Aa : Bool) (Ab Ac Ad Ae : Int) (Af Ag : List UInt8) (Ah : Int) : den 0 (kret [(.cell 2 true 8)] (decT [.b, (.i .u64), (.i .u64), (.i .i64), (.i .i64), .s, .s, (.i .i64)])) qso (qj [(0, .agg (qc Aa Ab Ac Ad Ae Af Ag Ah))]) (qg []) (kend (kret [(.cell 2 true 8)] (decT [.b, (.i .u64), (.i .u64), (.i .i64), (.i .i64), .s, .s, (.i .i64)]))) = qm8 Aa Ab Ac Ad Ae Af Ag Ah := by
  rw [qyt]; kernel_rfl
theorem qbco : cFn (TIof Try.prog) Try.f42 = some ⟨20, [(.cell 2 true 8)], scOf qso⟩ := by kernel_rfl
def qbcp (xs : List AV) : Option AV := qh ((ql xs) 0).cells (qm8)
def qw1 {R : Type} : List AV → (AV → Option R) → Option R := entF q7u qbcp (qog (.st [.b, (.i .u64), (.i .u64), (.i .i64), (.i .i64), .s, .s, (.i .i64)]))
theorem qbcq {R : Type} : qd Try.prog 42 (qw1 (R := R)) :=
  qcd tabOk follows Try.func42 (by kernel_rfl) qbco hdeT qbal (qbe (by kernel_rfl)) fun xs => qbcn _ _ _ _ _ _ _ _
def qly  (K : Ex → Env → Mem → Option (List AV)) := (fun z_a0 => K (.exit 0) (qj [(3, (.own 0 z_a0.length))]) (qg [(some (.arr true 8 z_a0))]))
def q62 : Shp := ⟨[(0, .one (.l (.sl 8))), (3, .one (.own 0)), (4, .one (.l (.i .i64)))], [.arr true 8]⟩
def qp9 (v0 : List AV) (v4 : Int) (a0 : List AV) : Env := qj [(0, (.sl 8 v0)), (3, (.own 0 a0.length)), (4, (.int .i64 v4))]
def qqa (v0 : List AV) (v4 : Int) (a0 : List AV) : Mem := qg [(some (.arr true 8 a0))]
def qh4  (v0 : List AV) (v4 : Int) (a0 : List AV) (next : Int → (List AV) → Option (List AV)) (kx0 : (List AV) → Option (List AV)) : Option (List AV) :=
  (bif ((decide (v4 < (v0.length : Int))) && (decide (v4 < (30 : Int)))) then (oB (ixB v0 v4) fun y1 => (bif fitC qa y1.cells then (oB (qm8 (gB y1.cells 0) (gI y1.cells 1) (gI y1.cells 2) (gI y1.cells 3) (gI y1.cells 4) (gS y1.cells 5) (gS y1.cells 6) (gI y1.cells 7)) fun r2 => (bif hd a0 a0.length then (bif hd ([(.agg [(.bool (gB r2.cells 0)), (.int .u64 (gI r2.cells 1)), (.int .u64 (gI r2.cells 2)), (.int .i64 (gI r2.cells 3)), (.int .i64 (gI r2.cells 4)), (.str (gS r2.cells 5)), (.str (gS r2.cells 6)), (.int .i64 (gI r2.cells 7))])] : List AV) (([(.agg [(.bool (gB r2.cells 0)), (.int .u64 (gI r2.cells 1)), (.int .u64 (gI r2.cells 2)), (.int .i64 (gI r2.cells 3)), (.int .i64 (gI r2.cells 4)), (.str (gS r2.cells 5)), (.str (gS r2.cells 6)), (.int .i64 (gI r2.cells 7))])] : List AV).length) then (bif decide ((a0.length + ([(.agg [(.bool (gB r2.cells 0)), (.int .u64 (gI r2.cells 1)), (.int .u64 (gI r2.cells 2)), (.int .i64 (gI r2.cells 3)), (.int .i64 (gI r2.cells 4)), (.str (gS r2.cells 5)), (.str (gS r2.cells 6)), (.int .i64 (gI r2.cells 7))])] : List AV).length) * 80 ≤ 140737488355328) then (next (IntKind.i64.wrap (v4 + (1 : Int))) (a0 ++ ([(.agg [(.bool (gB r2.cells 0)), (.int .u64 (gI r2.cells 1)), (.int .u64 (gI r2.cells 2)), (.int .i64 (gI r2.cells 3)), (.int .i64 (gI r2.cells 4)), (.str (gS r2.cells 5)), (.str (gS r2.cells 6)), (.int .i64 (gI r2.cells 7))])] : List AV))) else none) else none) else none)) else none)) else (kx0 a0))
def qmv  (v0 : List AV) (kx0 : (List AV) → Option (List AV)) : Nat → Int → (List AV) → Option (List AV)
  | 0 => (fun _ _ => none)
  | n + 1 => (fun v4 a0 => qh4 v0 v4 a0 (qmv v0 kx0 n) kx0)
def qpi := hull (qmv)
theorem qw2 : qpi = qmv := qk _
def qh5 : AC (List AV) :=
  .seq (.seq (.reg [ao 5 (.mv 4),
 ao 6 (.mv 0),
 ao 7 (.len false 6),
 ao 8 (.bin .lss 5 7),
 ao 9 (.mv 8),
 .grp 9 true [(pg 10 9 true (.mv 4)), (pg 11 9 true (.bin .lss 10 (.c (.int .i64 30))))] 12 11]) (.cond 12 (.skip) (.seq (.view [.sel [3] [0]]) (.exit 0)))) (.seq (.block 1 (.reg [ao 15 (.mv 3),
 ao 16 (.mv 0),
 ao 17 (.mv 4),
 ao 18 (.ia 8 16 17),
 .st (.etac 18 qa),
 ao 19 (.load true 8 18),
 .call (po 20 (.call 42 [19])) 42 qw1,
 ao 21 (.bsl 8 [20]),
 ao 22 (.app 8 80 15 21),
 ao 3 (.mv 22)])) (.seq (.reg [ao 13 (.mv 4),
 ao 14 (.bin .add 13 (.c (.int .i64 1))),
 ao 4 (.mv 14)]) (.view [.sel [0, 3, 4] [0]])))
theorem q7v : AC.ok Try.prog (TIof Try.prog) 24 0 (kret [.t 2] (decF true 8)) qh5 := qo (zA (qd.ok qbcq) trivial)
theorem q63 (v0 : List AV) (v4 : Int) (a0 : List AV) (K : Ex → Env → Mem → Option (List AV)) : den 0 (kret [.t 2] (decF true 8)) qh5 (qp9 v0 v4 a0) (qqa v0 v4 a0) K = qh4 v0 v4 a0 (fun z_v4 z_a0 => K .norm (qp9 v0 z_v4 z_a0) (qqa v0 z_v4 z_a0)) (qly K) := by kernel_rfl
theorem qbam (v0 : List AV) (K : Ex → Env → Mem → Option (List AV)) : ∀ (n : Nat) (v4 : Int) (a0 : List AV), qi2 (den 0 (kret [.t 2] (decF true 8)) qh5) n (qp9 v0 v4 a0) (qqa v0 v4 a0) K = qpi v0 (qly K) n v4 a0 := by
  rw [qw2]
  intro n
  induction n with
  | zero => intros; rfl
  | succ n ih =>
 intro v4 a0
 exact (q63 v0 v4 a0 (itK (den 0 (kret [.t 2] (decF true 8)) qh5) n K)).trans (congrArg (fun q => qh4 v0 v4 a0 q (qly K)) (funext fun v4 => funext fun a0 => ih v4 a0))
def qyu := subE (R := (List AV)) q62 fun t m K => qpi (gL [t 0] 0) (qly K) FU (gI [t 4] 0) (arL (m.s 0))
theorem qban : qdh Try.prog (TIof Try.prog) 24 0 (kret [.t 2] (decF true 8)) (.loop (scOf qh5)) (qyu) :=
  qkp tabOk follows (q7v) (qbe (by kernel_rfl)) fun t m K => qbam _ K FU _ _
def qbcr : Shp := ⟨[(0, .one (.l (.sl 8)))], []⟩
def qvo (v0 : List AV) : Option (List AV) :=
  (bif (hd ([] : List AV) (([] : List AV).length) && true) then (qpi v0 (fun a0q1 => (bif hd a0q1 a0q1.length then (some a0q1) else none)) FU (0 : Int) ([] : List AV)) else none)
def qqb := hull qvo
theorem q1x : qqb = qvo := qk _
def qvp : AC (List AV) :=
  .seq (.reg [ao 2 (.mv (.c .nils))]) (.seq (.reg [ao 3 (.mv (.c .nils))]) (.seq (.seq (.reg [ao 4 (.mv (.c (.int .i64 0)))]) (.block 0 (.seq (.view [.own 3 8, .sel [0, 3, 4] [0]]) (.sub (.loop (scOf qh5)) qyu)))) (.seq (.reg [ao 23 (.mv 3),
 ao 2 (.mv 23)]) (.ret))))
theorem qbeh : AC.ok Try.prog (TIof Try.prog) 24 0 (kret [.t 2] (decF true 8)) qvp := qo (zA qban trivial)
theorem qbg3 (v0 : List AV) : den 0 (kret [.t 2] (decF true 8)) qvp (qj [(0, (.sl 8 v0))]) (qg []) (kend (kret [.t 2] (decF true 8))) = qqb v0 := by
  rw [q1x]; kernel_rfl
theorem qbg4 : cFn (TIof Try.prog) Try.f10 = some ⟨24, [.t 2], scOf qvp⟩ := by kernel_rfl
def qbg5 (xs : List AV) : Option (List AV) := qqb (gL [(ql xs) 0] 0)
def q0d {R : Type} : List AV → (AV → Option R) → Option R := entF qbcr qbg5 (AV.fr true 8)
theorem qbg6 {R : Type} : qd Try.prog 10 (q0d (R := R)) :=
  qcd tabOk follows Try.func10 (by kernel_rfl) qbg4 hdeF qbeh (qbe (by kernel_rfl)) fun xs => qbg3 _
def qge : List LT := [.b, (.i .u64), (.i .u64)]
def qdf (x0 : Bool) (x1 x2 : Int) : List AV := [.bool x0, .int .u64 x1, .int .u64 x2]
def qeq {β : Type} (cs : List AV) (f : Bool → Int → Int → β) : β := f (gB cs 0) (gI cs 1) (gI cs 2)
def qbg7 : Shp := ⟨[(0, .st (lk qge))], []⟩
def q0e (Aa : Bool) (Ab Ac : Int) : Option Bool :=
  (bif Aa then (some true) else (bif (Ab == (0 : Int)) then (some (decide (Ac ≤ (4294967295 : Int)))) else (some false)))
def qqz := hull q0e
theorem q6p : qqz = q0e := qk _
def q0f : AC Bool :=
  .seq (.reg [ao 1 (.box 0),
 ao 2 (.mv (.c (.bool false)))]) (.seq (.reg [ao 3 (.fa 0 1),
 ao 4 (.load false 1 3),
 ao 5 (.mv 4),
 ag 6 5 false (.fa 1 1),
 ag 7 5 false (.load false 1 6),
 ag 8 5 false (.bin .eql 7 (.c (.int .u64 0))),
 ag 9 5 false (.mv 8),
 ag 10 9 true (.fa 2 1),
 ag 11 9 true (.load false 1 10),
 ag 12 9 true (.bin .leq 11 (.c (.int .u64 4294967295))),
 ag 13 5 false (.pick 9 12 (.c (.bool false))),
 ao 14 (.pick 5 (.c (.bool true)) 13),
 ao 2 (.mv 14)]) (.ret))
theorem qbj5 : AC.ok Try.prog (TIof Try.prog) 15 0 (kret [.t 2] decB) q0f := qo trivial
theorem qblh (Aa : Bool) (Ab Ac : Int) : den 0 (kret [.t 2] decB) q0f (qj [(0, .agg (qdf Aa Ab Ac))]) (qg []) (kend (kret [.t 2] decB)) = qqz Aa Ab Ac := by
  rw [q6p]; kernel_rfl
theorem qbli : cFn (TIof Try.prog) Try.f73 = some ⟨15, [.t 2], scOf q0f⟩ := by kernel_rfl
def qblj (xs : List AV) : Option Bool := qeq ((ql xs) 0).cells (qqz)
def qvq {R : Type} : List AV → (AV → Option R) → Option R := entF qbg7 qblj AV.bool
theorem q7w {R : Type} : qd Try.prog 73 (qvq (R := R)) :=
  qcd tabOk follows Try.func73 (by kernel_rfl) qbli hdeB qbj5 (qbe (by kernel_rfl)) fun xs => qblh _ _ _
def qbao : Shp := ⟨[(0, .st (lk qge))], []⟩
def qtu (Aa : Bool) (Ab Ac : Int) : Option Int :=
  (bif Aa then (some (128 : Int)) else (some (32 : Int)))
def qin := hull qtu
theorem q0g : qin = qtu := qk _
def qtv : AC Int :=
  .seq (.reg [ao 1 (.box 0),
 ao 2 (.mv (.c (.int .i64 0)))]) (.seq (.seq (.reg [ao 3 (.fa 0 1),
 ao 4 (.load false 1 3)]) (.cond 4 (.seq (.reg [ao 2 (.mv (.c (.int .i64 128)))]) (.ret)) (.skip))) (.seq (.reg [ao 2 (.mv (.c (.int .i64 32)))]) (.ret)))
theorem qbcs : AC.ok Try.prog (TIof Try.prog) 5 0 (kret [.t 2] (decI .i64)) qtv := qo trivial
theorem qbei (Aa : Bool) (Ab Ac : Int) : den 0 (kret [.t 2] (decI .i64)) qtv (qj [(0, .agg (qdf Aa Ab Ac))]) (qg []) (kend (kret [.t 2] (decI .i64))) = qin Aa Ab Ac := by
  rw [q0g]; kernel_rfl
theorem qbej : cFn (TIof Try.prog) Try.f76 = some ⟨5, [.t 2], scOf qtv⟩ := by kernel_rfl
def qbek (xs : List AV) : Option Int := qeq ((ql xs) 0).cells (qin)
def qkx {R : Type} : List AV → (AV → Option R) → Option R := entF qbao qbek (AV.int .i64)
theorem qpj {R : Type} : qd Try.prog 76 (qkx (R := R)) :=
  qcd tabOk follows Try.func76 (by kernel_rfl) qbej hdeI qbcs (qbe (by kernel_rfl)) fun xs => qbei _ _ _
def qsp (z : AV) : Option (Int × Int) := cond (qnn [(.one (.i .u64)), (.one (.i .u64))] z) (some (aI (gC (tpL z) 0), aI (gC (tpL z) 1))) none
def qbct (r : Int × Int) : AV := .tup [.int .u64 r.1, .int .u64 r.2]
def qbcu : Shp := ⟨[(0, .one (.l .b)), (1, .one (.l (.i .i64)))], []⟩
def qq0 (v0 : Bool) (v1 : Int) : Option (Int × Int) :=
  (bif (!v0) then (bif decide ((IntKind.u64.wrap (IntKind.i64.wrap ((32 : Int) - v1))) < 0) then none else (some ((0 : Int), (IntKind.u64.wrap ((IntKind.u64.wrap ((1 : Int) * 2 ^ min (IntKind.u64.wrap (IntKind.i64.wrap ((32 : Int) - v1))).toNat IntKind.u64.bits)) - (1 : Int)))))) else (bif (decide (v1 ≥ (64 : Int))) then (bif decide ((IntKind.u64.wrap (IntKind.i64.wrap ((128 : Int) - v1))) < 0) then none else (some ((0 : Int), (IntKind.u64.wrap ((IntKind.u64.wrap ((1 : Int) * 2 ^ min (IntKind.u64.wrap (IntKind.i64.wrap ((128 : Int) - v1))).toNat IntKind.u64.bits)) - (1 : Int)))))) else (bif decide ((IntKind.u64.wrap (IntKind.i64.wrap ((64 : Int) - v1))) < 0) then none else (some ((IntKind.u64.wrap ((IntKind.u64.wrap ((1 : Int) * 2 ^ min (IntKind.u64.wrap (IntKind.i64.wrap ((64 : Int) - v1))).toNat IntKind.u64.bits)) - (1 : Int))), (18446744073709551615 : Int))))))
def qm9 := hull qq0
theorem q1y : qm9 = qq0 := qk _
def qvr : AC (Int × Int) :=
  .seq (.reg [ao 4 (.mv (.c (.int .u64 0))),
 ao 5 (.mv (.c (.int .u64 0)))]) (.seq (.seq (.reg [ao 6 (.mv 0),
 ao 7 (.un .not 6)]) (.cond 7 (.seq (.reg [ao 8 (.mv 1),
 ao 9 (.bin .sub (.c (.int .i64 32)) 8),
 ao 10 (.conv (.int .u64) 9),
 ao 11 (.bin .shl (.c (.int .u64 1)) 10),
 ao 12 (.bin .sub 11 (.c (.int .u64 1))),
 ao 4 (.mv (.c (.int .u64 0))),
 ao 5 (.mv 12)]) (.ret)) (.skip))) (.seq (.seq (.reg [ao 13 (.mv 1),
 ao 14 (.bin .geq 13 (.c (.int .i64 64)))]) (.cond 14 (.seq (.reg [ao 15 (.mv 1),
 ao 16 (.bin .sub (.c (.int .i64 128)) 15),
 ao 17 (.conv (.int .u64) 16),
 ao 18 (.bin .shl (.c (.int .u64 1)) 17),
 ao 19 (.bin .sub 18 (.c (.int .u64 1))),
 ao 4 (.mv (.c (.int .u64 0))),
 ao 5 (.mv 19)]) (.ret)) (.skip))) (.seq (.reg [ao 20 (.mv 1),
 ao 21 (.bin .sub (.c (.int .i64 64)) 20),
 ao 22 (.conv (.int .u64) 21),
 ao 23 (.bin .shl (.c (.int .u64 1)) 22),
 ao 24 (.bin .sub 23 (.c (.int .u64 1))),
 ao 4 (.mv 24),
 ao 5 (.mv (.c (.int .u64 18446744073709551615)))]) (.ret))))
theorem qbel : AC.ok Try.prog (TIof Try.prog) 25 0 (kret [.t 4, .t 5] qsp) qvr := qo trivial
theorem qbg8 (v0 : Bool) (v1 : Int) : den 0 (kret [.t 4, .t 5] qsp) qvr (qj [(0, (.bool v0)), (1, (.int .i64 v1))]) (qg []) (kend (kret [.t 4, .t 5] qsp)) = qm9 v0 v1 := by
  rw [q1y]; kernel_rfl
theorem qbg9 : cFn (TIof Try.prog) Try.f72 = some ⟨25, [.t 4, .t 5], scOf qvr⟩ := by kernel_rfl
def qbha (xs : List AV) : Option (Int × Int) := qm9 (gB [(ql xs) 0] 0) (gI [(ql xs) 1] 0)
def qsq {R : Type} : List AV → (AV → Option R) → Option R := entF qbcu qbha qbct
theorem q3c {R : Type} : qd Try.prog 72 (qsq (R := R)) :=
  qcd tabOk follows Try.func72 (by kernel_rfl) qbg9 (fun z r h => by
 obtain ⟨h1, h2⟩ := qn h
 cases h2
 exact (qkf h1).symm) qbel (qbe (by kernel_rfl)) fun xs => qbg8 _ _
def qi : List LT := [.b, (.i .u64), (.i .u64), (.i .i64)]
def qb (x0 : Bool) (x1 x2 x3 : Int) : List AV := [.bool x0, .int .u64 x1, .int .u64 x2, .int .i64 x3]
def qe {β : Type} (cs : List AV) (f : Bool → Int → Int → Int → β) : β := f (gB cs 0) (gI cs 1) (gI cs 2) (gI cs 3)
def qw3  (Ai : Bool) (Aj Ak Al : Int) (K : Ex → Env → Mem → Option Bool) := (fun z_v21 => K .norm (qj [(1, (.ptr 0 0)), (21, (.bool z_v21))]) (qg [(some (.box true (qb Ai Aj Ak Al)))]))
def q64 : Shp := ⟨[(1, .one (.ptr 0 0))], [.box true (lk qi)]⟩
def qrd  (Ai : Bool) (Aj Ak Al : Int) (kn : Bool → Option Bool) : Option Bool :=
  (oB (qqz Ai Aj Ak) fun r1 => (bif (!r1) then (kn true) else (bif (decide (Al < (0 : Int))) then (kn true) else (oB (qin Ai Aj Ak) fun r2 => (kn (decide (Al > r2)))))))
def qpk := hull (qrd)
theorem qw4 : qpk = qrd := qk _
def qmw : AC Bool :=
  .seq (.draw [] [ao 5 (.fa 0 1),
 ao 6 (.load true 3 5),
 .call (po 7 (.call 73 [6])) 73 qvq,
 ao 8 (.un .not 7),
 ao 9 (.mv 8),
 ag 10 9 false (.fa 3 1),
 ag 11 9 false (.load false 1 10),
 ag 12 9 false (.bin .lss 11 (.c (.int .i64 0))),
 ao 13 (.pick 9 (.c (.bool true)) 12),
 ao 14 (.mv 13),
 ag 15 14 false (.fa 3 1),
 ag 16 14 false (.load false 1 15),
 ag 17 14 false (.fa 0 1),
 ag 18 14 false (.load true 3 17),
 .call (pg 19 14 false (.call 76 [18])) 76 qkx] [ag 20 14 false (.bin .gtr 16 19),
 ao 21 (.pick 14 (.c (.bool true)) 20)]) (.view [.sel [1, 21] [0]])
theorem q7x : AC.ok Try.prog (TIof Try.prog) 45 0 (kret [.t 2] decB) qmw := qo (zA (qd.ok q7w) (zA (qd.ok qpj) (zA rfl trivial)))
theorem qbap (Ai : Bool) (Aj Ak Al : Int) (K : Ex → Env → Mem → Option Bool) : den 0 (kret [.t 2] decB) qmw (qj [(1, (.ptr 0 0))]) (qg [(some (.box true (qb Ai Aj Ak Al)))]) K = qpk Ai Aj Ak Al (qw3 Ai Aj Ak Al K) := by
  rw [qw4]; kernel_rfl
def qyv := subE (R := Bool) q64 fun t m K => qe (bxC (m.s 0)) (qpk) (qw3 (gB (bxC (m.s 0)) 0) (gI (bxC (m.s 0)) 1) (gI (bxC (m.s 0)) 2) (gI (bxC (m.s 0)) 3) K)
theorem qbaq : qdh Try.prog (TIof Try.prog) 45 0 (kret [.t 2] decB) (scOf qmw) (qyv) :=
  qgx tabOk follows (q7x) (qbe (by kernel_rfl)) fun t m K => qbap _ _ _ _ K
def qbcv : Shp := ⟨[(0, .st (lk qi))], []⟩
def qvs (Aa : Bool) (Ab Ac Ad : Int) : Option Bool :=
  (qpk Aa Ab Ac Ad (fun v21q1 => (bif v21q1 then (some false) else (oB (qm9 Aa Ad) fun r2 => (some (((qcg .and .u64 Ab r2.1) == (0 : Int)) && ((qcg .and .u64 Ac r2.2) == (0 : Int))))))))
def qf6 := hull qvs
theorem q1z : qf6 = qvs := qk _
def qvt : AC Bool :=
  .seq (.reg [ao 1 (.box 0),
 ao 2 (.mv (.c (.bool false)))]) (.seq (.seq (.seq (.view [.sel [1] [0]]) (.sub (scOf qmw) qyv)) (.cond 21 (.seq (.reg [ao 2 (.mv (.c (.bool false)))]) (.ret)) (.skip))) (.seq (.reg [ao 23 (.fa 0 1),
 ao 24 (.fa 0 23),
 ao 25 (.load false 1 24),
 ao 26 (.fa 3 1),
 ao 27 (.load false 1 26),
 .call (po 28 (.call 72 [25, 27])) 72 qsq,
 ao 22 (.mv 28),
 ao 29 (.ext 22 0),
 ao 30 (.ext 22 1),
 ao 3 (.mv 29),
 ao 4 (.mv 30)]) (.seq (.reg [ao 31 (.fa 0 1),
 ao 32 (.fa 1 31),
 ao 33 (.load false 1 32),
 ao 34 (.mv 3),
 ao 35 (.bin .and 33 34),
 ao 36 (.bin .eql 35 (.c (.int .u64 0))),
 ao 37 (.mv 36),
 .grp 37 true [(pg 38 37 true (.fa 0 1)), (pg 39 37 true (.fa 2 38)), (pg 40 37 true (.load false 1 39)), (pg 41 37 true (.mv 4)), (pg 42 37 true (.bin .and 40 41)), (pg 43 37 true (.bin .eql 42 (.c (.int .u64 0))))] 44 43,
 ao 2 (.mv 44)]) (.ret))))
theorem qbem : AC.ok Try.prog (TIof Try.prog) 45 0 (kret [.t 2] decB) qvt := qo (zA qbaq (zA (qd.ok q3c) trivial))
theorem qbhb (Aa : Bool) (Ab Ac Ad : Int) : den 0 (kret [.t 2] decB) qvt (qj [(0, .agg (qb Aa Ab Ac Ad))]) (qg []) (kend (kret [.t 2] decB)) = qf6 Aa Ab Ac Ad := by
  rw [q1z]; kernel_rfl
theorem qbhc : cFn (TIof Try.prog) Try.f71 = some ⟨45, [.t 2], scOf qvt⟩ := by kernel_rfl
def qbhd (xs : List AV) : Option Bool := qe ((ql xs) 0).cells (qf6)
def qgh {R : Type} : List AV → (AV → Option R) → Option R := entF qbcv qbhd AV.bool
theorem qlk {R : Type} : qd Try.prog 71 (qgh (R := R)) :=
  qcd tabOk follows Try.func71 (by kernel_rfl) qbhc hdeB qbem (qbe (by kernel_rfl)) fun xs => qbhb _ _ _ _
def qbcw : Shp := ⟨[(0, .st (lk qi))], []⟩
def qvu (Aa : Bool) (Ab Ac Ad : Int) : Option Int :=
  (bif Aa then (some (128 : Int)) else (some (32 : Int)))
def qqc := hull qvu
theorem q10 : qqc = qvu := qk _
def qvv : AC Int :=
  .seq (.reg [ao 1 (.box 0),
 ao 2 (.mv (.c (.int .i64 0)))]) (.seq (.seq (.reg [ao 3 (.fa 0 1),
 ao 4 (.fa 0 3),
 ao 5 (.load false 1 4)]) (.cond 5 (.seq (.reg [ao 2 (.mv (.c (.int .i64 128)))]) (.ret)) (.skip))) (.seq (.reg [ao 2 (.mv (.c (.int .i64 32)))]) (.ret)))
theorem qben : AC.ok Try.prog (TIof Try.prog) 6 0 (kret [.t 2] (decI .i64)) qvv := qo trivial
theorem qbhe (Aa : Bool) (Ab Ac Ad : Int) : den 0 (kret [.t 2] (decI .i64)) qvv (qj [(0, .agg (qb Aa Ab Ac Ad))]) (qg []) (kend (kret [.t 2] (decI .i64))) = qqc Aa Ab Ac Ad := by
  rw [q10]; kernel_rfl
theorem qbhf : cFn (TIof Try.prog) Try.f77 = some ⟨6, [.t 2], scOf qvv⟩ := by kernel_rfl
def qbhg (xs : List AV) : Option Int := qe ((ql xs) 0).cells (qqc)
def q0h {R : Type} : List AV → (AV → Option R) → Option R := entF qbcw qbhg (AV.int .i64)
theorem qbhh {R : Type} : qd Try.prog 77 (q0h (R := R)) :=
  qcd tabOk follows Try.func77 (by kernel_rfl) qbhf hdeI qben (qbe (by kernel_rfl)) fun xs => qbhe _ _ _ _
def qjx  (K : Ex → Env → Mem → Option Bool) := (fun (_ : Unit) => K (.exit 0) (qj []) (qg []))
def q2t : Shp := ⟨[(0, .one (.l .s)), (19, .one (.l (.i .i64))), (20, .one (.l (.i .i64)))], []⟩
def qna (v0 : List UInt8) (v19 v20 : Int) : Env := qj [(0, (.str v0)), (19, (.int .i64 v19)), (20, (.int .i64 v20))]
def qnb (v0 : List UInt8) (v19 v20 : Int) : Mem := qg []
def qfn  (v0 : List UInt8) (v19 v20 : Int) (next : Int → Option Bool) (kx0 : Unit → Option Bool) : Option Bool :=
  (bif (decide (v20 < v19)) then (oB (ixB v0 v20) fun c1 => (bif (decide ((c1.toNat : Int) < (33 : Int))) then (some false) else (oB (ixB v0 v20) fun c2 => (bif (decide ((c2.toNat : Int) > (126 : Int))) then (some false) else (next (IntKind.i64.wrap (v20 + (1 : Int)))))))) else (kx0 ()))
def qk5  (v0 : List UInt8) (v19 : Int) (kx0 : Unit → Option Bool) : Nat → Int → Option Bool
  | 0 => (fun _ => none)
  | n + 1 => (fun v20 => qfn v0 v19 v20 (qk5 v0 v19 kx0 n) kx0)
def qj5 := hull (qk5)
theorem qtc : qj5 = qk5 := qk _
def qfo : AC Bool :=
  .seq (.reg [ao 21 (.bin .lss 20 19)]) (.seq (.cond 21 (.skip) (.seq (.view [.sel [] []]) (.exit 0))) (.seq (.block 1 (.seq (.reg [ao 22 (.mv 20),
 ao 7 (.mv 22)]) (.seq (.reg [ao 23 (.mv 0),
 ao 24 (.mv 7),
 ao 25 (.ixs 23 24),
 ao 26 (.bin .lss 25 (.c (.int .u8 33))),
 ao 27 (.mv 26),
 ag 28 27 false (.mv 0),
 ag 29 27 false (.mv 7),
 ag 30 27 false (.ixs 28 29),
 ag 31 27 false (.bin .gtr 30 (.c (.int .u8 126))),
 ao 32 (.pick 27 (.c (.bool true)) 31)]) (.cond 32 (.seq (.reg [ao 6 (.mv (.c (.bool false)))]) (.ret)) (.skip))))) (.seq (.reg [ao 33 (.bin .add 20 (.c (.int .i64 1))),
 ao 20 (.mv 33)]) (.view [.sel [0, 19, 20] []]))))
theorem q3d : AC.ok Try.prog (TIof Try.prog) 34 0 (kret [.t 6] decB) qfo := qo trivial
theorem q2u (v0 : List UInt8) (v19 v20 : Int) (K : Ex → Env → Mem → Option Bool) : den 0 (kret [.t 6] decB) qfo (qna v0 v19 v20) (qnb v0 v19 v20) K = qfn v0 v19 v20 (fun z_v20 => K .norm (qna v0 v19 z_v20) (qnb v0 v19 z_v20)) (qjx K) := by kernel_rfl
theorem q4u (v0 : List UInt8) (v19 : Int) (K : Ex → Env → Mem → Option Bool) : ∀ (n : Nat) (v20 : Int), qi2 (den 0 (kret [.t 6] decB) qfo) n (qna v0 v19 v20) (qnb v0 v19 v20) K = qj5 v0 v19 (qjx K) n v20 := by
  rw [qtc]
  intro n
  induction n with
  | zero => intros; rfl
  | succ n ih =>
 intro v20
 exact (q2u v0 v19 v20 (itK (den 0 (kret [.t 6] decB) qfo) n K)).trans (congrArg (fun q => qfn v0 v19 v20 q (qjx K)) (funext fun v20 => ih v20))
def qtw := subE (R := Bool) q2t fun t m K => qj5 (gS [t 0] 0) (gI [t 19] 0) (qjx K) FU (gI [t 20] 0)
theorem q4v : qdh Try.prog (TIof Try.prog) 34 0 (kret [.t 6] decB) (.loop (scOf qfo)) (qtw) :=
  qkp tabOk follows (q3d) (qbe (by kernel_rfl)) fun t m K => q4u _ _ K FU _
def q7y : Shp := ⟨[(0, .one (.l .s)), (1, .one (.l (.i .i64))), (2, .one (.l (.i .i64)))], []⟩
def qsr (v0 : List UInt8) (v1 v2 : Int) : Option Bool :=
  (bif ((decide ((v0.length : Int) < v1)) || (decide ((v0.length : Int) > v2))) then (some false) else (qj5 v0 (v0.length : Int) (fun (_ : Unit) => (some true)) FU (0 : Int)))
def qll := hull qsr
theorem qyw : qll = qsr := qk _
def qss : AC Bool :=
  .seq (.reg [ao 6 (.mv (.c (.bool false)))]) (.seq (.seq (.reg [ao 8 (.mv 0),
 ao 9 (.len true 8),
 ao 10 (.mv 1),
 ao 11 (.bin .lss 9 10),
 ao 12 (.mv 11),
 .grp 12 false [(pg 13 12 false (.mv 0)), (pg 14 12 false (.len true 13)), (pg 15 12 false (.mv 2)), (pg 16 12 false (.bin .gtr 14 15))] 17 16]) (.cond 17 (.seq (.reg [ao 6 (.mv (.c (.bool false)))]) (.ret)) (.skip))) (.seq (.seq (.reg [ao 18 (.mv 0),
 ao 19 (.len true 18),
 ao 20 (.mv (.c (.int .i64 0)))]) (.block 0 (.seq (.view [.sel [0, 19, 20] []]) (.sub (.loop (scOf qfo)) qtw)))) (.seq (.reg [ao 6 (.mv (.c (.bool true)))]) (.ret))))
theorem qbar : AC.ok Try.prog (TIof Try.prog) 34 0 (kret [.t 6] decB) qss := qo (zA q4v trivial)
theorem qbcx (v0 : List UInt8) (v1 v2 : Int) : den 0 (kret [.t 6] decB) qss (qj [(0, (.str v0)), (1, (.int .i64 v1)), (2, (.int .i64 v2))]) (qg []) (kend (kret [.t 6] decB)) = qll v0 v1 v2 := by
  rw [qyw]; kernel_rfl
theorem qbcy : cFn (TIof Try.prog) Try.f78 = some ⟨34, [.t 6], scOf qss⟩ := by kernel_rfl
def qbcz (xs : List AV) : Option Bool := qll (gS [(ql xs) 0] 0) (gI [(ql xs) 1] 0) (gI [(ql xs) 2] 0)
def qqd {R : Type} : List AV → (AV → Option R) → Option R := entF q7y qbcz AV.bool
theorem q0i {R : Type} : qd Try.prog 78 (qqd (R := R)) :=
  qcd tabOk follows Try.func78 (by kernel_rfl) qbcy hdeB qbar (qbe (by kernel_rfl)) fun xs => qbcx _ _ _
def qva  (Ai : Bool) (Aj Ak Al Am : Int) (An Ao : List UInt8) (Ap : Int) (K : Ex → Env → Mem → Option Int) := (fun z_v28 => K .norm (qj [(1, (.ptr 0 0)), (28, (.bool z_v28))]) (qg [(some (.box true (qc Ai Aj Ak Al Am An Ao Ap)))]))
def q4w : Shp := ⟨[(1, .one (.ptr 0 0))], [.box true (lk qa)]⟩
def qqe  (Ai : Bool) (Aj Ak Al Am : Int) (An Ao : List UInt8) (Ap : Int) (kn : Bool → Option Int) : Option Int :=
  (bif (decide (Am < (1 : Int))) then (kn true) else (bif (decide (Am > (3 : Int))) then (kn true) else (bif (Am == (3 : Int)) then (oB (qqc Ai Aj Ak Al) fun r1 => (kn (Al != r1))) else (kn false))))
def qnt := hull (qqe)
theorem qvb : qnt = qqe := qk _
def qma : AC Int :=
  .seq (.draw [] [ao 7 (.fa 4 1),
 ao 8 (.load false 1 7),
 ao 9 (.bin .lss 8 (.c (.int .i64 1))),
 ao 10 (.mv 9),
 ag 11 10 false (.fa 4 1),
 ag 12 10 false (.load false 1 11),
 ag 13 10 false (.bin .gtr 12 (.c (.int .i64 3))),
 ao 14 (.pick 10 (.c (.bool true)) 13),
 ao 15 (.mv 14),
 ag 16 15 false (.fa 4 1),
 ag 17 15 false (.load false 1 16),
 ag 18 15 false (.bin .eql 17 (.c (.int .i64 3))),
 ag 19 15 false (.mv 18),
 ag 20 19 true (.fa 0 1),
 ag 21 19 true (.fa 3 20),
 ag 22 19 true (.load false 1 21),
 ag 23 19 true (.fa 0 1),
 ag 24 19 true (.load true 4 23),
 .call (pg 25 19 true (.call 77 [24])) 77 q0h] [ag 26 19 true (.bin .neq 22 25),
 ag 27 15 false (.pick 19 26 (.c (.bool false))),
 ao 28 (.pick 15 (.c (.bool true)) 27)]) (.view [.sel [1, 28] [0]])
theorem q65 : AC.ok Try.prog (TIof Try.prog) 49 0 (kret [.t 2] (decI .i64)) qma := qo (zA (qd.ok qbhh) (zA rfl trivial))
theorem q7z (Ai : Bool) (Aj Ak Al Am : Int) (An Ao : List UInt8) (Ap : Int) (K : Ex → Env → Mem → Option Int) : den 0 (kret [.t 2] (decI .i64)) qma (qj [(1, (.ptr 0 0))]) (qg [(some (.box true (qc Ai Aj Ak Al Am An Ao Ap)))]) K = qnt Ai Aj Ak Al Am An Ao Ap (qva Ai Aj Ak Al Am An Ao Ap K) := by
  rw [qvb]; kernel_rfl
def qw5 := subE (R := Int) q4w fun t m K => qh (bxC (m.s 0)) (qnt) (qva (gB (bxC (m.s 0)) 0) (gI (bxC (m.s 0)) 1) (gI (bxC (m.s 0)) 2) (gI (bxC (m.s 0)) 3) (gI (bxC (m.s 0)) 4) (gS (bxC (m.s 0)) 5) (gS (bxC (m.s 0)) 6) (gI (bxC (m.s 0)) 7) K)
theorem q70 : qdh Try.prog (TIof Try.prog) 49 0 (kret [.t 2] (decI .i64)) (scOf qma) (qw5) :=
  qgx tabOk follows (q65) (qbe (by kernel_rfl)) fun t m K => q7z _ _ _ _ _ _ _ _ K
def qbc0 : Shp := ⟨[(0, .st (lk qa))], []⟩
def qvw (Aa : Bool) (Ab Ac Ad Ae : Int) (Af Ag : List UInt8) (Ah : Int) : Option Int :=
  (oB (qf6 Aa Ab Ac Ad) fun r1 => (bif (!r1) then (some (3 : Int)) else (qnt Aa Ab Ac Ad Ae Af Ag Ah (fun v28q2 => (bif v28q2 then (some (1 : Int)) else (oB (qll Af (1 : Int) (63 : Int)) fun r3 => (bif (!r3) then (some (1 : Int)) else (oB (qll Ag (0 : Int) (32 : Int)) fun r4 => (bif (((!r4) || (decide (Ah < (0 : Int)))) || (decide (Ah > (4294967295 : Int)))) then (some (1 : Int)) else (some (0 : Int)))))))))))
def qls := hull qvw
theorem q11 : qls = qvw := qk _
def qvx : AC Int :=
  .seq (.reg [ao 1 (.box 0),
 ao 2 (.mv (.c (.int .i64 0)))]) (.seq (.seq (.reg [ao 3 (.fa 0 1),
 ao 4 (.load true 4 3),
 .call (po 5 (.call 71 [4])) 71 qgh,
 ao 6 (.un .not 5)]) (.cond 6 (.seq (.reg [ao 2 (.mv (.c (.int .i64 3)))]) (.ret)) (.skip))) (.seq (.seq (.seq (.view [.sel [1] [0]]) (.sub (scOf qma) qw5)) (.cond 28 (.seq (.reg [ao 2 (.mv (.c (.int .i64 1)))]) (.ret)) (.skip))) (.seq (.seq (.reg [ao 29 (.fa 5 1),
 ao 30 (.load false 1 29),
 .call (po 31 (.call 78 [30, (.c (.int .i64 1)), (.c (.int .i64 63))])) 78 qqd,
 ao 32 (.un .not 31),
 ao 33 (.mv 32),
 ag 34 33 false (.fa 6 1),
 ag 35 33 false (.load false 1 34),
 .call (pg 36 33 false (.call 78 [35, (.c (.int .i64 0)), (.c (.int .i64 32))])) 78 qqd,
 ag 37 33 false (.un .not 36),
 ao 38 (.pick 33 (.c (.bool true)) 37),
 ao 39 (.mv 38),
 .grp 39 false [(pg 40 39 false (.fa 7 1)), (pg 41 39 false (.load false 1 40)), (pg 42 39 false (.bin .lss 41 (.c (.int .i64 0))))] 43 42,
 ao 44 (.mv 43),
 .grp 44 false [(pg 45 44 false (.fa 7 1)), (pg 46 44 false (.load false 1 45)), (pg 47 44 false (.bin .gtr 46 (.c (.int .i64 4294967295))))] 48 47]) (.cond 48 (.seq (.reg [ao 2 (.mv (.c (.int .i64 1)))]) (.ret)) (.skip))) (.seq (.reg [ao 2 (.mv (.c (.int .i64 0)))]) (.ret)))))
theorem qbeo : AC.ok Try.prog (TIof Try.prog) 49 0 (kret [.t 2] (decI .i64)) qvx := qo (zA (qd.ok qlk) (zA q70 (zA (qd.ok q0i) (zA (qd.ok q0i) trivial))))
theorem qbhi (Aa : Bool) (Ab Ac Ad Ae : Int) (Af Ag : List UInt8) (Ah : Int) : den 0 (kret [.t 2] (decI .i64)) qvx (qj [(0, .agg (qc Aa Ab Ac Ad Ae Af Ag Ah))]) (qg []) (kend (kret [.t 2] (decI .i64))) = qls Aa Ab Ac Ad Ae Af Ag Ah := by
  rw [q11]; kernel_rfl
theorem qbhj : cFn (TIof Try.prog) Try.f43 = some ⟨49, [.t 2], scOf qvx⟩ := by kernel_rfl
def qbhk (xs : List AV) : Option Int := qh ((ql xs) 0).cells (qls)
def qst {R : Type} : List AV → (AV → Option R) → Option R := entF qbc0 qbhk (AV.int .i64)
theorem q3e {R : Type} : qd Try.prog 43 (qst (R := R)) :=
  qcd tabOk follows Try.func43 (by kernel_rfl) qbhj hdeI qbeo (qbe (by kernel_rfl)) fun xs => qbhi _ _ _ _ _ _ _ _
def qbep : Shp := ⟨[(0, .one (.l (.i .u64))), (1, .one (.l (.i .u64)))], []⟩
def qx6 (v0 v1 : Int) : Option Int :=
  (bif (decide (v0 < v1)) then (some (-1 : Int)) else (bif (decide (v0 > v1)) then (some (1 : Int)) else (some (0 : Int))))
def qrw := hull qx6
theorem q3f : qrw = qx6 := qk _
def qx7 : AC Int :=
  .seq (.reg [ao 4 (.mv (.c (.int .i64 0)))]) (.seq (.block 0 (.seq (.reg [ao 6 (.mv 0),
 ao 7 (.mv 1),
 ao 8 (.bin .lss 6 7),
 ao 5 (.mv 8)]) (.cond 5 (.seq (.reg [ao 4 (.mv (.c (.int .i64 (-1))))]) (.ret)) (.seq (.reg [ao 10 (.mv 0),
 ao 11 (.mv 1),
 ao 12 (.bin .gtr 10 11),
 ao 9 (.mv 12)]) (.cond 9 (.seq (.reg [ao 4 (.mv (.c (.int .i64 1)))]) (.ret)) (.skip)))))) (.seq (.reg [ao 4 (.mv (.c (.int .i64 0)))]) (.ret)))
theorem qbhl : AC.ok Try.prog (TIof Try.prog) 13 0 (kret [.t 4] (decI .i64)) qx7 := qo trivial
theorem qbj6 (v0 v1 : Int) : den 0 (kret [.t 4] (decI .i64)) qx7 (qj [(0, (.int .u64 v0)), (1, (.int .u64 v1))]) (qg []) (kend (kret [.t 4] (decI .i64))) = qrw v0 v1 := by
  rw [q3f]; kernel_rfl
theorem qbj7 : cFn (TIof Try.prog) Try.f101 = some ⟨13, [.t 4], scOf qx7⟩ := by kernel_rfl
def qbj8 (xs : List AV) : Option Int := qrw (gI [(ql xs) 0] 0) (gI [(ql xs) 1] 0)
def qtx {R : Type} : List AV → (AV → Option R) → Option R := entF qbep qbj8 (AV.int .i64)
theorem q6q {R : Type} : qd Try.prog 101 (qtx (R := R)) :=
  qcd tabOk follows Try.func101 (by kernel_rfl) qbj7 hdeI qbhl (qbe (by kernel_rfl)) fun xs => qbj6 _ _
def qbc1 : Shp := ⟨[(0, .st (lk qge)), (1, .st (lk qge))], []⟩
def qvy (Aa : Bool) (Ab Ac : Int) (Aq : Bool) (Ar As : Int) : Option Int :=
  (bif ((!((Aa == Aq) && true)) && Aq) then (some (-1 : Int)) else (bif (!((Aa == Aq) && true)) then (some (1 : Int)) else (bif (Ab != Ar) then (oB (qrw Ab Ar) fun r1 => (some r1)) else (oB (qrw Ac As) fun r2 => (some r2)))))
def qqf := hull qvy
theorem q12 : qqf = qvy := qk _
def qvz : AC Int :=
  .seq (.reg [ao 2 (.box 0),
 ao 3 (.box 1),
 ao 4 (.mv (.c (.int .i64 0)))]) (.seq (.block 0 (.seq (.reg [ao 6 (.fa 0 2),
 ao 7 (.load false 1 6),
 ao 8 (.fa 0 3),
 ao 9 (.load false 1 8),
 ao 10 (.eq true false [.b] 7 9),
 ao 11 (.mv 10),
 .grp 11 true [(pg 12 11 true (.fa 0 3)), (pg 13 11 true (.load false 1 12))] 14 13,
 ao 5 (.mv 14)]) (.cond 5 (.seq (.reg [ao 4 (.mv (.c (.int .i64 (-1))))]) (.ret)) (.seq (.reg [ao 16 (.fa 0 2),
 ao 17 (.load false 1 16),
 ao 18 (.fa 0 3),
 ao 19 (.load false 1 18),
 ao 20 (.eq true false [.b] 17 19),
 ao 15 (.mv 20)]) (.cond 15 (.seq (.reg [ao 4 (.mv (.c (.int .i64 1)))]) (.ret)) (.seq (.reg [ao 22 (.fa 1 2),
 ao 23 (.load false 1 22),
 ao 24 (.fa 1 3),
 ao 25 (.load false 1 24),
 ao 26 (.bin .neq 23 25),
 ao 21 (.mv 26)]) (.cond 21 (.seq (.reg [ao 27 (.fa 1 2),
 ao 28 (.load false 1 27),
 ao 29 (.fa 1 3),
 ao 30 (.load false 1 29),
 .call (po 31 (.call 101 [28, 30])) 101 qtx,
 ao 4 (.mv 31)]) (.ret)) (.skip)))))))) (.seq (.reg [ao 32 (.fa 2 2),
 ao 33 (.load false 1 32),
 ao 34 (.fa 2 3),
 ao 35 (.load false 1 34),
 .call (po 36 (.call 101 [33, 35])) 101 qtx,
 ao 4 (.mv 36)]) (.ret)))
theorem qbeq : AC.ok Try.prog (TIof Try.prog) 37 0 (kret [.t 4] (decI .i64)) qvz := qo (zA (qd.ok q6q) (zA (qd.ok q6q) trivial))
theorem qbhm (Aa : Bool) (Ab Ac : Int) (Aq : Bool) (Ar As : Int) : den 0 (kret [.t 4] (decI .i64)) qvz (qj [(0, .agg (qdf Aa Ab Ac)), (1, .agg (qdf Aq Ar As))]) (qg []) (kend (kret [.t 4] (decI .i64))) = qqf Aa Ab Ac Aq Ar As := by
  rw [q12]; kernel_rfl
theorem qbhn : cFn (TIof Try.prog) Try.f75 = some ⟨37, [.t 4], scOf qvz⟩ := by kernel_rfl
def qbho (xs : List AV) : Option Int := qeq ((ql xs) 1).cells (qeq ((ql xs) 0).cells (qqf))
def q0j {R : Type} : List AV → (AV → Option R) → Option R := entF qbc1 qbho (AV.int .i64)
theorem qbhp {R : Type} : qd Try.prog 75 (q0j (R := R)) :=
  qcd tabOk follows Try.func75 (by kernel_rfl) qbhn hdeI qbeq (qbe (by kernel_rfl)) fun xs => qbhm _ _ _ _ _ _
def q71 : Shp := ⟨[(0, .st (lk qi)), (1, .st (lk qi))], []⟩
def qsu (Aa : Bool) (Ab Ac Ad : Int) (Aq : Bool) (Ar As At : Int) : Option Int :=
  (oB (qqf Aa Ab Ac Aq Ar As) fun r1 => (bif (r1 != (0 : Int)) then (some r1) else (bif (decide (Ad < At)) then (some (-1 : Int)) else (bif (decide (Ad > At)) then (some (1 : Int)) else (some (0 : Int))))))
def qlm := hull qsu
theorem qyx : qlm = qsu := qk _
def qsv : AC Int :=
  .seq (.reg [ao 2 (.box 0),
 ao 3 (.box 1),
 ao 4 (.mv (.c (.int .i64 0)))]) (.seq (.seq (.reg [ao 6 (.fa 0 2),
 ao 7 (.load true 3 6),
 ao 8 (.fa 0 3),
 ao 9 (.load true 3 8),
 .call (po 10 (.call 75 [7, 9])) 75 q0j,
 ao 5 (.mv 10)]) (.seq (.reg [ao 11 (.mv 5),
 ao 12 (.bin .neq 11 (.c (.int .i64 0)))]) (.cond 12 (.seq (.reg [ao 13 (.mv 5),
 ao 4 (.mv 13)]) (.ret)) (.skip)))) (.seq (.block 0 (.seq (.reg [ao 15 (.fa 3 2),
 ao 16 (.load false 1 15),
 ao 17 (.fa 3 3),
 ao 18 (.load false 1 17),
 ao 19 (.bin .lss 16 18),
 ao 14 (.mv 19)]) (.cond 14 (.seq (.reg [ao 4 (.mv (.c (.int .i64 (-1))))]) (.ret)) (.seq (.reg [ao 21 (.fa 3 2),
 ao 22 (.load false 1 21),
 ao 23 (.fa 3 3),
 ao 24 (.load false 1 23),
 ao 25 (.bin .gtr 22 24),
 ao 20 (.mv 25)]) (.cond 20 (.seq (.reg [ao 4 (.mv (.c (.int .i64 1)))]) (.ret)) (.skip)))))) (.seq (.reg [ao 4 (.mv (.c (.int .i64 0)))]) (.ret))))
theorem qbas : AC.ok Try.prog (TIof Try.prog) 26 0 (kret [.t 4] (decI .i64)) qsv := qo (zA (qd.ok qbhp) trivial)
theorem qbc2 (Aa : Bool) (Ab Ac Ad : Int) (Aq : Bool) (Ar As At : Int) : den 0 (kret [.t 4] (decI .i64)) qsv (qj [(0, .agg (qb Aa Ab Ac Ad)), (1, .agg (qb Aq Ar As At))]) (qg []) (kend (kret [.t 4] (decI .i64))) = qlm Aa Ab Ac Ad Aq Ar As At := by
  rw [qyx]; kernel_rfl
theorem qbc3 : cFn (TIof Try.prog) Try.f40 = some ⟨26, [.t 4], scOf qsv⟩ := by kernel_rfl
def qbc4 (xs : List AV) : Option Int := qe ((ql xs) 1).cells (qe ((ql xs) 0).cells (qlm))
def qqg {R : Type} : List AV → (AV → Option R) → Option R := entF q71 qbc4 (AV.int .i64)
theorem q0k {R : Type} : qd Try.prog 40 (qqg (R := R)) :=
  qcd tabOk follows Try.func40 (by kernel_rfl) qbc3 hdeI qbas (qbe (by kernel_rfl)) fun xs => qbc2 _ _ _ _ _ _ _ _
def ql6 (z : AV) : Option (AV × Bool) := cond (qnn [(.st [.b, (.i .u64), (.i .u64), (.i .i64)]), (.one .b)] z) (some ((gC (tpL z) 0), aB (gC (tpL z) 1))) none
def qbj9 (r : AV × Bool) : AV := .tup [qog (.st [.b, (.i .u64), (.i .u64), (.i .i64)]) r.1, .bool r.2]
def q13  (v1 : Int) (Ai : Bool) (Aj Ak : Int) (Au : Bool) (Av Aw Ax : Int) (K : Ex → Env → Mem → Option (AV × Bool)) := (fun z_v20 => K .norm (qj [(1, (.int .i64 v1)), (2, (.ptr 0 0)), (4, (.ptr 1 0)), (20, (.bool z_v20))]) (qg [(some (.box true (qdf Ai Aj Ak))), (some (.box true (qb Au Av Aw Ax)))]))
def qbc5 : Shp := ⟨[(1, .one (.l (.i .i64))), (2, .one (.ptr 0 0)), (4, .one (.ptr 1 0))], [.box true (lk qge), .box true (lk qi)]⟩
def qv0  (v1 : Int) (Ai : Bool) (Aj Ak : Int) (Au : Bool) (Av Aw Ax : Int) (kn : Bool → Option (AV × Bool)) : Option (AV × Bool) :=
  (oB (qqz Ai Aj Ak) fun r1 => (bif ((!r1) || (decide (v1 < (0 : Int)))) then (kn true) else (oB (qin Ai Aj Ak) fun r2 => (kn (decide (v1 > r2))))))
def qty := hull (qv0)
theorem q14 : qty = qv0 := qk _
def qq1 : AC (AV × Bool) :=
  .seq (.reg [ao 8 (.load true 3 2),
 .call (po 9 (.call 73 [8])) 73 qvq,
 ao 10 (.un .not 9),
 ao 11 (.mv 10),
 .grp 11 false [(pg 12 11 false (.mv 1)), (pg 13 11 false (.bin .lss 12 (.c (.int .i64 0))))] 14 13,
 ao 15 (.mv 14),
 ag 16 15 false (.mv 1),
 ag 17 15 false (.load true 3 2),
 .call (pg 18 15 false (.call 76 [17])) 76 qkx,
 ag 19 15 false (.bin .gtr 16 18),
 ao 20 (.pick 15 (.c (.bool true)) 19)]) (.view [.sel [1, 2, 4, 20] [0, 1]])
theorem qber : AC.ok Try.prog (TIof Try.prog) 42 0 (kret [(.cell 4 true 4), .t 5] ql6) qq1 := qo (zA (qd.ok q7w) (zA (qd.ok qpj) trivial))
theorem qbhq (v1 : Int) (Ai : Bool) (Aj Ak : Int) (Au : Bool) (Av Aw Ax : Int) (K : Ex → Env → Mem → Option (AV × Bool)) : den 0 (kret [(.cell 4 true 4), .t 5] ql6) qq1 (qj [(1, (.int .i64 v1)), (2, (.ptr 0 0)), (4, (.ptr 1 0))]) (qg [(some (.box true (qdf Ai Aj Ak))), (some (.box true (qb Au Av Aw Ax)))]) K = qty v1 Ai Aj Ak Au Av Aw Ax (q13 v1 Ai Aj Ak Au Av Aw Ax K) := by
  rw [q14]; kernel_rfl
def q3g := subE (R := AV × Bool) qbc5 fun t m K => qe (bxC (m.s 1)) (qeq (bxC (m.s 0)) (qty (gI [t 1] 0))) (q13 (gI [t 1] 0) (gB (bxC (m.s 0)) 0) (gI (bxC (m.s 0)) 1) (gI (bxC (m.s 0)) 2) (gB (bxC (m.s 1)) 0) (gI (bxC (m.s 1)) 1) (gI (bxC (m.s 1)) 2) (gI (bxC (m.s 1)) 3) K)
theorem qbhr : qdh Try.prog (TIof Try.prog) 42 0 (kret [(.cell 4 true 4), .t 5] ql6) (scOf qq1) (q3g) :=
  qgx tabOk follows (qber) (qbe (by kernel_rfl)) fun t m K => qbhq _ _ _ _ _ _ _ _ K
def qbka : Shp := ⟨[(0, .st (lk qge)), (1, .one (.l (.i .i64)))], []⟩
def q2v (Aa : Bool) (Ab Ac v1 : Int) : Option (AV × Bool) :=
  (qty v1 Aa Ab Ac false (0 : Int) (0 : Int) (0 : Int) (fun v20q1 => (bif v20q1 then (some ((.agg [(.bool false), (.int .u64 (0 : Int)), (.int .u64 (0 : Int)), (.int .i64 (0 : Int))]), false)) else (oB (qm9 Aa v1) fun r2 => (some ((.agg [(.bool Aa), (.int .u64 (qcg .andNot .u64 Ab r2.1)), (.int .u64 (qcg .andNot .u64 Ac r2.2)), (.int .i64 v1)]), true))))))
def qw6 := hull q2v
theorem q72 : qw6 = q2v := qk _
def q2w : AC (AV × Bool) :=
  .seq (.reg [ao 2 (.box 0),
 ao 4 (.alloc [(.bool false), (.int .u64 0), (.int .u64 0), (.int .i64 0)]),
 ao 5 (.mv (.c (.bool false)))]) (.seq (.seq (.seq (.view [.sel [1, 2, 4] [0, 1]]) (.sub (scOf qq1) q3g)) (.cond 20 (.seq (.reg [ao 21 (.build [(.bool false), (.int .u64 0), (.int .u64 0), (.int .i64 0)] []),
 an (.store 4 4 21),
 ao 5 (.mv (.c (.bool false)))]) (.ret)) (.skip))) (.seq (.reg [ao 23 (.fa 0 2),
 ao 24 (.load false 1 23),
 ao 25 (.mv 1),
 .call (po 26 (.call 72 [24, 25])) 72 qsq,
 ao 22 (.mv 26),
 ao 27 (.ext 22 0),
 ao 28 (.ext 22 1),
 ao 6 (.mv 27),
 ao 7 (.mv 28)]) (.seq (.reg [ao 29 (.fa 1 2),
 ao 30 (.load false 1 29),
 ao 31 (.mv 6),
 ao 32 (.bin .andNot 30 31),
 ao 33 (.fa 1 2),
 an (.store 1 33 32)]) (.seq (.reg [ao 34 (.fa 2 2),
 ao 35 (.load false 1 34),
 ao 36 (.mv 7),
 ao 37 (.bin .andNot 35 36),
 ao 38 (.fa 2 2),
 an (.store 1 38 37)]) (.seq (.reg [ao 39 (.load true 3 2),
 ao 40 (.mv 1),
 ao 41 (.build [(.bool false), (.int .u64 0), (.int .u64 0), (.int .i64 0)] [(0, (3, 39)), (3, (1, 40))]),
 an (.store 4 4 41),
 ao 5 (.mv (.c (.bool true)))]) (.ret))))))
theorem qblk : AC.ok Try.prog (TIof Try.prog) 42 0 (kret [(.cell 4 true 4), .t 5] ql6) q2w := qo (zA qbhr (zA (qd.ok q3c) trivial))
theorem qbnc (Aa : Bool) (Ab Ac v1 : Int) : den 0 (kret [(.cell 4 true 4), .t 5] ql6) q2w (qj [(0, .agg (qdf Aa Ab Ac)), (1, (.int .i64 v1))]) (qg []) (kend (kret [(.cell 4 true 4), .t 5] ql6)) = qw6 Aa Ab Ac v1 := by
  rw [q72]; kernel_rfl
theorem qbnd : cFn (TIof Try.prog) Try.f41 = some ⟨42, [(.cell 4 true 4), .t 5], scOf q2w⟩ := by kernel_rfl
def qbne (xs : List AV) : Option (AV × Bool) := qeq ((ql xs) 0).cells (qw6) (gI [(ql xs) 1] 0)
def q6r {R : Type} : List AV → (AV → Option R) → Option R := entF qbka qbne qbj9
theorem qbnf {R : Type} : qd Try.prog 41 (q6r (R := R)) :=
  qcd tabOk follows Try.func41 (by kernel_rfl) qbnd (fun z r h => by
 obtain ⟨h1, h2⟩ := qn h
 cases h2
 exact (qkf h1).symm) qblk (qbe (by kernel_rfl)) fun xs => qbnc _ _ _ _
def q66 : Shp := ⟨[(0, .st (lk qi)), (1, .st (lk qge))], []⟩
def qre (Aa : Bool) (Ab Ac Ad : Int) (Aq : Bool) (Ar As : Int) : Option Bool :=
  (oB (qf6 Aa Ab Ac Ad) fun r1 => (bif ((!r1) || (!((Aa == Aq) && true))) then (some false) else (oB (qw6 Aq Ar As Ad) fun r2 => (some (r2.2 && (((gB r2.1.cells 0) == Aa) && (((gI r2.1.cells 1) == Ab) && (((gI r2.1.cells 2) == Ac) && (((gI r2.1.cells 3) == Ad) && true)))))))))
def qkh := hull qre
theorem qw7 : qkh = qre := qk _
def qrf : AC Bool :=
  .seq (.reg [ao 2 (.box 0),
 ao 3 (.box 1),
 ao 4 (.mv (.c (.bool false)))]) (.seq (.seq (.reg [ao 7 (.load true 4 2),
 .call (po 8 (.call 71 [7])) 71 qgh,
 ao 9 (.un .not 8),
 ao 10 (.mv 9),
 .grp 10 false [(pg 11 10 false (.fa 0 2)), (pg 12 10 false (.fa 0 11)), (pg 13 10 false (.load false 1 12)), (pg 14 10 false (.fa 0 3)), (pg 15 10 false (.load false 1 14)), (pg 16 10 false (.eq true false [.b] 13 15))] 17 16]) (.cond 17 (.seq (.reg [ao 4 (.mv (.c (.bool false)))]) (.ret)) (.skip))) (.seq (.reg [ao 19 (.load true 3 3),
 ao 20 (.fa 3 2),
 ao 21 (.load false 1 20),
 .call (po 22 (.call 41 [19, 21])) 41 q6r,
 ao 18 (.mv 22),
 ao 23 (.ext 18 0),
 ao 24 (.ext 18 1),
 ao 5 (.alloc [(.bool false), (.int .u64 0), (.int .u64 0), (.int .i64 0)]),
 an (.store 4 5 23),
 ao 6 (.mv 24)]) (.seq (.reg [ao 25 (.mv 6),
 ao 26 (.mv 25),
 .grp 26 true [(pg 27 26 true (.load true 4 5)), (pg 28 26 true (.load true 4 2)), (pg 29 26 true (.eq false true [.b, (.i .u64), (.i .u64), (.i .i64)] 27 28))] 30 29,
 ao 4 (.mv 30)]) (.ret))))
theorem q73 : AC.ok Try.prog (TIof Try.prog) 31 0 (kret [.t 4] decB) qrf := qo (zA (qd.ok qlk) (zA (qd.ok qbnf) trivial))
theorem qbat (Aa : Bool) (Ab Ac Ad : Int) (Aq : Bool) (Ar As : Int) : den 0 (kret [.t 4] decB) qrf (qj [(0, .agg (qb Aa Ab Ac Ad)), (1, .agg (qdf Aq Ar As))]) (qg []) (kend (kret [.t 4] decB)) = qkh Aa Ab Ac Ad Aq Ar As := by
  rw [qw7]; kernel_rfl
theorem qbau : cFn (TIof Try.prog) Try.f35 = some ⟨31, [.t 4], scOf qrf⟩ := by kernel_rfl
def qbav (xs : List AV) : Option Bool := qeq ((ql xs) 1).cells (qe ((ql xs) 0).cells (qkh))
def qpa {R : Type} : List AV → (AV → Option R) → Option R := entF q66 qbav AV.bool
theorem qyy {R : Type} : qd Try.prog 35 (qpa (R := R)) :=
  qcd tabOk follows Try.func35 (by kernel_rfl) qbau hdeB q73 (qbe (by kernel_rfl)) fun xs => qbat _ _ _ _ _ _ _
def qbaw : Shp := ⟨[(0, .st (lk qi)), (1, .st (lk qi))], []⟩
def qtz (Aa : Bool) (Ab Ac Ad : Int) (Aq : Bool) (Ar As At : Int) : Option Bool :=
  (oB (qf6 Aa Ab Ac Ad) fun r1 => (bif r1 then (oB (qf6 Aq Ar As At) fun r2 => (bif (r2 && (decide (Ad ≥ At))) then (oB (qkh Aq Ar As At Aa Ab Ac) fun r3 => (some r3)) else (some false))) else (some false)))
def qio := hull qtz
theorem q0l : qio = qtz := qk _
def qt0 : AC Bool :=
  .seq (.reg [ao 2 (.box 0),
 ao 3 (.box 1),
 ao 4 (.mv (.c (.bool false)))]) (.seq (.reg [ao 5 (.load true 4 2),
 .call (po 6 (.call 71 [5])) 71 qgh,
 ao 7 (.mv 6),
 ag 8 7 true (.load true 4 3),
 .call (pg 9 7 true (.call 71 [8])) 71 qgh,
 ao 10 (.pick 7 9 (.c (.bool false))),
 ao 11 (.mv 10),
 .grp 11 true [(pg 12 11 true (.fa 3 2)), (pg 13 11 true (.load false 1 12)), (pg 14 11 true (.fa 3 3)), (pg 15 11 true (.load false 1 14)), (pg 16 11 true (.bin .geq 13 15))] 17 16,
 ao 18 (.mv 17),
 ag 19 18 true (.load true 4 3),
 ag 20 18 true (.fa 0 2),
 ag 21 18 true (.load true 3 20),
 .call (pg 22 18 true (.call 35 [19, 21])) 35 qpa,
 ao 23 (.pick 18 22 (.c (.bool false))),
 ao 4 (.mv 23)]) (.ret))
theorem qbc6 : AC.ok Try.prog (TIof Try.prog) 24 0 (kret [.t 4] decB) qt0 := qo (zA (qd.ok qlk) (zA (qd.ok qlk) (zA (qd.ok qyy) trivial)))
theorem qbes (Aa : Bool) (Ab Ac Ad : Int) (Aq : Bool) (Ar As At : Int) : den 0 (kret [.t 4] decB) qt0 (qj [(0, .agg (qb Aa Ab Ac Ad)), (1, .agg (qb Aq Ar As At))]) (qg []) (kend (kret [.t 4] decB)) = qio Aa Ab Ac Ad Aq Ar As At := by
  rw [q0l]; kernel_rfl
theorem qbet : cFn (TIof Try.prog) Try.f37 = some ⟨24, [.t 4], scOf qt0⟩ := by kernel_rfl
def qbeu (xs : List AV) : Option Bool := qe ((ql xs) 1).cells (qe ((ql xs) 0).cells (qio))
def qky {R : Type} : List AV → (AV → Option R) → Option R := entF qbaw qbeu AV.bool
theorem qpl {R : Type} : qd Try.prog 37 (qky (R := R)) :=
  qcd tabOk follows Try.func37 (by kernel_rfl) qbet hdeB qbc6 (qbe (by kernel_rfl)) fun xs => qbes _ _ _ _ _ _ _ _
def qbev : Shp := ⟨[(0, .st (lk qi)), (1, .st (lk qi))], []⟩
def qx8 (Aa : Bool) (Ab Ac Ad : Int) (Aq : Bool) (Ar As At : Int) : Option Bool :=
  (bif (decide (Ad > At)) then (oB (qio Aa Ab Ac Ad Aq Ar As At) fun r1 => (some r1)) else (some false))
def qf7 := hull qx8
theorem q3h : qf7 = qx8 := qk _
def qx9 : AC Bool :=
  .seq (.reg [ao 2 (.box 0),
 ao 3 (.box 1),
 ao 4 (.mv (.c (.bool false)))]) (.seq (.reg [ao 5 (.fa 3 2),
 ao 6 (.load false 1 5),
 ao 7 (.fa 3 3),
 ao 8 (.load false 1 7),
 ao 9 (.bin .gtr 6 8),
 ao 10 (.mv 9),
 ag 11 10 true (.load true 4 2),
 ag 12 10 true (.load true 4 3),
 .call (pg 13 10 true (.call 37 [11, 12])) 37 qky,
 ao 14 (.pick 10 13 (.c (.bool false))),
 ao 4 (.mv 14)]) (.ret))
theorem qbhs : AC.ok Try.prog (TIof Try.prog) 15 0 (kret [.t 4] decB) qx9 := qo (zA (qd.ok qpl) trivial)
theorem qbkb (Aa : Bool) (Ab Ac Ad : Int) (Aq : Bool) (Ar As At : Int) : den 0 (kret [.t 4] decB) qx9 (qj [(0, .agg (qb Aa Ab Ac Ad)), (1, .agg (qb Aq Ar As At))]) (qg []) (kend (kret [.t 4] decB)) = qf7 Aa Ab Ac Ad Aq Ar As At := by
  rw [q3h]; kernel_rfl
theorem qbkc : cFn (TIof Try.prog) Try.f64 = some ⟨15, [.t 4], scOf qx9⟩ := by kernel_rfl
def qbkd (xs : List AV) : Option Bool := qe ((ql xs) 1).cells (qe ((ql xs) 0).cells (qf7))
def qfy {R : Type} : List AV → (AV → Option R) → Option R := entF qbev qbkd AV.bool
theorem qku {R : Type} : qd Try.prog 64 (qfy (R := R)) :=
  qcd tabOk follows Try.func64 (by kernel_rfl) qbkc hdeB qbhs (qbe (by kernel_rfl)) fun xs => qbkb _ _ _ _ _ _ _ _
def qbax : Shp := ⟨[(0, .st (lk qa)), (1, .st (lk qa))], []⟩
def qt1 (Aa : Bool) (Ab Ac Ad Ae : Int) (Af Ag : List UInt8) (Ah : Int) (Aq : Bool) (Ar As At Ay : Int) (Az A0 : List UInt8) (A1 : Int) : Option Bool :=
  (bif (Ae == (1 : Int)) then (some true) else (bif (Ae == (2 : Int)) then (some (Ay == (3 : Int))) else (some false)))
def qok := hull qt1
theorem q0m : qok = qt1 := qk _
def qt2 : AC Bool :=
  .seq (.reg [ao 2 (.box 0),
 ao 3 (.box 1),
 ao 4 (.mv (.c (.bool false)))]) (.seq (.reg [ao 5 (.fa 4 2),
 ao 6 (.load false 1 5),
 ao 7 (.bin .eql 6 (.c (.int .i64 1))),
 ao 8 (.mv 7),
 ag 9 8 false (.fa 4 2),
 ag 10 8 false (.load false 1 9),
 ag 11 8 false (.bin .eql 10 (.c (.int .i64 2))),
 ag 12 8 false (.mv 11),
 ag 13 12 true (.fa 4 3),
 ag 14 12 true (.load false 1 13),
 ag 15 12 true (.bin .eql 14 (.c (.int .i64 3))),
 ag 16 8 false (.pick 12 15 (.c (.bool false))),
 ao 17 (.pick 8 (.c (.bool true)) 16),
 ao 4 (.mv 17)]) (.ret))
theorem qbc7 : AC.ok Try.prog (TIof Try.prog) 18 0 (kret [.t 4] decB) qt2 := qo trivial
theorem qbew (Aa : Bool) (Ab Ac Ad Ae : Int) (Af Ag : List UInt8) (Ah : Int) (Aq : Bool) (Ar As At Ay : Int) (Az A0 : List UInt8) (A1 : Int) : den 0 (kret [.t 4] decB) qt2 (qj [(0, .agg (qc Aa Ab Ac Ad Ae Af Ag Ah)), (1, .agg (qc Aq Ar As At Ay Az A0 A1))]) (qg []) (kend (kret [.t 4] decB)) = qok Aa Ab Ac Ad Ae Af Ag Ah Aq Ar As At Ay Az A0 A1 := by
  rw [q0m]; kernel_rfl
theorem qbex : cFn (TIof Try.prog) Try.f80 = some ⟨18, [.t 4], scOf qt2⟩ := by kernel_rfl
def qbey (xs : List AV) : Option Bool := qh ((ql xs) 1).cells (qh ((ql xs) 0).cells (qok))
def qyz {R : Type} : List AV → (AV → Option R) → Option R := entF qbax qbey AV.bool
theorem qbez {R : Type} : qd Try.prog 80 (qyz (R := R)) :=
  qcd tabOk follows Try.func80 (by kernel_rfl) qbex hdeB qbc7 (qbe (by kernel_rfl)) fun xs => qbew _ _ _ _ _ _ _ _ _ _ _ _ _ _ _ _
def q2x : Shp := ⟨[(0, .st (lk qa)), (1, .one (.ptr 0 0))], [.box true (lk qa)]⟩
def qtd {R : Type} (KK : AV → Mem → Option R) := (fun v3 Ai Aj Ak Al Am An Ao Ap => KK (.bool v3) (qg [(some (.box true [(.bool Ai), (.int .u64 Aj), (.int .u64 Ak), (.int .i64 Al), (.int .i64 Am), (.str An), (.str Ao), (.int .i64 Ap)]))]))
def qnu {R : Type}  (Aa : Bool) (Ab Ac Ad Ae : Int) (Af Ag : List UInt8) (Ah : Int) (Ai : Bool) (Aj Ak Al Am : Int) (An Ao : List UInt8) (Ap : Int) (kr : Bool → Bool → Int → Int → Int → Int → (List UInt8) → (List UInt8) → Int → Option R) : Option R :=
  (oB (qf7 Ai Aj Ak Al Aa Ab Ac Ad) fun r1 => (bif r1 then (oB (qok Aa Ab Ac Ad Ae Af Ag Ah Ai Aj Ak Al Am An Ao Ap) fun r2 => (kr (!r2) Ai Aj Ak Al Am An Ao Ap)) else (kr false Ai Aj Ak Al Am An Ao Ap)))
def qj6 {R : Type} := hull (qnu (R := R))
theorem qte {R : Type} : qj6 (R := R) = qnu := qk _
def qfp {R : Type} (KK : AV → Mem → Option R) : AC R :=
  .seq (.reg [ao 2 (.box 0),
 ao 3 (.mv (.c (.bool false)))]) (.seq (.reg [ao 4 (.fa 0 1),
 ao 5 (.load true 4 4),
 ao 6 (.fa 0 2),
 ao 7 (.load true 4 6),
 .call (po 8 (.call 64 [5, 7])) 64 qfy,
 ao 9 (.mv 8),
 ag 10 9 true (.load true 8 2),
 ag 11 9 true (.load true 8 1),
 .call (pg 12 9 true (.call 80 [10, 11])) 80 qyz,
 ag 13 9 true (.un .not 12),
 ao 14 (.pick 9 13 (.c (.bool false))),
 ao 3 (.mv 14)]) (.seq (.view [.sel [3] [0]]) (.ret)))
theorem q3i {R : Type} (KK : AV → Mem → Option R) : AC.ok Try.prog (TIof Try.prog) 15 1 (qm [.t 3] KK) (qfp KK) := qo (zA (qd.ok qku) (zA (qd.ok qbez) trivial))
theorem q4x {R : Type} (KK : AV → Mem → Option R) (Aa : Bool) (Ab Ac Ad Ae : Int) (Af Ag : List UInt8) (Ah : Int) (Ai : Bool) (Aj Ak Al Am : Int) (An Ao : List UInt8) (Ap : Int) : den 1 (qm [.t 3] KK) (qfp KK) (qj [(0, .agg (qc Aa Ab Ac Ad Ae Af Ag Ah)), (1, (.ptr 0 0))]) (qg [(some (.box true (qc Ai Aj Ak Al Am An Ao Ap)))]) (kend (qm [.t 3] KK)) = qj6 Aa Ab Ac Ad Ae Af Ag Ah Ai Aj Ak Al Am An Ao Ap (qtd KK) := by
  rw [qte]; kernel_rfl
theorem q4y : cFn (TIof Try.prog) Try.f79 = some ⟨15, [.t 3], scOf (qfp (R := Unit) (fun _ _ => none))⟩ := by kernel_rfl
theorem q4z {R : Type} (KK : AV → Mem → Option R) : (qfp KK).er = some (scOf (qfp (R := Unit) (fun _ _ => none))) := by kernel_rfl
def qt3 {R : Type} : List AV → Mem → (AV → Mem → Option R) → Option R := refE q2x fun xs m KK => qh (bxC (m.s 0)) (qh ((ql xs) 0).cells (qj6)) (qtd KK)
theorem q40 {R : Type} : qe9 Try.prog 79 (qt3 (R := R)) :=
  qkg (ac := fun KK => qfp KK) tabOk follows Try.func79 (by kernel_rfl) q4y (fun KK => q3i KK) (fun KK => q4z KK) rfl fun xs m KK => q4x KK _ _ _ _ _ _ _ _ _ _ _ _ _ _ _ _
def qbq {R : Type}  (K : Ex → Env → Mem → Option R) := (fun z_b0_0 z_b0_1 z_b0_2 z_b0_3 z_b0_4 z_b0_5 z_b0_6 z_b0_7 => K (.exit 0) (qj []) (qg [(some (.box true (qc z_b0_0 z_b0_1 z_b0_2 z_b0_3 z_b0_4 z_b0_5 z_b0_6 z_b0_7)))]))
def qbs {R : Type} (KK : AV → Mem → Option R) := (fun v4 Ai Aj Ak Al Am An Ao Ap => KK (.int .i64 v4) (qg [(some (.box true [(.bool Ai), (.int .u64 Aj), (.int .u64 Ak), (.int .i64 Al), (.int .i64 Am), (.str An), (.str Ao), (.int .i64 Ap)]))]))
def qgp : Shp := ⟨[(0, .one (.l (.sl 8))), (1, .one (.fn 79 [(0, 0)])), (7, .one (.l (.i .i64))), (8, .one (.l (.i .i64)))], [.box true (lk qa)]⟩
def qco (v0 : List AV) (v7 v8 : Int) (Ai : Bool) (Aj Ak Al Am : Int) (An Ao : List UInt8) (Ap : Int) : Env := qj [(0, (.sl 8 v0)), (1, (.func 79 [(.ptr 0 0)])), (7, (.int .i64 v7)), (8, (.int .i64 v8))]
def qcp (v0 : List AV) (v7 v8 : Int) (Ai : Bool) (Aj Ak Al Am : Int) (An Ao : List UInt8) (Ap : Int) : Mem := qg [(some (.box true (qc Ai Aj Ak Al Am An Ao Ap)))]
def qu {R : Type}  (v0 : List AV) (v7 v8 : Int) (Ai : Bool) (Aj Ak Al Am : Int) (An Ao : List UInt8) (Ap : Int) (next : Int → Bool → Int → Int → Int → Int → (List UInt8) → (List UInt8) → Int → Option R) (kx0 : Bool → Int → Int → Int → Int → (List UInt8) → (List UInt8) → Int → Option R) (kr : Int → Bool → Int → Int → Int → Int → (List UInt8) → (List UInt8) → Int → Option R) : Option R :=
  (bif (decide (v8 < v7)) then (oB (ixB v0 v8) fun y1 => (bif fitC qa y1.cells then (qj6 (gB y1.cells 0) (gI y1.cells 1) (gI y1.cells 2) (gI y1.cells 3) (gI y1.cells 4) (gS y1.cells 5) (gS y1.cells 6) (gI y1.cells 7) Ai Aj Ak Al Am An Ao Ap fun v3q2 b0_0q3 b0_1q4 b0_2q5 b0_3q6 b0_4q7 b0_5q8 b0_6q9 b0_7q10 => (bif v3q2 then (kr v8 b0_0q3 b0_1q4 b0_2q5 b0_3q6 b0_4q7 b0_5q8 b0_6q9 b0_7q10) else (next (IntKind.i64.wrap (v8 + (1 : Int))) b0_0q3 b0_1q4 b0_2q5 b0_3q6 b0_4q7 b0_5q8 b0_6q9 b0_7q10))) else none)) else (kx0 Ai Aj Ak Al Am An Ao Ap))
def qbw {R : Type}  (v0 : List AV) (v7 : Int) (kx0 : Bool → Int → Int → Int → Int → (List UInt8) → (List UInt8) → Int → Option R) (kr : Int → Bool → Int → Int → Int → Int → (List UInt8) → (List UInt8) → Int → Option R) : Nat → Int → Bool → Int → Int → Int → Int → (List UInt8) → (List UInt8) → Int → Option R
  | 0 => (fun _ _ _ _ _ _ _ _ _ => none)
  | n + 1 => (fun v8 Ai Aj Ak Al Am An Ao Ap => qu v0 v7 v8 Ai Aj Ak Al Am An Ao Ap (qbw v0 v7 kx0 kr n) kx0 kr)
def qb3 {R : Type} := hull (qbw (R := R))
theorem qdp {R : Type} : qb3 (R := R) = qbw := qk _
def qv {R : Type} (KK : AV → Mem → Option R) : AC R :=
  .seq (.reg [ao 9 (.bin .lss 8 7)]) (.seq (.cond 9 (.skip) (.seq (.view [.sel [] [0]]) (.exit 0))) (.seq (.block 1 (.seq (.reg [ao 10 (.mv 8),
 ao 5 (.mv 10)]) (.seq (.reg [ao 11 (.mv 1),
 ao 12 (.mv 0),
 ao 13 (.mv 5),
 ao 14 (.ia 8 12 13),
 .st (.etac 14 qa),
 ao 15 (.load true 8 14),
 .st (.sel [0, 1, 5, 7, 8, 11, 15] [0]),
 .callr (po 16 (.callv 11 [15])) 79 qt3]) (.cond 16 (.seq (.reg [ao 17 (.mv 5),
 ao 4 (.mv 17)]) (.seq (.view [.sel [4] [0]]) (.ret))) (.skip))))) (.seq (.reg [ao 18 (.bin .add 8 (.c (.int .i64 1))),
 ao 8 (.mv 18)]) (.view [.sel [0, 1, 7, 8] [0]]))))
theorem qg6 {R : Type} (KK : AV → Mem → Option R) : AC.ok Try.prog (TIof Try.prog) 19 1 (qm [.t 4] KK) (qv KK) := qo (zA q40 trivial)
theorem qgq {R : Type} (KK : AV → Mem → Option R) (v0 : List AV) (v7 v8 : Int) (Ai : Bool) (Aj Ak Al Am : Int) (An Ao : List UInt8) (Ap : Int) (K : Ex → Env → Mem → Option R) : den 1 (qm [.t 4] KK) (qv KK) (qco v0 v7 v8 Ai Aj Ak Al Am An Ao Ap) (qcp v0 v7 v8 Ai Aj Ak Al Am An Ao Ap) K = qu v0 v7 v8 Ai Aj Ak Al Am An Ao Ap (fun z_v8 z_b0_0 z_b0_1 z_b0_2 z_b0_3 z_b0_4 z_b0_5 z_b0_6 z_b0_7 => K .norm (qco v0 v7 z_v8 z_b0_0 z_b0_1 z_b0_2 z_b0_3 z_b0_4 z_b0_5 z_b0_6 z_b0_7) (qcp v0 v7 z_v8 z_b0_0 z_b0_1 z_b0_2 z_b0_3 z_b0_4 z_b0_5 z_b0_6 z_b0_7)) (qbq K) (qbs KK) := by kernel_rfl
theorem qhh {R : Type} (KK : AV → Mem → Option R) (v0 : List AV) (v7 : Int) (K : Ex → Env → Mem → Option R) : ∀ (n : Nat) (v8 : Int) (Ai : Bool) (Aj Ak Al Am : Int) (An Ao : List UInt8) (Ap : Int), qi2 (den 1 (qm [.t 4] KK) (qv KK)) n (qco v0 v7 v8 Ai Aj Ak Al Am An Ao Ap) (qcp v0 v7 v8 Ai Aj Ak Al Am An Ao Ap) K = qb3 v0 v7 (qbq K) (qbs KK) n v8 Ai Aj Ak Al Am An Ao Ap := by
  rw [qdp]
  intro n
  induction n with
  | zero => intros; rfl
  | succ n ih =>
 intro v8 Ai Aj Ak Al Am An Ao Ap
 exact (qgq KK v0 v7 v8 Ai Aj Ak Al Am An Ao Ap (itK (den 1 (qm [.t 4] KK) (qv KK)) n K)).trans (congrArg (fun q => qu v0 v7 v8 Ai Aj Ak Al Am An Ao Ap q (qbq K) (qbs KK)) (funext fun v8 => funext fun Ai => funext fun Aj => funext fun Ak => funext fun Al => funext fun Am => funext fun An => funext fun Ao => funext fun Ap => ih v8 Ai Aj Ak Al Am An Ao Ap))
def qdx {R : Type} (KK : AV → Mem → Option R) := subE (R := R) qgp fun t m K => qh (bxC (m.s 0)) (qb3 (gL [t 0] 0) (gI [t 7] 0) (qbq K) (qbs KK) FU (gI [t 8] 0))
theorem qhi {R : Type} (KK : AV → Mem → Option R) : qdh Try.prog (TIof Try.prog) 19 1 (qm [.t 4] KK) (.loop (scOf (qv KK))) (qdx KK) :=
  qkp tabOk follows (qg6 KK) (qbe (by kernel_rfl)) fun t m K => qhh KK _ _ K FU _ _ _ _ _ _ _ _ _
def qhq : Shp := ⟨[(0, .one (.l (.sl 8))), (1, .one (.fn 79 [(0, 0)]))], [.box true (lk qa)]⟩
def qd8 {R : Type} (KK : AV → Mem → Option R) := (fun v4 Ai Aj Ak Al Am An Ao Ap => KK (.int .i64 v4) (qg [(some (.box true [(.bool Ai), (.int .u64 Aj), (.int .u64 Ak), (.int .i64 Al), (.int .i64 Am), (.str An), (.str Ao), (.int .i64 Ap)]))]))
def qc2 {R : Type}  (v0 : List AV) (Ai : Bool) (Aj Ak Al Am : Int) (An Ao : List UInt8) (Ap : Int) (kr : Int → Bool → Int → Int → Int → Int → (List UInt8) → (List UInt8) → Int → Option R) : Option R :=
  (qb3 v0 (v0.length : Int) (fun b0_0q1 b0_1q2 b0_2q3 b0_3q4 b0_4q5 b0_5q6 b0_6q7 b0_7q8 => (kr (-1 : Int) b0_0q1 b0_1q2 b0_2q3 b0_3q4 b0_4q5 b0_5q6 b0_6q7 b0_7q8)) kr FU (0 : Int) Ai Aj Ak Al Am An Ao Ap)
def qbm {R : Type} := hull (qc2 (R := R))
theorem qd9 {R : Type} : qbm (R := R) = qc2 := qk _
def qbb {R : Type} (KK : AV → Mem → Option R) : AC R :=
  .seq (.reg [ao 4 (.mv (.c (.int .i64 0)))]) (.seq (.seq (.reg [ao 6 (.mv 0),
 ao 7 (.len false 6),
 ao 8 (.mv (.c (.int .i64 0)))]) (.block 0 (.seq (.view [.sel [0, 1, 7, 8] [0]]) (.sub (.loop (scOf (qv KK))) (qdx KK))))) (.seq (.reg [ao 4 (.mv (.c (.int .i64 (-1))))]) (.seq (.view [.sel [4] [0]]) (.ret))))
theorem qie {R : Type} (KK : AV → Mem → Option R) : AC.ok Try.prog (TIof Try.prog) 19 1 (qm [.t 4] KK) (qbb KK) := qo (zA (qhi KK) trivial)
theorem qis {R : Type} (KK : AV → Mem → Option R) (v0 : List AV) (Ai : Bool) (Aj Ak Al Am : Int) (An Ao : List UInt8) (Ap : Int) : den 1 (qm [.t 4] KK) (qbb KK) (qj [(0, (.sl 8 v0)), (1, (.func 79 [(.ptr 0 0)]))]) (qg [(some (.box true (qc Ai Aj Ak Al Am An Ao Ap)))]) (kend (qm [.t 4] KK)) = qbm v0 Ai Aj Ak Al Am An Ao Ap (qd8 KK) := by
  rw [qd9]; kernel_rfl
theorem qit : cFn (TIof Try.prog) Try.f88 = some ⟨19, [.t 4], scOf (qbb (R := Unit) (fun _ _ => none))⟩ := by kernel_rfl
theorem qiu {R : Type} (KK : AV → Mem → Option R) : (qbb KK).er = some (scOf (qbb (R := Unit) (fun _ _ => none))) := by kernel_rfl
def qei {R : Type} : List AV → Mem → (AV → Mem → Option R) → Option R := refE qhq fun xs m KK => qh (bxC (m.s 0)) (qbm (gL [(ql xs) 0] 0)) (qd8 KK)
theorem qiv {R : Type} : qe9 Try.prog 88 (qei (R := R)) :=
  qkg (ac := fun KK => qbb KK) tabOk follows Try.func88 (by kernel_rfl) qit (fun KK => qie KK) (fun KK => qiu KK) rfl fun xs m KK => qis KK _ _ _ _ _ _ _ _ _
def qgr : Shp := ⟨[(0, .one (.l (.sl 8))), (1, .one (.fn 79 [(0, 0)]))], [.box true (lk qa)]⟩
def qdq {R : Type} (KK : AV → Mem → Option R) := (fun v4 Ai Aj Ak Al Am An Ao Ap => KK (.bool v4) (qg [(some (.box true [(.bool Ai), (.int .u64 Aj), (.int .u64 Ak), (.int .i64 Al), (.int .i64 Am), (.str An), (.str Ao), (.int .i64 Ap)]))]))
def qct {R : Type}  (v0 : List AV) (Ai : Bool) (Aj Ak Al Am : Int) (An Ao : List UInt8) (Ap : Int) (kr : Bool → Bool → Int → Int → Int → Int → (List UInt8) → (List UInt8) → Int → Option R) : Option R :=
  (qbm v0 Ai Aj Ak Al Am An Ao Ap fun v4q1 b0_0q2 b0_1q3 b0_2q4 b0_3q5 b0_4q6 b0_5q7 b0_6q8 b0_7q9 => (kr (decide (v4q1 ≥ (0 : Int))) b0_0q2 b0_1q3 b0_2q4 b0_3q5 b0_4q6 b0_5q7 b0_6q8 b0_7q9))
def qb4 {R : Type} := hull (qct (R := R))
theorem qdr {R : Type} : qb4 (R := R) = qct := qk _
def qw {R : Type} (KK : AV → Mem → Option R) : AC R :=
  .seq (.reg [ao 4 (.mv (.c (.bool false)))]) (.seq (.reg [ao 5 (.mv 0),
 ao 6 (.mv 1),
 .st (.sel [5, 6] [0]),
 .callr (po 7 (.call 88 [5, 6])) 88 qei,
 ao 8 (.bin .geq 7 (.c (.int .i64 0))),
 ao 4 (.mv 8)]) (.seq (.view [.sel [4] [0]]) (.ret)))
theorem qg7 {R : Type} (KK : AV → Mem → Option R) : AC.ok Try.prog (TIof Try.prog) 9 1 (qm [.t 4] KK) (qw KK) := qo (zA qiv trivial)
theorem qhj {R : Type} (KK : AV → Mem → Option R) (v0 : List AV) (Ai : Bool) (Aj Ak Al Am : Int) (An Ao : List UInt8) (Ap : Int) : den 1 (qm [.t 4] KK) (qw KK) (qj [(0, (.sl 8 v0)), (1, (.func 79 [(.ptr 0 0)]))]) (qg [(some (.box true (qc Ai Aj Ak Al Am An Ao Ap)))]) (kend (qm [.t 4] KK)) = qb4 v0 Ai Aj Ak Al Am An Ao Ap (qdq KK) := by
  rw [qdr]; kernel_rfl
theorem qhk : cFn (TIof Try.prog) Try.f68 = some ⟨9, [.t 4], scOf (qw (R := Unit) (fun _ _ => none))⟩ := by kernel_rfl
theorem qhl {R : Type} (KK : AV → Mem → Option R) : (qw KK).er = some (scOf (qw (R := Unit) (fun _ _ => none))) := by kernel_rfl
def qdy {R : Type} : List AV → Mem → (AV → Mem → Option R) → Option R := refE qgr fun xs m KK => qh (bxC (m.s 0)) (qb4 (gL [(ql xs) 0] 0)) (qdq KK)
theorem qhm {R : Type} : qe9 Try.prog 68 (qdy (R := R)) :=
  qkg (ac := fun KK => qw KK) tabOk follows Try.func68 (by kernel_rfl) qhk (fun KK => qg7 KK) (fun KK => qhl KK) rfl fun xs m KK => qhj KK _ _ _ _ _ _ _ _ _
def q41 : Shp := ⟨[(0, .one (.l (.sl 8))), (1, .st (lk qa))], []⟩
def qqh (v0 : List AV) (Aq : Bool) (Ar As At Ay : Int) (Az A0 : List UInt8) (A1 : Int) : Option Bool :=
  (qb4 v0 Aq Ar As At Ay Az A0 A1 fun v4q1 b0_0q2 b0_1q3 b0_2q4 b0_3q5 b0_4q6 b0_5q7 b0_6q8 b0_7q9 => (some v4q1))
def qgi := hull qqh
theorem qvc : qgi = qqh := qk _
def qqi : AC Bool :=
  .seq (.reg [ao 3 (.box 1),
 ao 4 (.mv (.c (.bool false)))]) (.seq (.reg [ao 5 (.mv 0),
 ao 6 (.mkf 79 [3]),
 .st (.sel [5, 6] [0]),
 .callr (po 7 (.call 68 [5, 6])) 68 qdy,
 ao 4 (.mv 7)]) (.ret))
theorem q67 : AC.ok Try.prog (TIof Try.prog) 8 0 (kret [.t 4] decB) qqi := qo (zA qhm trivial)
theorem q74 (v0 : List AV) (Aq : Bool) (Ar As At Ay : Int) (Az A0 : List UInt8) (A1 : Int) : den 0 (kret [.t 4] decB) qqi (qj [(0, (.sl 8 v0)), (1, .agg (qc Aq Ar As At Ay Az A0 A1))]) (qg []) (kend (kret [.t 4] decB)) = qgi v0 Aq Ar As At Ay Az A0 A1 := by
  rw [qvc]; kernel_rfl
theorem q75 : cFn (TIof Try.prog) Try.f44 = some ⟨8, [.t 4], scOf qqi⟩ := by kernel_rfl
def q76 (xs : List AV) : Option Bool := qh ((ql xs) 1).cells (qgi (gL [(ql xs) 0] 0))
def qnv {R : Type} : List AV → (AV → Option R) → Option R := entF q41 q76 AV.bool
theorem qw8 {R : Type} : qd Try.prog 44 (qnv (R := R)) :=
  qcd tabOk follows Try.func44 (by kernel_rfl) q75 hdeB q67 (qbe (by kernel_rfl)) fun xs => q74 _ _ _ _ _ _ _ _ _
def qvd  (v0 : List AV) (v3 : Int) (v10 : List AV) (v11 v12 : Int) (Ai : Bool) (Aj Ak Al Am : Int) (An Ao : List UInt8) (Ap : Int) (K : Ex → Env → Mem → Option Int) := (fun (_ : Unit) => K .norm (qj [(0, (.sl 8 v0)), (3, (.int .i64 v3)), (4, (.ptr 0 0)), (10, (.sl 8 v10)), (11, (.int .i64 v11)), (12, (.int .i64 v12))]) (qg [(some (.box true (qc Ai Aj Ak Al Am An Ao Ap)))]))
def q42 : Shp := ⟨[(0, .one (.l (.sl 8))), (3, .one (.l (.i .i64))), (4, .one (.ptr 0 0)), (10, .one (.l (.sl 8))), (11, .one (.l (.i .i64))), (12, .one (.l (.i .i64)))], [.box true (lk qa)]⟩
def qqj  (v0 : List AV) (v3 : Int) (v10 : List AV) (v11 v12 : Int) (Ai : Bool) (Aj Ak Al Am : Int) (An Ao : List UInt8) (Ap : Int) (kn : Unit → Option Int) : Option Int :=
  (bif (decide (v3 > (0 : Int))) then (oB (ixB v0 (IntKind.i64.wrap (v3 - (1 : Int)))) fun y1 => (bif fitC qa y1.cells then (oB (qlm Ai Aj Ak Al (gB y1.cells 0) (gI y1.cells 1) (gI y1.cells 2) (gI y1.cells 3)) fun r2 => (bif (decide (r2 < (0 : Int))) then (some (7 : Int)) else (bif (r2 == (0 : Int)) then (some (12 : Int)) else (kn ())))) else none)) else (kn ()))
def qnw := hull (qqj)
theorem qve : qnw = qqj := qk _
def qmb : AC Int :=
  .seq (.reg [ao 22 (.mv 3),
 ao 23 (.bin .gtr 22 (.c (.int .i64 0)))]) (.cond 23 (.seq (.draw [] [ao 24 (.fa 0 4),
 ao 25 (.load true 4 24),
 ao 26 (.mv 0),
 ao 27 (.mv 3),
 ao 28 (.bin .sub 27 (.c (.int .i64 1))),
 ao 29 (.ia 8 26 28),
 .et 29 qa,
 ao 30 (.fa 0 29),
 ao 31 (.load true 4 30)] [.call (po 32 (.call 40 [25, 31])) 40 qqg,
 ao 6 (.mv 32)]) (.seq (.seq (.reg [ao 33 (.mv 6),
 ao 34 (.bin .lss 33 (.c (.int .i64 0)))]) (.cond 34 (.seq (.reg [ao 2 (.mv (.c (.int .i64 7)))]) (.ret)) (.skip))) (.seq (.reg [ao 35 (.mv 6),
 ao 36 (.bin .eql 35 (.c (.int .i64 0)))]) (.cond 36 (.seq (.reg [ao 2 (.mv (.c (.int .i64 12)))]) (.ret)) (.seq (.skip) (.view [.sel [0, 3, 4, 10, 11, 12] [0]])))))) (.seq (.skip) (.view [.sel [0, 3, 4, 10, 11, 12] [0]])))
theorem q68 : AC.ok Try.prog (TIof Try.prog) 43 0 (kret [.t 2] (decI .i64)) qmb := qo (zA (qd.ok q0k) (zA rfl trivial))
theorem q77 (v0 : List AV) (v3 : Int) (v10 : List AV) (v11 v12 : Int) (Ai : Bool) (Aj Ak Al Am : Int) (An Ao : List UInt8) (Ap : Int) (K : Ex → Env → Mem → Option Int) : den 0 (kret [.t 2] (decI .i64)) qmb (qj [(0, (.sl 8 v0)), (3, (.int .i64 v3)), (4, (.ptr 0 0)), (10, (.sl 8 v10)), (11, (.int .i64 v11)), (12, (.int .i64 v12))]) (qg [(some (.box true (qc Ai Aj Ak Al Am An Ao Ap)))]) K = qnw v0 v3 v10 v11 v12 Ai Aj Ak Al Am An Ao Ap (qvd v0 v3 v10 v11 v12 Ai Aj Ak Al Am An Ao Ap K) := by
  rw [qve]; kernel_rfl
def qw9 := subE (R := Int) q42 fun t m K => qh (bxC (m.s 0)) (qnw (gL [t 0] 0) (gI [t 3] 0) (gL [t 10] 0) (gI [t 11] 0) (gI [t 12] 0)) (qvd (gL [t 0] 0) (gI [t 3] 0) (gL [t 10] 0) (gI [t 11] 0) (gI [t 12] 0) (gB (bxC (m.s 0)) 0) (gI (bxC (m.s 0)) 1) (gI (bxC (m.s 0)) 2) (gI (bxC (m.s 0)) 3) (gI (bxC (m.s 0)) 4) (gS (bxC (m.s 0)) 5) (gS (bxC (m.s 0)) 6) (gI (bxC (m.s 0)) 7) K)
theorem q78 : qdh Try.prog (TIof Try.prog) 43 0 (kret [.t 2] (decI .i64)) (scOf qmb) (qw9) :=
  qgx tabOk follows (q68) (qbe (by kernel_rfl)) fun t m K => q77 _ _ _ _ _ _ _ _ _ _ _ _ _ K
def qk6  (K : Ex → Env → Mem → Option Int) := (fun (_ : Unit) => K (.exit 0) (qj []) (qg []))
def q43 : Shp := ⟨[(0, .one (.l (.sl 8))), (10, .one (.l (.sl 8))), (11, .one (.l (.i .i64))), (12, .one (.l (.i .i64)))], []⟩
def qpb (v0 v10 : List AV) (v11 v12 : Int) : Env := qj [(0, (.sl 8 v0)), (10, (.sl 8 v10)), (11, (.int .i64 v11)), (12, (.int .i64 v12))]
def qpc (v0 v10 : List AV) (v11 v12 : Int) : Mem := qg []
def qgs  (v0 v10 : List AV) (v11 v12 : Int) (next : Int → Option Int) (kx0 : Unit → Option Int) : Option Int :=
  (bif (decide (v12 < v11)) then (oB (ixB v10 v12) fun y1 => (bif fitC qa y1.cells then (oB (qls (gB y1.cells 0) (gI y1.cells 1) (gI y1.cells 2) (gI y1.cells 3) (gI y1.cells 4) (gS y1.cells 5) (gS y1.cells 6) (gI y1.cells 7)) fun r2 => (bif (r2 != (0 : Int)) then (some r2) else (qnw v0 v12 v10 v11 v12 (gB y1.cells 0) (gI y1.cells 1) (gI y1.cells 2) (gI y1.cells 3) (gI y1.cells 4) (gS y1.cells 5) (gS y1.cells 6) (gI y1.cells 7) (fun (_ : Unit) => (oB (cutI v0 none (some v12)) fun s3 => (oB (qgi s3 (gB y1.cells 0) (gI y1.cells 1) (gI y1.cells 2) (gI y1.cells 3) (gI y1.cells 4) (gS y1.cells 5) (gS y1.cells 6) (gI y1.cells 7)) fun r4 => (bif r4 then (some (24 : Int)) else (next (IntKind.i64.wrap (v12 + (1 : Int))))))))))) else none)) else (kx0 ()))
def qmc  (v0 v10 : List AV) (v11 : Int) (kx0 : Unit → Option Int) : Nat → Int → Option Int
  | 0 => (fun _ => none)
  | n + 1 => (fun v12 => qgs v0 v10 v11 v12 (qmc v0 v10 v11 kx0 n) kx0)
def qnx := hull (qmc)
theorem qvf : qnx = qmc := qk _
def qgt : AC Int :=
  .seq (.reg [ao 13 (.bin .lss 12 11)]) (.seq (.cond 13 (.skip) (.seq (.view [.sel [] []]) (.exit 0))) (.seq (.block 1 (.seq (.reg [ao 14 (.mv 12),
 ao 15 (.ia 8 10 12),
 .st (.etac 15 qa),
 ao 16 (.load true 8 15),
 ao 4 (.alloc [(.bool false), (.int .u64 0), (.int .u64 0), (.int .i64 0), (.int .i64 0), (.str []), (.str []), (.int .i64 0)]),
 ao 3 (.mv 14),
 an (.store 8 4 16)]) (.seq (.seq (.reg [ao 17 (.load true 8 4),
 .call (po 18 (.call 43 [17])) 43 qst,
 ao 5 (.mv 18)]) (.seq (.reg [ao 19 (.mv 5),
 ao 20 (.bin .neq 19 (.c (.int .i64 0)))]) (.cond 20 (.seq (.reg [ao 21 (.mv 5),
 ao 2 (.mv 21)]) (.ret)) (.skip)))) (.seq (.seq (.view [.sel [0, 3, 4, 10, 11, 12] [0]]) (.sub (scOf qmb) qw9)) (.seq (.draw [] [ao 37 (.mv 0),
 ao 38 (.mv 3),
 ao 39 (.slc 8 37 none (some 38)),
 ao 40 (.load true 8 4)] [.call (po 41 (.call 44 [39, 40])) 44 qnv]) (.cond 41 (.seq (.reg [ao 2 (.mv (.c (.int .i64 24)))]) (.ret)) (.skip))))))) (.seq (.reg [ao 42 (.bin .add 12 (.c (.int .i64 1))),
 ao 12 (.mv 42)]) (.view [.sel [0, 10, 11, 12] []]))))
theorem q69 : AC.ok Try.prog (TIof Try.prog) 43 0 (kret [.t 2] (decI .i64)) qgt := qo (zA (qd.ok q3e) (zA q78 (zA (qd.ok qw8) (zA rfl trivial))))
theorem q44 (v0 v10 : List AV) (v11 v12 : Int) (K : Ex → Env → Mem → Option Int) : den 0 (kret [.t 2] (decI .i64)) qgt (qpb v0 v10 v11 v12) (qpc v0 v10 v11 v12) K = qgs v0 v10 v11 v12 (fun z_v12 => K .norm (qpb v0 v10 v11 z_v12) (qpc v0 v10 v11 z_v12)) (qk6 K) := by kernel_rfl
theorem q79 (v0 v10 : List AV) (v11 : Int) (K : Ex → Env → Mem → Option Int) : ∀ (n : Nat) (v12 : Int), qi2 (den 0 (kret [.t 2] (decI .i64)) qgt) n (qpb v0 v10 v11 v12) (qpc v0 v10 v11 v12) K = qnx v0 v10 v11 (qk6 K) n v12 := by
  rw [qvf]
  intro n
  induction n with
  | zero => intros; rfl
  | succ n ih =>
 intro v12
 exact (q44 v0 v10 v11 v12 (itK (den 0 (kret [.t 2] (decI .i64)) qgt) n K)).trans (congrArg (fun q => qgs v0 v10 v11 v12 q (qk6 K)) (funext fun v12 => ih v12))
def qxa := subE (R := Int) q43 fun t m K => qnx (gL [t 0] 0) (gL [t 10] 0) (gI [t 11] 0) (qk6 K) FU (gI [t 12] 0)
theorem q8a : qdh Try.prog (TIof Try.prog) 43 0 (kret [.t 2] (decI .i64)) (.loop (scOf qgt)) (qxa) :=
  qkp tabOk follows (q69) (qbe (by kernel_rfl)) fun t m K => q79 _ _ _ K FU _
def qbc8 : Shp := ⟨[(0, .one (.l (.sl 8)))], []⟩
def qv1 (v0 : List AV) : Option Int :=
  (bif (decide ((v0.length : Int) > (512 : Int))) then (some (9 : Int)) else (qnx v0 v0 (v0.length : Int) (fun (_ : Unit) => (some (0 : Int))) FU (0 : Int)))
def qfe := hull qv1
theorem q15 : qfe = qv1 := qk _
def qv2 : AC Int :=
  .seq (.reg [ao 2 (.mv (.c (.int .i64 0)))]) (.seq (.seq (.reg [ao 7 (.mv 0),
 ao 8 (.len false 7),
 ao 9 (.bin .gtr 8 (.c (.int .i64 512)))]) (.cond 9 (.seq (.reg [ao 2 (.mv (.c (.int .i64 9)))]) (.ret)) (.skip))) (.seq (.seq (.reg [ao 10 (.mv 0),
 ao 11 (.len false 10),
 ao 12 (.mv (.c (.int .i64 0)))]) (.block 0 (.seq (.view [.sel [0, 10, 11, 12] []]) (.sub (.loop (scOf qgt)) qxa)))) (.seq (.reg [ao 2 (.mv (.c (.int .i64 0)))]) (.ret))))
theorem qbe0 : AC.ok Try.prog (TIof Try.prog) 43 0 (kret [.t 2] (decI .i64)) qv2 := qo (zA q8a trivial)
theorem qbht (v0 : List AV) : den 0 (kret [.t 2] (decI .i64)) qv2 (qj [(0, (.sl 8 v0))]) (qg []) (kend (kret [.t 2] (decI .i64))) = qfe v0 := by
  rw [q15]; kernel_rfl
theorem qbhu : cFn (TIof Try.prog) Try.f11 = some ⟨43, [.t 2], scOf qv2⟩ := by kernel_rfl
def qbhv (xs : List AV) : Option Int := qfe (gL [(ql xs) 0] 0)
def qgj {R : Type} : List AV → (AV → Option R) → Option R := entF qbc8 qbhv (AV.int .i64)
theorem qln {R : Type} : qd Try.prog 11 (qgj (R := R)) :=
  qcd tabOk follows Try.func11 (by kernel_rfl) qbhu hdeI qbe0 (qbe (by kernel_rfl)) fun xs => qbht _
def qbe1 : Shp := ⟨[(0, .one (.l (.i .u64))), (1, .one (.l (.i .i64)))], []⟩
def q6s (v0 v1 : Int) : Option AV :=
  (some (.agg [(.bool false), (.int .u64 (0 : Int)), (.int .u64 v0), (.int .i64 v1)]))
def qmp := hull q6s
theorem q3j : qmp = q6s := qk _
def qya : AC AV :=
  .seq (.reg [ao 4 (.alloc [(.bool false), (.int .u64 0), (.int .u64 0), (.int .i64 0)])]) (.seq (.reg [ao 5 (.mv 0),
 ao 6 (.build [(.bool false), (.int .u64 0), (.int .u64 0)] [(2, (1, 5))]),
 ao 7 (.mv 1),
 ao 8 (.build [(.bool false), (.int .u64 0), (.int .u64 0), (.int .i64 0)] [(0, (3, 6)), (3, (1, 7))]),
 an (.store 4 4 8)]) (.ret))
theorem qbhw : AC.ok Try.prog (TIof Try.prog) 9 0 (kret [(.cell 4 true 4)] (decT [.b, (.i .u64), (.i .u64), (.i .i64)])) qya := qo trivial
theorem qbke (v0 v1 : Int) : den 0 (kret [(.cell 4 true 4)] (decT [.b, (.i .u64), (.i .u64), (.i .i64)])) qya (qj [(0, (.int .u64 v0)), (1, (.int .i64 v1))]) (qg []) (kend (kret [(.cell 4 true 4)] (decT [.b, (.i .u64), (.i .u64), (.i .i64)]))) = qmp v0 v1 := by
  rw [q3j]; kernel_rfl
theorem qbkf : cFn (TIof Try.prog) Try.f87 = some ⟨9, [(.cell 4 true 4)], scOf qya⟩ := by kernel_rfl
def qbkg (xs : List AV) : Option AV := qmp (gI [(ql xs) 0] 0) (gI [(ql xs) 1] 0)
def qpm {R : Type} : List AV → (AV → Option R) → Option R := entF qbe1 qbkg (qog (.st [.b, (.i .u64), (.i .u64), (.i .i64)]))
theorem qyb {R : Type} : qd Try.prog 87 (qpm (R := R)) :=
  qcd tabOk follows Try.func87 (by kernel_rfl) qbkf hdeT qbhw (qbe (by kernel_rfl)) fun xs => qbke _ _
def q45 : Shp := ⟨[], []⟩
def qqk : Option (List AV) :=
  (oB (qmp (167772160 : Int) (8 : Int)) fun r1 => (oB (qmp (167772160 : Int) (24 : Int)) fun r2 => (oB (qmp (167772165 : Int) (32 : Int)) fun r3 => (bif hd ([(.agg [(.bool (gB r1.cells 0)), (.int .u64 (gI r1.cells 1)), (.int .u64 (gI r1.cells 2)), (.int .i64 (gI r1.cells 3)), (.int .i64 (1 : Int)), (.str ([97, 108, 108] : List UInt8)), (.str ([] : List UInt8)), (.int .i64 (0 : Int))]), (.agg [(.bool (gB r2.cells 0)), (.int .u64 (gI r2.cells 1)), (.int .u64 (gI r2.cells 2)), (.int .i64 (gI r2.cells 3)), (.int .i64 (2 : Int)), (.str ([110, 101, 116] : List UInt8)), (.str ([] : List UInt8)), (.int .i64 (0 : Int))]), (.agg [(.bool (gB r3.cells 0)), (.int .u64 (gI r3.cells 1)), (.int .u64 (gI r3.cells 2)), (.int .i64 (gI r3.cells 3)), (.int .i64 (3 : Int)), (.str ([104, 111, 115, 116] : List UInt8)), (.str ([] : List UInt8)), (.int .i64 (0 : Int))])] : List AV) (([(.agg [(.bool (gB r1.cells 0)), (.int .u64 (gI r1.cells 1)), (.int .u64 (gI r1.cells 2)), (.int .i64 (gI r1.cells 3)), (.int .i64 (1 : Int)), (.str ([97, 108, 108] : List UInt8)), (.str ([] : List UInt8)), (.int .i64 (0 : Int))]), (.agg [(.bool (gB r2.cells 0)), (.int .u64 (gI r2.cells 1)), (.int .u64 (gI r2.cells 2)), (.int .i64 (gI r2.cells 3)), (.int .i64 (2 : Int)), (.str ([110, 101, 116] : List UInt8)), (.str ([] : List UInt8)), (.int .i64 (0 : Int))]), (.agg [(.bool (gB r3.cells 0)), (.int .u64 (gI r3.cells 1)), (.int .u64 (gI r3.cells 2)), (.int .i64 (gI r3.cells 3)), (.int .i64 (3 : Int)), (.str ([104, 111, 115, 116] : List UInt8)), (.str ([] : List UInt8)), (.int .i64 (0 : Int))])] : List AV).length) then (some ([(.agg [(.bool (gB r1.cells 0)), (.int .u64 (gI r1.cells 1)), (.int .u64 (gI r1.cells 2)), (.int .i64 (gI r1.cells 3)), (.int .i64 (1 : Int)), (.str ([97, 108, 108] : List UInt8)), (.str ([] : List UInt8)), (.int .i64 (0 : Int))]), (.agg [(.bool (gB r2.cells 0)), (.int .u64 (gI r2.cells 1)), (.int .u64 (gI r2.cells 2)), (.int .i64 (gI r2.cells 3)), (.int .i64 (2 : Int)), (.str ([110, 101, 116] : List UInt8)), (.str ([] : List UInt8)), (.int .i64 (0 : Int))]), (.agg [(.bool (gB r3.cells 0)), (.int .u64 (gI r3.cells 1)), (.int .u64 (gI r3.cells 2)), (.int .i64 (gI r3.cells 3)), (.int .i64 (3 : Int)), (.str ([104, 111, 115, 116] : List UInt8)), (.str ([] : List UInt8)), (.int .i64 (0 : Int))])] : List AV)) else none))))
def qlt := hull qqk
theorem qvg : qlt = qqk := qk _
def qql : AC (List AV) :=
  .seq (.reg [ao 0 (.mv (.c .nils))]) (.seq (.reg [.call (po 1 (.call 87 [(.c (.int .u64 167772160)), (.c (.int .i64 8))])) 87 qpm,
 ao 2 (.build [(.bool false), (.int .u64 0), (.int .u64 0), (.int .i64 0), (.int .i64 0), (.str []), (.str []), (.int .i64 0)] [(0, (4, 1)), (4, (1, (.c (.int .i64 1)))), (5, (1, (.c (.str [97, 108, 108]))))]),
 .call (po 3 (.call 87 [(.c (.int .u64 167772160)), (.c (.int .i64 24))])) 87 qpm,
 ao 4 (.build [(.bool false), (.int .u64 0), (.int .u64 0), (.int .i64 0), (.int .i64 0), (.str []), (.str []), (.int .i64 0)] [(0, (4, 3)), (4, (1, (.c (.int .i64 2)))), (5, (1, (.c (.str [110, 101, 116]))))]),
 .call (po 5 (.call 87 [(.c (.int .u64 167772165)), (.c (.int .i64 32))])) 87 qpm,
 ao 6 (.build [(.bool false), (.int .u64 0), (.int .u64 0), (.int .i64 0), (.int .i64 0), (.str []), (.str []), (.int .i64 0)] [(0, (4, 5)), (4, (1, (.c (.int .i64 3)))), (5, (1, (.c (.str [104, 111, 115, 116]))))]),
 ao 7 (.bsl 8 [2, 4, 6]),
 ao 0 (.mv 7)]) (.ret))
theorem q7a : AC.ok Try.prog (TIof Try.prog) 8 0 (kret [.t 0] (decF true 8)) qql := qo (zA (qd.ok qyb) (zA (qd.ok qyb) (zA (qd.ok qyb) trivial)))
theorem q8b : den 0 (kret [.t 0] (decF true 8)) qql (qj []) (qg []) (kend (kret [.t 0] (decF true 8))) = qlt := by
  rw [qvg]; kernel_rfl
theorem q8c : cFn (TIof Try.prog) Try.f49 = some ⟨8, [.t 0], scOf qql⟩ := by kernel_rfl
def q8d (xs : List AV) : Option (List AV) := qlt
def qt4 {R : Type} : List AV → (AV → Option R) → Option R := entF q45 q8d (AV.fr true 8)
theorem q8e {R : Type} : qd Try.prog 49 (qt4 (R := R)) :=
  qcd tabOk follows Try.func49 (by kernel_rfl) q8c hdeF q7a (qbe (by kernel_rfl)) fun xs => q8b
def q8f : Shp := ⟨[(0, .st (lk qa)), (1, .one (.ptr 0 0))], [.box true (lk qi)]⟩
def qy0 {R : Type} (KK : AV → Mem → Option R) := (fun v3 Ai Aj Ak Al => KK (.bool v3) (qg [(some (.box true [(.bool Ai), (.int .u64 Aj), (.int .u64 Ak), (.int .i64 Al)]))]))
def qsw {R : Type}  (Aa : Bool) (Ab Ac Ad Ae : Int) (Af Ag : List UInt8) (Ah : Int) (Ai : Bool) (Aj Ak Al : Int) (kr : Bool → Bool → Int → Int → Int → Option R) : Option R :=
  (kr ((Aa == Ai) && ((Ab == Aj) && ((Ac == Ak) && ((Ad == Al) && true)))) Ai Aj Ak Al)
def qq2 {R : Type} := hull (qsw (R := R))
theorem qy1 {R : Type} : qq2 (R := R) = qsw := qk _
def qjj {R : Type} (KK : AV → Mem → Option R) : AC R :=
  .seq (.reg [ao 2 (.box 0),
 ao 3 (.mv (.c (.bool false)))]) (.seq (.reg [ao 4 (.fa 0 2),
 ao 5 (.load true 4 4),
 ao 6 (.load true 4 1),
 ao 7 (.eq false true [.b, (.i .u64), (.i .u64), (.i .i64)] 5 6),
 ao 3 (.mv 7)]) (.seq (.view [.sel [3] [0]]) (.ret)))
theorem qbay {R : Type} (KK : AV → Mem → Option R) : AC.ok Try.prog (TIof Try.prog) 8 1 (qm [.t 3] KK) (qjj KK) := qo trivial
theorem qbc9 {R : Type} (KK : AV → Mem → Option R) (Aa : Bool) (Ab Ac Ad Ae : Int) (Af Ag : List UInt8) (Ah : Int) (Ai : Bool) (Aj Ak Al : Int) : den 1 (qm [.t 3] KK) (qjj KK) (qj [(0, .agg (qc Aa Ab Ac Ad Ae Af Ag Ah)), (1, (.ptr 0 0))]) (qg [(some (.box true (qb Ai Aj Ak Al)))]) (kend (qm [.t 3] KK)) = qq2 Aa Ab Ac Ad Ae Af Ag Ah Ai Aj Ak Al (qy0 KK) := by
  rw [qy1]; kernel_rfl
theorem qbda : cFn (TIof Try.prog) Try.f89 = some ⟨8, [.t 3], scOf (qjj (R := Unit) (fun _ _ => none))⟩ := by kernel_rfl
theorem qbdb {R : Type} (KK : AV → Mem → Option R) : (qjj KK).er = some (scOf (qjj (R := Unit) (fun _ _ => none))) := by kernel_rfl
def q0n {R : Type} : List AV → Mem → (AV → Mem → Option R) → Option R := refE q8f fun xs m KK => qe (bxC (m.s 0)) (qh ((ql xs) 0).cells (qq2)) (qy0 KK)
theorem qbdc {R : Type} : qe9 Try.prog 89 (q0n (R := R)) :=
  qkg (ac := fun KK => qjj KK) tabOk follows Try.func89 (by kernel_rfl) qbda (fun KK => qbay KK) (fun KK => qbdb KK) rfl fun xs m KK => qbc9 KK _ _ _ _ _ _ _ _ _ _ _ _
def qb5 {R : Type}  (K : Ex → Env → Mem → Option R) := (fun z_b0_0 z_b0_1 z_b0_2 z_b0_3 => K (.exit 0) (qj []) (qg [(some (.box true (qb z_b0_0 z_b0_1 z_b0_2 z_b0_3)))]))
def qb7 {R : Type} (KK : AV → Mem → Option R) := (fun v4 Ai Aj Ak Al => KK (.int .i64 v4) (qg [(some (.box true [(.bool Ai), (.int .u64 Aj), (.int .u64 Ak), (.int .i64 Al)]))]))
def qif : Shp := ⟨[(0, .one (.l (.sl 8))), (1, .one (.fn 89 [(0, 0)])), (7, .one (.l (.i .i64))), (8, .one (.l (.i .i64)))], [.box true (lk qi)]⟩
def qc3 (v0 : List AV) (v7 v8 : Int) (Ai : Bool) (Aj Ak Al : Int) : Env := qj [(0, (.sl 8 v0)), (1, (.func 89 [(.ptr 0 0)])), (7, (.int .i64 v7)), (8, (.int .i64 v8))]
def qc4 (v0 : List AV) (v7 v8 : Int) (Ai : Bool) (Aj Ak Al : Int) : Mem := qg [(some (.box true (qb Ai Aj Ak Al)))]
def qbf {R : Type}  (v0 : List AV) (v7 v8 : Int) (Ai : Bool) (Aj Ak Al : Int) (next : Int → Bool → Int → Int → Int → Option R) (kx0 : Bool → Int → Int → Int → Option R) (kr : Int → Bool → Int → Int → Int → Option R) : Option R :=
  (bif (decide (v8 < v7)) then (oB (ixB v0 v8) fun y1 => (bif fitC qa y1.cells then (qq2 (gB y1.cells 0) (gI y1.cells 1) (gI y1.cells 2) (gI y1.cells 3) (gI y1.cells 4) (gS y1.cells 5) (gS y1.cells 6) (gI y1.cells 7) Ai Aj Ak Al fun v3q2 b0_0q3 b0_1q4 b0_2q5 b0_3q6 => (bif v3q2 then (kr v8 b0_0q3 b0_1q4 b0_2q5 b0_3q6) else (next (IntKind.i64.wrap (v8 + (1 : Int))) b0_0q3 b0_1q4 b0_2q5 b0_3q6))) else none)) else (kx0 Ai Aj Ak Al))
def qcb {R : Type}  (v0 : List AV) (v7 : Int) (kx0 : Bool → Int → Int → Int → Option R) (kr : Int → Bool → Int → Int → Int → Option R) : Nat → Int → Bool → Int → Int → Int → Option R
  | 0 => (fun _ _ _ _ _ => none)
  | n + 1 => (fun v8 Ai Aj Ak Al => qbf v0 v7 v8 Ai Aj Ak Al (qcb v0 v7 kx0 kr n) kx0 kr)
def qce {R : Type} := hull (qcb (R := R))
theorem qej {R : Type} : qce (R := R) = qcb := qk _
def qbg {R : Type} (KK : AV → Mem → Option R) : AC R :=
  .seq (.reg [ao 9 (.bin .lss 8 7)]) (.seq (.cond 9 (.skip) (.seq (.view [.sel [] [0]]) (.exit 0))) (.seq (.block 1 (.seq (.reg [ao 10 (.mv 8),
 ao 5 (.mv 10)]) (.seq (.reg [ao 11 (.mv 1),
 ao 12 (.mv 0),
 ao 13 (.mv 5),
 ao 14 (.ia 8 12 13),
 .st (.etac 14 qa),
 ao 15 (.load true 8 14),
 .st (.sel [0, 1, 5, 7, 8, 11, 15] [0]),
 .callr (po 16 (.callv 11 [15])) 89 q0n]) (.cond 16 (.seq (.reg [ao 17 (.mv 5),
 ao 4 (.mv 17)]) (.seq (.view [.sel [4] [0]]) (.ret))) (.skip))))) (.seq (.reg [ao 18 (.bin .add 8 (.c (.int .i64 1))),
 ao 8 (.mv 18)]) (.view [.sel [0, 1, 7, 8] [0]]))))
theorem qiw {R : Type} (KK : AV → Mem → Option R) : AC.ok Try.prog (TIof Try.prog) 19 1 (qm [.t 4] KK) (qbg KK) := qo (zA qbdc trivial)
theorem qig {R : Type} (KK : AV → Mem → Option R) (v0 : List AV) (v7 v8 : Int) (Ai : Bool) (Aj Ak Al : Int) (K : Ex → Env → Mem → Option R) : den 1 (qm [.t 4] KK) (qbg KK) (qc3 v0 v7 v8 Ai Aj Ak Al) (qc4 v0 v7 v8 Ai Aj Ak Al) K = qbf v0 v7 v8 Ai Aj Ak Al (fun z_v8 z_b0_0 z_b0_1 z_b0_2 z_b0_3 => K .norm (qc3 v0 v7 z_v8 z_b0_0 z_b0_1 z_b0_2 z_b0_3) (qc4 v0 v7 z_v8 z_b0_0 z_b0_1 z_b0_2 z_b0_3)) (qb5 K) (qb7 KK) := by kernel_rfl
theorem qi4 {R : Type} (KK : AV → Mem → Option R) (v0 : List AV) (v7 : Int) (K : Ex → Env → Mem → Option R) : ∀ (n : Nat) (v8 : Int) (Ai : Bool) (Aj Ak Al : Int), qi2 (den 1 (qm [.t 4] KK) (qbg KK)) n (qc3 v0 v7 v8 Ai Aj Ak Al) (qc4 v0 v7 v8 Ai Aj Ak Al) K = qce v0 v7 (qb5 K) (qb7 KK) n v8 Ai Aj Ak Al := by
  rw [qej]
  intro n
  induction n with
  | zero => intros; rfl
  | succ n ih =>
 intro v8 Ai Aj Ak Al
 exact (qig KK v0 v7 v8 Ai Aj Ak Al (itK (den 1 (qm [.t 4] KK) (qbg KK)) n K)).trans (congrArg (fun q => qbf v0 v7 v8 Ai Aj Ak Al q (qb5 K) (qb7 KK)) (funext fun v8 => funext fun Ai => funext fun Aj => funext fun Ak => funext fun Al => ih v8 Ai Aj Ak Al))
def qen {R : Type} (KK : AV → Mem → Option R) := subE (R := R) qif fun t m K => qe (bxC (m.s 0)) (qce (gL [t 0] 0) (gI [t 7] 0) (qb5 K) (qb7 KK) FU (gI [t 8] 0))
theorem qi5 {R : Type} (KK : AV → Mem → Option R) : qdh Try.prog (TIof Try.prog) 19 1 (qm [.t 4] KK) (.loop (scOf (qbg KK))) (qen KK) :=
  qkp tabOk follows (qiw KK) (qbe (by kernel_rfl)) fun t m K => qi4 KK _ _ K FU _ _ _ _ _
def qjk : Shp := ⟨[(0, .one (.l (.sl 8))), (1, .one (.fn 89 [(0, 0)]))], [.box true (lk qi)]⟩
def qev {R : Type} (KK : AV → Mem → Option R) := (fun v4 Ai Aj Ak Al => KK (.int .i64 v4) (qg [(some (.box true [(.bool Ai), (.int .u64 Aj), (.int .u64 Ak), (.int .i64 Al)]))]))
def qde {R : Type}  (v0 : List AV) (Ai : Bool) (Aj Ak Al : Int) (kr : Int → Bool → Int → Int → Int → Option R) : Option R :=
  (qce v0 (v0.length : Int) (fun b0_0q1 b0_1q2 b0_2q3 b0_3q4 => (kr (-1 : Int) b0_0q1 b0_1q2 b0_2q3 b0_3q4)) kr FU (0 : Int) Ai Aj Ak Al)
def qch {R : Type} := hull (qde (R := R))
theorem qew {R : Type} : qch (R := R) = qde := qk _
def qbj {R : Type} (KK : AV → Mem → Option R) : AC R :=
  .seq (.reg [ao 4 (.mv (.c (.int .i64 0)))]) (.seq (.seq (.reg [ao 6 (.mv 0),
 ao 7 (.len false 6),
 ao 8 (.mv (.c (.int .i64 0)))]) (.block 0 (.seq (.view [.sel [0, 1, 7, 8] [0]]) (.sub (.loop (scOf (qbg KK))) (qen KK))))) (.seq (.reg [ao 4 (.mv (.c (.int .i64 (-1))))]) (.seq (.view [.sel [4] [0]]) (.ret))))
theorem qjy {R : Type} (KK : AV → Mem → Option R) : AC.ok Try.prog (TIof Try.prog) 19 1 (qm [.t 4] KK) (qbj KK) := qo (zA (qi5 KK) trivial)
theorem qj7 {R : Type} (KK : AV → Mem → Option R) (v0 : List AV) (Ai : Bool) (Aj Ak Al : Int) : den 1 (qm [.t 4] KK) (qbj KK) (qj [(0, (.sl 8 v0)), (1, (.func 89 [(.ptr 0 0)]))]) (qg [(some (.box true (qb Ai Aj Ak Al)))]) (kend (qm [.t 4] KK)) = qch v0 Ai Aj Ak Al (qev KK) := by
  rw [qew]; kernel_rfl
theorem qj8 : cFn (TIof Try.prog) Try.f88 = some ⟨19, [.t 4], scOf (qbj (R := Unit) (fun _ _ => none))⟩ := by kernel_rfl
theorem qj9 {R : Type} (KK : AV → Mem → Option R) : (qbj KK).er = some (scOf (qbj (R := Unit) (fun _ _ => none))) := by kernel_rfl
def qey {R : Type} : List AV → Mem → (AV → Mem → Option R) → Option R := refE qjk fun xs m KK => qe (bxC (m.s 0)) (qch (gL [(ql xs) 0] 0)) (qev KK)
theorem qka {R : Type} : qe9 Try.prog 88 (qey (R := R)) :=
  qkg (ac := fun KK => qbj KK) tabOk follows Try.func88 (by kernel_rfl) qj8 (fun KK => qjy KK) (fun KK => qj9 KK) rfl fun xs m KK => qj7 KK _ _ _ _ _
def qbdd : Shp := ⟨[(0, .one (.l (.sl 8))), (1, .st (lk qi))], []⟩
def qv3 (v0 : List AV) (Aq : Bool) (Ar As At : Int) : Option Int :=
  (qch v0 Aq Ar As At fun v4q1 b0_0q2 b0_1q3 b0_2q4 b0_3q5 => (some v4q1))
def qff := hull qv3
theorem q16 : qff = qv3 := qk _
def qv4 : AC Int :=
  .seq (.reg [ao 3 (.box 1),
 ao 4 (.mv (.c (.int .i64 0)))]) (.seq (.reg [ao 5 (.mv 0),
 ao 6 (.mkf 89 [3]),
 .st (.sel [5, 6] [0]),
 .callr (po 7 (.call 88 [5, 6])) 88 qey,
 ao 4 (.mv 7)]) (.ret))
theorem qbe2 : AC.ok Try.prog (TIof Try.prog) 8 0 (kret [.t 4] (decI .i64)) qv4 := qo (zA qka trivial)
theorem qbhx (v0 : List AV) (Aq : Bool) (Ar As At : Int) : den 0 (kret [.t 4] (decI .i64)) qv4 (qj [(0, (.sl 8 v0)), (1, .agg (qb Aq Ar As At))]) (qg []) (kend (kret [.t 4] (decI .i64))) = qff v0 Aq Ar As At := by
  rw [q16]; kernel_rfl
theorem qbhy : cFn (TIof Try.prog) Try.f51 = some ⟨8, [.t 4], scOf qv4⟩ := by kernel_rfl
def qbhz (xs : List AV) : Option Int := qe ((ql xs) 1).cells (qff (gL [(ql xs) 0] 0))
def qfg {R : Type} : List AV → (AV → Option R) → Option R := entF qbdd qbhz (AV.int .i64)
theorem qjl {R : Type} : qd Try.prog 51 (qfg (R := R)) :=
  qcd tabOk follows Try.func51 (by kernel_rfl) qbhy hdeI qbe2 (qbe (by kernel_rfl)) fun xs => qbhx _ _ _ _ _
def q3k : Shp := ⟨[(0, .st (lk qa)), (1, .one (.ptr 0 0))], [.box true (lk qi)]⟩
def qt5 {R : Type} (KK : AV → Mem → Option R) := (fun v3 Ai Aj Ak Al => KK (.bool v3) (qg [(some (.box true [(.bool Ai), (.int .u64 Aj), (.int .u64 Ak), (.int .i64 Al)]))]))
def qpd {R : Type}  (Aa : Bool) (Ab Ac Ad Ae : Int) (Af Ag : List UInt8) (Ah : Int) (Ai : Bool) (Aj Ak Al : Int) (kr : Bool → Bool → Int → Int → Int → Option R) : Option R :=
  (oB (qf7 Aa Ab Ac Ad Ai Aj Ak Al) fun r1 => (kr r1 Ai Aj Ak Al))
def qkz {R : Type} := hull (qpd (R := R))
theorem qt6 {R : Type} : qkz (R := R) = qpd := qk _
def qf2 {R : Type} (KK : AV → Mem → Option R) : AC R :=
  .seq (.reg [ao 2 (.box 0),
 ao 3 (.mv (.c (.bool false)))]) (.seq (.reg [ao 4 (.fa 0 2),
 ao 5 (.load true 4 4),
 ao 6 (.load true 4 1),
 .call (po 7 (.call 64 [5, 6])) 64 qfy,
 ao 3 (.mv 7)]) (.seq (.view [.sel [3] [0]]) (.ret)))
theorem q46 {R : Type} (KK : AV → Mem → Option R) : AC.ok Try.prog (TIof Try.prog) 8 1 (qm [.t 3] KK) (qf2 KK) := qo (zA (qd.ok qku) trivial)
theorem q7b {R : Type} (KK : AV → Mem → Option R) (Aa : Bool) (Ab Ac Ad Ae : Int) (Af Ag : List UInt8) (Ah : Int) (Ai : Bool) (Aj Ak Al : Int) : den 1 (qm [.t 3] KK) (qf2 KK) (qj [(0, .agg (qc Aa Ab Ac Ad Ae Af Ag Ah)), (1, (.ptr 0 0))]) (qg [(some (.box true (qb Ai Aj Ak Al)))]) (kend (qm [.t 3] KK)) = qkz Aa Ab Ac Ad Ae Af Ag Ah Ai Aj Ak Al (qt5 KK) := by
  rw [qt6]; kernel_rfl
theorem q7c : cFn (TIof Try.prog) Try.f90 = some ⟨8, [.t 3], scOf (qf2 (R := Unit) (fun _ _ => none))⟩ := by kernel_rfl
theorem q7d {R : Type} (KK : AV → Mem → Option R) : (qf2 KK).er = some (scOf (qf2 (R := Unit) (fun _ _ => none))) := by kernel_rfl
def qvh {R : Type} : List AV → Mem → (AV → Mem → Option R) → Option R := refE q3k fun xs m KK => qe (bxC (m.s 0)) (qh ((ql xs) 0).cells (qkz)) (qt5 KK)
theorem q7e {R : Type} : qe9 Try.prog 90 (qvh (R := R)) :=
  qkg (ac := fun KK => qf2 KK) tabOk follows Try.func90 (by kernel_rfl) q7c (fun KK => q46 KK) (fun KK => q7d KK) rfl fun xs m KK => q7b KK _ _ _ _ _ _ _ _ _ _ _ _
def qbt {R : Type}  (K : Ex → Env → Mem → Option R) := (fun z_b0_0 z_b0_1 z_b0_2 z_b0_3 => K (.exit 0) (qj []) (qg [(some (.box true (qb z_b0_0 z_b0_1 z_b0_2 z_b0_3)))]))
def qbx {R : Type} (KK : AV → Mem → Option R) := (fun v4 Ai Aj Ak Al => KK (.int .i64 v4) (qg [(some (.box true [(.bool Ai), (.int .u64 Aj), (.int .u64 Ak), (.int .i64 Al)]))]))
def qg8 : Shp := ⟨[(0, .one (.l (.sl 8))), (1, .one (.fn 90 [(0, 0)])), (7, .one (.l (.i .i64))), (8, .one (.l (.i .i64)))], [.box true (lk qi)]⟩
def qcu (v0 : List AV) (v7 v8 : Int) (Ai : Bool) (Aj Ak Al : Int) : Env := qj [(0, (.sl 8 v0)), (1, (.func 90 [(.ptr 0 0)])), (7, (.int .i64 v7)), (8, (.int .i64 v8))]
def qcv (v0 : List AV) (v7 v8 : Int) (Ai : Bool) (Aj Ak Al : Int) : Mem := qg [(some (.box true (qb Ai Aj Ak Al)))]
def qx {R : Type}  (v0 : List AV) (v7 v8 : Int) (Ai : Bool) (Aj Ak Al : Int) (next : Int → Bool → Int → Int → Int → Option R) (kx0 : Bool → Int → Int → Int → Option R) (kr : Int → Bool → Int → Int → Int → Option R) : Option R :=
  (bif (decide (v8 < v7)) then (oB (ixB v0 v8) fun y1 => (bif fitC qa y1.cells then (qkz (gB y1.cells 0) (gI y1.cells 1) (gI y1.cells 2) (gI y1.cells 3) (gI y1.cells 4) (gS y1.cells 5) (gS y1.cells 6) (gI y1.cells 7) Ai Aj Ak Al fun v3q2 b0_0q3 b0_1q4 b0_2q5 b0_3q6 => (bif v3q2 then (kr v8 b0_0q3 b0_1q4 b0_2q5 b0_3q6) else (next (IntKind.i64.wrap (v8 + (1 : Int))) b0_0q3 b0_1q4 b0_2q5 b0_3q6))) else none)) else (kx0 Ai Aj Ak Al))
def qby {R : Type}  (v0 : List AV) (v7 : Int) (kx0 : Bool → Int → Int → Int → Option R) (kr : Int → Bool → Int → Int → Int → Option R) : Nat → Int → Bool → Int → Int → Int → Option R
  | 0 => (fun _ _ _ _ _ => none)
  | n + 1 => (fun v8 Ai Aj Ak Al => qx v0 v7 v8 Ai Aj Ak Al (qby v0 v7 kx0 kr n) kx0 kr)
def qb8 {R : Type} := hull (qby (R := R))
theorem qdz {R : Type} : qb8 (R := R) = qby := qk _
def qy {R : Type} (KK : AV → Mem → Option R) : AC R :=
  .seq (.reg [ao 9 (.bin .lss 8 7)]) (.seq (.cond 9 (.skip) (.seq (.view [.sel [] [0]]) (.exit 0))) (.seq (.block 1 (.seq (.reg [ao 10 (.mv 8),
 ao 5 (.mv 10)]) (.seq (.reg [ao 11 (.mv 1),
 ao 12 (.mv 0),
 ao 13 (.mv 5),
 ao 14 (.ia 8 12 13),
 .st (.etac 14 qa),
 ao 15 (.load true 8 14),
 .st (.sel [0, 1, 5, 7, 8, 11, 15] [0]),
 .callr (po 16 (.callv 11 [15])) 90 qvh]) (.cond 16 (.seq (.reg [ao 17 (.mv 5),
 ao 4 (.mv 17)]) (.seq (.view [.sel [4] [0]]) (.ret))) (.skip))))) (.seq (.reg [ao 18 (.bin .add 8 (.c (.int .i64 1))),
 ao 8 (.mv 18)]) (.view [.sel [0, 1, 7, 8] [0]]))))
theorem qhn {R : Type} (KK : AV → Mem → Option R) : AC.ok Try.prog (TIof Try.prog) 19 1 (qm [.t 4] KK) (qy KK) := qo (zA q7e trivial)
theorem qg9 {R : Type} (KK : AV → Mem → Option R) (v0 : List AV) (v7 v8 : Int) (Ai : Bool) (Aj Ak Al : Int) (K : Ex → Env → Mem → Option R) : den 1 (qm [.t 4] KK) (qy KK) (qcu v0 v7 v8 Ai Aj Ak Al) (qcv v0 v7 v8 Ai Aj Ak Al) K = qx v0 v7 v8 Ai Aj Ak Al (fun z_v8 z_b0_0 z_b0_1 z_b0_2 z_b0_3 => K .norm (qcu v0 v7 z_v8 z_b0_0 z_b0_1 z_b0_2 z_b0_3) (qcv v0 v7 z_v8 z_b0_0 z_b0_1 z_b0_2 z_b0_3)) (qbt K) (qbx KK) := by kernel_rfl
theorem qhr {R : Type} (KK : AV → Mem → Option R) (v0 : List AV) (v7 : Int) (K : Ex → Env → Mem → Option R) : ∀ (n : Nat) (v8 : Int) (Ai : Bool) (Aj Ak Al : Int), qi2 (den 1 (qm [.t 4] KK) (qy KK)) n (qcu v0 v7 v8 Ai Aj Ak Al) (qcv v0 v7 v8 Ai Aj Ak Al) K = qb8 v0 v7 (qbt K) (qbx KK) n v8 Ai Aj Ak Al := by
  rw [qdz]
  intro n
  induction n with
  | zero => intros; rfl
  | succ n ih =>
 intro v8 Ai Aj Ak Al
 exact (qg9 KK v0 v7 v8 Ai Aj Ak Al (itK (den 1 (qm [.t 4] KK) (qy KK)) n K)).trans (congrArg (fun q => qx v0 v7 v8 Ai Aj Ak Al q (qbt K) (qbx KK)) (funext fun v8 => funext fun Ai => funext fun Aj => funext fun Ak => funext fun Al => ih v8 Ai Aj Ak Al))
def qd3 {R : Type} (KK : AV → Mem → Option R) := subE (R := R) qg8 fun t m K => qe (bxC (m.s 0)) (qb8 (gL [t 0] 0) (gI [t 7] 0) (qbt K) (qbx KK) FU (gI [t 8] 0))
theorem qhs {R : Type} (KK : AV → Mem → Option R) : qdh Try.prog (TIof Try.prog) 19 1 (qm [.t 4] KK) (.loop (scOf (qy KK))) (qd3 KK) :=
  qkp tabOk follows (qhn KK) (qbe (by kernel_rfl)) fun t m K => qhr KK _ _ K FU _ _ _ _ _
def qih : Shp := ⟨[(0, .one (.l (.sl 8))), (1, .one (.fn 90 [(0, 0)]))], [.box true (lk qi)]⟩
def qek {R : Type} (KK : AV → Mem → Option R) := (fun v4 Ai Aj Ak Al => KK (.int .i64 v4) (qg [(some (.box true [(.bool Ai), (.int .u64 Aj), (.int .u64 Ak), (.int .i64 Al)]))]))
def qc8 {R : Type}  (v0 : List AV) (Ai : Bool) (Aj Ak Al : Int) (kr : Int → Bool → Int → Int → Int → Option R) : Option R :=
  (qb8 v0 (v0.length : Int) (fun b0_0q1 b0_1q2 b0_2q3 b0_3q4 => (kr (-1 : Int) b0_0q1 b0_1q2 b0_2q3 b0_3q4)) kr FU (0 : Int) Ai Aj Ak Al)
def qbn {R : Type} := hull (qc8 (R := R))
theorem qel {R : Type} : qbn (R := R) = qc8 := qk _
def qbh {R : Type} (KK : AV → Mem → Option R) : AC R :=
  .seq (.reg [ao 4 (.mv (.c (.int .i64 0)))]) (.seq (.seq (.reg [ao 6 (.mv 0),
 ao 7 (.len false 6),
 ao 8 (.mv (.c (.int .i64 0)))]) (.block 0 (.seq (.view [.sel [0, 1, 7, 8] [0]]) (.sub (.loop (scOf (qy KK))) (qd3 KK))))) (.seq (.reg [ao 4 (.mv (.c (.int .i64 (-1))))]) (.seq (.view [.sel [4] [0]]) (.ret))))
theorem qix {R : Type} (KK : AV → Mem → Option R) : AC.ok Try.prog (TIof Try.prog) 19 1 (qm [.t 4] KK) (qbh KK) := qo (zA (qhs KK) trivial)
theorem qi6 {R : Type} (KK : AV → Mem → Option R) (v0 : List AV) (Ai : Bool) (Aj Ak Al : Int) : den 1 (qm [.t 4] KK) (qbh KK) (qj [(0, (.sl 8 v0)), (1, (.func 90 [(.ptr 0 0)]))]) (qg [(some (.box true (qb Ai Aj Ak Al)))]) (kend (qm [.t 4] KK)) = qbn v0 Ai Aj Ak Al (qek KK) := by
  rw [qel]; kernel_rfl
theorem qi7 : cFn (TIof Try.prog) Try.f88 = some ⟨19, [.t 4], scOf (qbh (R := Unit) (fun _ _ => none))⟩ := by kernel_rfl
theorem qi8 {R : Type} (KK : AV → Mem → Option R) : (qbh KK).er = some (scOf (qbh (R := Unit) (fun _ _ => none))) := by kernel_rfl
def qeo {R : Type} : List AV → Mem → (AV → Mem → Option R) → Option R := refE qih fun xs m KK => qe (bxC (m.s 0)) (qbn (gL [(ql xs) 0] 0)) (qek KK)
theorem qi9 {R : Type} : qe9 Try.prog 88 (qeo (R := R)) :=
  qkg (ac := fun KK => qbh KK) tabOk follows Try.func88 (by kernel_rfl) qi7 (fun KK => qix KK) (fun KK => qi8 KK) rfl fun xs m KK => qi6 KK _ _ _ _ _
def qha : Shp := ⟨[(0, .one (.l (.sl 8))), (1, .one (.fn 90 [(0, 0)]))], [.box true (lk qi)]⟩
def qd0 {R : Type} (KK : AV → Mem → Option R) := (fun v4 Ai Aj Ak Al => KK (.bool v4) (qg [(some (.box true [(.bool Ai), (.int .u64 Aj), (.int .u64 Ak), (.int .i64 Al)]))]))
def qcw {R : Type}  (v0 : List AV) (Ai : Bool) (Aj Ak Al : Int) (kr : Bool → Bool → Int → Int → Int → Option R) : Option R :=
  (qbn v0 Ai Aj Ak Al fun v4q1 b0_0q2 b0_1q3 b0_2q4 b0_3q5 => (kr (decide (v4q1 ≥ (0 : Int))) b0_0q2 b0_1q3 b0_2q4 b0_3q5))
def qb9 {R : Type} := hull (qcw (R := R))
theorem qd1 {R : Type} : qb9 (R := R) = qcw := qk _
def qz {R : Type} (KK : AV → Mem → Option R) : AC R :=
  .seq (.reg [ao 4 (.mv (.c (.bool false)))]) (.seq (.reg [ao 5 (.mv 0),
 ao 6 (.mv 1),
 .st (.sel [5, 6] [0]),
 .callr (po 7 (.call 88 [5, 6])) 88 qeo,
 ao 8 (.bin .geq 7 (.c (.int .i64 0))),
 ao 4 (.mv 8)]) (.seq (.view [.sel [4] [0]]) (.ret)))
theorem qho {R : Type} (KK : AV → Mem → Option R) : AC.ok Try.prog (TIof Try.prog) 9 1 (qm [.t 4] KK) (qz KK) := qo (zA qi9 trivial)
theorem qht {R : Type} (KK : AV → Mem → Option R) (v0 : List AV) (Ai : Bool) (Aj Ak Al : Int) : den 1 (qm [.t 4] KK) (qz KK) (qj [(0, (.sl 8 v0)), (1, (.func 90 [(.ptr 0 0)]))]) (qg [(some (.box true (qb Ai Aj Ak Al)))]) (kend (qm [.t 4] KK)) = qb9 v0 Ai Aj Ak Al (qd0 KK) := by
  rw [qd1]; kernel_rfl
theorem qhu : cFn (TIof Try.prog) Try.f68 = some ⟨9, [.t 4], scOf (qz (R := Unit) (fun _ _ => none))⟩ := by kernel_rfl
theorem qhv {R : Type} (KK : AV → Mem → Option R) : (qz KK).er = some (scOf (qz (R := Unit) (fun _ _ => none))) := by kernel_rfl
def qd4 {R : Type} : List AV → Mem → (AV → Mem → Option R) → Option R := refE qha fun xs m KK => qe (bxC (m.s 0)) (qb9 (gL [(ql xs) 0] 0)) (qd0 KK)
theorem qhw {R : Type} : qe9 Try.prog 68 (qd4 (R := R)) :=
  qkg (ac := fun KK => qz KK) tabOk follows Try.func68 (by kernel_rfl) qhu (fun KK => qho KK) (fun KK => qhv KK) rfl fun xs m KK => qht KK _ _ _ _ _
def q7f : Shp := ⟨[(0, .one (.l (.sl 8))), (1, .st (lk qi))], []⟩
def qrg (v0 : List AV) (Aq : Bool) (Ar As At : Int) : Option Bool :=
  (qb9 v0 Aq Ar As At fun v4q1 b0_0q2 b0_1q3 b0_2q4 b0_3q5 => (some v4q1))
def qhx := hull qrg
theorem qxb : qhx = qrg := qk _
def qrh : AC Bool :=
  .seq (.reg [ao 3 (.box 1),
 ao 4 (.mv (.c (.bool false)))]) (.seq (.reg [ao 5 (.mv 0),
 ao 6 (.mkf 90 [3]),
 .st (.sel [5, 6] [0]),
 .callr (po 7 (.call 68 [5, 6])) 68 qd4,
 ao 4 (.mv 7)]) (.ret))
theorem q8g : AC.ok Try.prog (TIof Try.prog) 8 0 (kret [.t 4] decB) qrh := qo (zA qhw trivial)
theorem qbaz (v0 : List AV) (Aq : Bool) (Ar As At : Int) : den 0 (kret [.t 4] decB) qrh (qj [(0, (.sl 8 v0)), (1, .agg (qb Aq Ar As At))]) (qg []) (kend (kret [.t 4] decB)) = qhx v0 Aq Ar As At := by
  rw [qxb]; kernel_rfl
theorem qba0 : cFn (TIof Try.prog) Try.f52 = some ⟨8, [.t 4], scOf qrh⟩ := by kernel_rfl
def qba1 (xs : List AV) : Option Bool := qe ((ql xs) 1).cells (qhx (gL [(ql xs) 0] 0))
def qlz {R : Type} : List AV → (AV → Option R) → Option R := entF q7f qba1 AV.bool
theorem qri {R : Type} : qd Try.prog 52 (qlz (R := R)) :=
  qcd tabOk follows Try.func52 (by kernel_rfl) qba0 hdeB q8g (qbe (by kernel_rfl)) fun xs => qbaz _ _ _ _ _
def qbv (l : List AV) : Option (List AV) := q9z 80 l
def qe2 {R : Type} (xs : List AV) (K : AV → Option R) : Option R := q57 8 80 xs K
theorem qkb {R : Type} : qd Try.prog 93 (qe2 (R := R)) := qbs1 (ρ := qbd9 93 4 22 34) tabOk (qbqg follows "slices.Clone[[]ddi/api.Block,ddi/api.Block]" (by kernel_rfl) (by kernel_rfl) (by kernel_rfl) (by kernel_rfl) (by kernel_rfl) (by kernel_rfl) (by kernel_rfl) (by kernel_rfl)) (by kernel_rfl) (by decide) (by decide)
def q8h {R : Type} (vs : List AV) (m : Mem) (K : AV → Mem → Option R) : Option R := q2m 8 vs m K
theorem qbll {R : Type} : qe9 Try.prog 95 (q8h (R := R)) := qbqh (ρ := q90 95 0 3 4 22 34) tabOk (qbpc follows "slices.Delete[[]ddi/api.Block,ddi/api.Block]" (by kernel_rfl) (by kernel_rfl) (by kernel_rfl) (by kernel_rfl) (by kernel_rfl) (by kernel_rfl) (by kernel_rfl) (by kernel_rfl) (by kernel_rfl) (by kernel_rfl) (by kernel_rfl) (by kernel_rfl) (by kernel_rfl) (by kernel_rfl)) (by kernel_rfl) (by decide)
def q8i : Shp := ⟨[(0, .one (.l (.sl 8))), (1, .one (.l (.i .i64)))], []⟩
def qsx (v0 : List AV) (v1 : Int) : Option (List AV) :=
  (oB (qbv v0) fun r1 => (bif hd r1 r1.length then (oB (q4o r1 v1 (IntKind.i64.wrap (v1 + (1 : Int)))) fun r2 => (bif hd r2 r2.length then (some r2) else none)) else none))
def qfq := hull qsx
theorem qy2 : qfq = qsx := qk _
def qsy : AC (List AV) :=
  .seq (.reg [ao 4 (.mv (.c .nils))]) (.seq (.reg [ao 5 (.mv 0),
 .call (po 6 (.call 93 [5])) 93 qe2,
 ao 7 (.mv 1),
 ao 8 (.mv 1),
 ao 9 (.bin .add 8 (.c (.int .i64 1))),
 .callr (po 10 (.call 95 [6, 7, 9])) 95 q8h,
 ao 4 (.mv 10)]) (.ret))
theorem qba2 : AC.ok Try.prog (TIof Try.prog) 11 0 (kret [.t 4] (decF true 8)) qsy := qo (zA (qd.ok qkb) (zA qbll trivial))
theorem qbde (v0 : List AV) (v1 : Int) : den 0 (kret [.t 4] (decF true 8)) qsy (qj [(0, (.sl 8 v0)), (1, (.int .i64 v1))]) (qg []) (kend (kret [.t 4] (decF true 8))) = qfq v0 v1 := by
  rw [qy2]; kernel_rfl
theorem qbdf : cFn (TIof Try.prog) Try.f56 = some ⟨11, [.t 4], scOf qsy⟩ := by kernel_rfl
def qbdg (xs : List AV) : Option (List AV) := qfq (gL [(ql xs) 0] 0) (gI [(ql xs) 1] 0)
def qkc {R : Type} : List AV → (AV → Option R) → Option R := entF q8i qbdg (AV.fr true 8)
theorem qny {R : Type} : qd Try.prog 56 (qkc (R := R)) :=
  qcd tabOk follows Try.func56 (by kernel_rfl) qbdf hdeF qba2 (qbe (by kernel_rfl)) fun xs => qbde _ _
def qrj (z : AV) : Option ((List AV) × Int) := cond (qnn [(.one (.sl 8)), (.one (.i .i64))] z) (some (aL (gC (tpL z) 0), aI (gC (tpL z) 1))) none
def qba3 (r : (List AV) × Int) : AV := .tup [.sl 8 r.1, .int .i64 r.2]
def qba4 : Shp := ⟨[(0, .one (.l (.sl 8))), (1, .st (lk qi))], []⟩
def qt7 (v0 : List AV) (Aq : Bool) (Ar As At : Int) : Option ((List AV) × Int) :=
  (oB (qff v0 Aq Ar As At) fun r1 => (bif (decide (r1 < (0 : Int))) then (some (([] : List AV), (11 : Int))) else (oB (qhx v0 Aq Ar As At) fun r2 => (bif r2 then (some (([] : List AV), (25 : Int))) else (oB (qfq v0 r1) fun r3 => (some (r3, (0 : Int))))))))
def qip := hull qt7
theorem q0o : qip = qt7 := qk _
def qt8 : AC ((List AV) × Int) :=
  .seq (.reg [ao 3 (.box 1),
 ao 4 (.mv (.c .nils)),
 ao 5 (.mv (.c (.int .i64 0)))]) (.seq (.reg [ao 7 (.mv 0),
 ao 8 (.load true 4 3),
 .call (po 9 (.call 51 [7, 8])) 51 qfg,
 ao 6 (.mv 9)]) (.seq (.seq (.reg [ao 10 (.mv 6),
 ao 11 (.bin .lss 10 (.c (.int .i64 0)))]) (.cond 11 (.seq (.reg [ao 4 (.mv (.c .nils)),
 ao 5 (.mv (.c (.int .i64 11)))]) (.seq (.view [.eta 4 (.one (.sl 8))]) (.ret))) (.skip))) (.seq (.seq (.reg [ao 12 (.mv 0),
 ao 13 (.load true 4 3),
 .call (po 14 (.call 52 [12, 13])) 52 qlz]) (.cond 14 (.seq (.reg [ao 4 (.mv (.c .nils)),
 ao 5 (.mv (.c (.int .i64 25)))]) (.seq (.view [.eta 4 (.one (.sl 8))]) (.ret))) (.skip))) (.seq (.reg [ao 15 (.mv 0),
 ao 16 (.mv 6),
 .callc (po 17 (.call 56 [15, 16])) 56 qkc,
 ao 4 (.mv 17),
 ao 5 (.mv (.c (.int .i64 0)))]) (.ret)))))
theorem qbdh : AC.ok Try.prog (TIof Try.prog) 18 0 (kret [.t 4, .t 5] qrj) qt8 := qo (zA (qd.ok qjl) (zA (qd.ok qri) (zA (qd.ok qny) trivial)))
theorem qbe3 (v0 : List AV) (Aq : Bool) (Ar As At : Int) : den 0 (kret [.t 4, .t 5] qrj) qt8 (qj [(0, (.sl 8 v0)), (1, .agg (qb Aq Ar As At))]) (qg []) (kend (kret [.t 4, .t 5] qrj)) = qip v0 Aq Ar As At := by
  rw [q0o]; kernel_rfl
theorem qbe4 : cFn (TIof Try.prog) Try.f17 = some ⟨18, [.t 4, .t 5], scOf qt8⟩ := by kernel_rfl
def qbe5 (xs : List AV) : Option ((List AV) × Int) := qe ((ql xs) 1).cells (qip (gL [(ql xs) 0] 0))
def qmx {R : Type} : List AV → (AV → Option R) → Option R := entF qba4 qbe5 qba3
theorem qt9 {R : Type} : qd Try.prog 17 (qmx (R := R)) :=
  qcd tabOk follows Try.func17 (by kernel_rfl) qbe4 (fun z r h => by
 obtain ⟨h1, h2⟩ := qn h
 cases h2
 exact (qkf h1).symm) qbdh (qbe (by kernel_rfl)) fun xs => qbe3 _ _ _ _ _
def qbe6 : Shp := ⟨[(0, .one (.l (.i .u64))), (1, .one (.l (.i .i64)))], []⟩
def q6t (v0 v1 : Int) : Option AV :=
  (some (.agg [(.bool false), (.int .u64 (0 : Int)), (.int .u64 v0), (.int .i64 v1)]))
def qf8 := hull q6t
theorem q3l : qf8 = q6t := qk _
def qyc : AC AV :=
  .seq (.reg [ao 4 (.alloc [(.bool false), (.int .u64 0), (.int .u64 0), (.int .i64 0)])]) (.seq (.reg [ao 5 (.mv 0),
 ao 6 (.build [(.bool false), (.int .u64 0), (.int .u64 0)] [(2, (1, 5))]),
 ao 7 (.mv 1),
 ao 8 (.build [(.bool false), (.int .u64 0), (.int .u64 0), (.int .i64 0)] [(0, (3, 6)), (3, (1, 7))]),
 an (.store 4 4 8)]) (.ret))
theorem qbh0 : AC.ok Try.prog (TIof Try.prog) 9 0 (kret [(.cell 4 true 4)] (decT [.b, (.i .u64), (.i .u64), (.i .i64)])) qyc := qo trivial
theorem qbkh (v0 v1 : Int) : den 0 (kret [(.cell 4 true 4)] (decT [.b, (.i .u64), (.i .u64), (.i .i64)])) qyc (qj [(0, (.int .u64 v0)), (1, (.int .i64 v1))]) (qg []) (kend (kret [(.cell 4 true 4)] (decT [.b, (.i .u64), (.i .u64), (.i .i64)]))) = qf8 v0 v1 := by
  rw [q3l]; kernel_rfl
theorem qbki : cFn (TIof Try.prog) Try.f50 = some ⟨9, [(.cell 4 true 4)], scOf qyc⟩ := by kernel_rfl
def qbkj (xs : List AV) : Option AV := qf8 (gI [(ql xs) 0] 0) (gI [(ql xs) 1] 0)
def qfz {R : Type} : List AV → (AV → Option R) → Option R := entF qbe6 qbkj (qog (.st [.b, (.i .u64), (.i .u64), (.i .i64)]))
theorem qkv {R : Type} : qd Try.prog 50 (qfz (R := R)) :=
  qcd tabOk follows Try.func50 (by kernel_rfl) qbki hdeT qbh0 (qbe (by kernel_rfl)) fun xs => qbkh _ _
def q7g : Shp := ⟨[(0, .st (lk qa)), (1, .one (.ptr 0 0))], [.box true (lk qa)]⟩
def qxc {R : Type} (KK : AV → Mem → Option R) := (fun v3 Ai Aj Ak Al Am An Ao Ap => KK (.bool v3) (qg [(some (.box true [(.bool Ai), (.int .u64 Aj), (.int .u64 Ak), (.int .i64 Al), (.int .i64 Am), (.str An), (.str Ao), (.int .i64 Ap)]))]))
def qrk {R : Type}  (Aa : Bool) (Ab Ac Ad Ae : Int) (Af Ag : List UInt8) (Ah : Int) (Ai : Bool) (Aj Ak Al Am : Int) (An Ao : List UInt8) (Ap : Int) (kr : Bool → Bool → Int → Int → Int → Int → (List UInt8) → (List UInt8) → Int → Option R) : Option R :=
  (oB (qlm Aa Ab Ac Ad Ai Aj Ak Al) fun r1 => (kr (decide (r1 > (0 : Int))) Ai Aj Ak Al Am An Ao Ap))
def qmd {R : Type} := hull (qrk (R := R))
theorem qxd {R : Type} : qmd (R := R) = qrk := qk _
def qh6 {R : Type} (KK : AV → Mem → Option R) : AC R :=
  .seq (.reg [ao 2 (.box 0),
 ao 3 (.mv (.c (.bool false)))]) (.seq (.reg [ao 4 (.fa 0 2),
 ao 5 (.load true 4 4),
 ao 6 (.fa 0 1),
 ao 7 (.load true 4 6),
 .call (po 8 (.call 40 [5, 7])) 40 qqg,
 ao 9 (.bin .gtr 8 (.c (.int .i64 0))),
 ao 3 (.mv 9)]) (.seq (.view [.sel [3] [0]]) (.ret)))
theorem q8j {R : Type} (KK : AV → Mem → Option R) : AC.ok Try.prog (TIof Try.prog) 10 1 (qm [.t 3] KK) (qh6 KK) := qo (zA (qd.ok q0k) trivial)
theorem qba5 {R : Type} (KK : AV → Mem → Option R) (Aa : Bool) (Ab Ac Ad Ae : Int) (Af Ag : List UInt8) (Ah : Int) (Ai : Bool) (Aj Ak Al Am : Int) (An Ao : List UInt8) (Ap : Int) : den 1 (qm [.t 3] KK) (qh6 KK) (qj [(0, .agg (qc Aa Ab Ac Ad Ae Af Ag Ah)), (1, (.ptr 0 0))]) (qg [(some (.box true (qc Ai Aj Ak Al Am An Ao Ap)))]) (kend (qm [.t 3] KK)) = qmd Aa Ab Ac Ad Ae Af Ag Ah Ai Aj Ak Al Am An Ao Ap (qxc KK) := by
  rw [qxd]; kernel_rfl
theorem qba6 : cFn (TIof Try.prog) Try.f91 = some ⟨10, [.t 3], scOf (qh6 (R := Unit) (fun _ _ => none))⟩ := by kernel_rfl
theorem qba7 {R : Type} (KK : AV → Mem → Option R) : (qh6 KK).er = some (scOf (qh6 (R := Unit) (fun _ _ => none))) := by kernel_rfl
def qy3 {R : Type} : List AV → Mem → (AV → Mem → Option R) → Option R := refE q7g fun xs m KK => qh (bxC (m.s 0)) (qh ((ql xs) 0).cells (qmd)) (qxc KK)
theorem qba8 {R : Type} : qe9 Try.prog 91 (qy3 (R := R)) :=
  qkg (ac := fun KK => qh6 KK) tabOk follows Try.func91 (by kernel_rfl) qba6 (fun KK => q8j KK) (fun KK => qba7 KK) rfl fun xs m KK => qba5 KK _ _ _ _ _ _ _ _ _ _ _ _ _ _ _ _
def qbz {R : Type}  (K : Ex → Env → Mem → Option R) := (fun z_b0_0 z_b0_1 z_b0_2 z_b0_3 z_b0_4 z_b0_5 z_b0_6 z_b0_7 => K (.exit 0) (qj []) (qg [(some (.box true (qc z_b0_0 z_b0_1 z_b0_2 z_b0_3 z_b0_4 z_b0_5 z_b0_6 z_b0_7)))]))
def qb6 {R : Type} (KK : AV → Mem → Option R) := (fun v4 Ai Aj Ak Al Am An Ao Ap => KK (.int .i64 v4) (qg [(some (.box true [(.bool Ai), (.int .u64 Aj), (.int .u64 Ak), (.int .i64 Al), (.int .i64 Am), (.str An), (.str Ao), (.int .i64 Ap)]))]))
def qhy : Shp := ⟨[(0, .one (.l (.sl 8))), (1, .one (.fn 91 [(0, 0)])), (7, .one (.l (.i .i64))), (8, .one (.l (.i .i64)))], [.box true (lk qa)]⟩
def qcz (v0 : List AV) (v7 v8 : Int) (Ai : Bool) (Aj Ak Al Am : Int) (An Ao : List UInt8) (Ap : Int) : Env := qj [(0, (.sl 8 v0)), (1, (.func 91 [(.ptr 0 0)])), (7, (.int .i64 v7)), (8, (.int .i64 v8))]
def qc0 (v0 : List AV) (v7 v8 : Int) (Ai : Bool) (Aj Ak Al Am : Int) (An Ao : List UInt8) (Ap : Int) : Mem := qg [(some (.box true (qc Ai Aj Ak Al Am An Ao Ap)))]
def qbc {R : Type}  (v0 : List AV) (v7 v8 : Int) (Ai : Bool) (Aj Ak Al Am : Int) (An Ao : List UInt8) (Ap : Int) (next : Int → Bool → Int → Int → Int → Int → (List UInt8) → (List UInt8) → Int → Option R) (kx0 : Bool → Int → Int → Int → Int → (List UInt8) → (List UInt8) → Int → Option R) (kr : Int → Bool → Int → Int → Int → Int → (List UInt8) → (List UInt8) → Int → Option R) : Option R :=
  (bif (decide (v8 < v7)) then (oB (ixB v0 v8) fun y1 => (bif fitC qa y1.cells then (qmd (gB y1.cells 0) (gI y1.cells 1) (gI y1.cells 2) (gI y1.cells 3) (gI y1.cells 4) (gS y1.cells 5) (gS y1.cells 6) (gI y1.cells 7) Ai Aj Ak Al Am An Ao Ap fun v3q2 b0_0q3 b0_1q4 b0_2q5 b0_3q6 b0_4q7 b0_5q8 b0_6q9 b0_7q10 => (bif v3q2 then (kr v8 b0_0q3 b0_1q4 b0_2q5 b0_3q6 b0_4q7 b0_5q8 b0_6q9 b0_7q10) else (next (IntKind.i64.wrap (v8 + (1 : Int))) b0_0q3 b0_1q4 b0_2q5 b0_3q6 b0_4q7 b0_5q8 b0_6q9 b0_7q10))) else none)) else (kx0 Ai Aj Ak Al Am An Ao Ap))
def qca {R : Type}  (v0 : List AV) (v7 : Int) (kx0 : Bool → Int → Int → Int → Int → (List UInt8) → (List UInt8) → Int → Option R) (kr : Int → Bool → Int → Int → Int → Int → (List UInt8) → (List UInt8) → Int → Option R) : Nat → Int → Bool → Int → Int → Int → Int → (List UInt8) → (List UInt8) → Int → Option R
  | 0 => (fun _ _ _ _ _ _ _ _ _ => none)
  | n + 1 => (fun v8 Ai Aj Ak Al Am An Ao Ap => qbc v0 v7 v8 Ai Aj Ak Al Am An Ao Ap (qca v0 v7 kx0 kr n) kx0 kr)
def qcc {R : Type} := hull (qca (R := R))
theorem qea {R : Type} : qcc (R := R) = qca := qk _
def qbd {R : Type} (KK : AV → Mem → Option R) : AC R :=
  .seq (.reg [ao 9 (.bin .lss 8 7)]) (.seq (.cond 9 (.skip) (.seq (.view [.sel [] [0]]) (.exit 0))) (.seq (.block 1 (.seq (.reg [ao 10 (.mv 8),
 ao 5 (.mv 10)]) (.seq (.reg [ao 11 (.mv 1),
 ao 12 (.mv 0),
 ao 13 (.mv 5),
 ao 14 (.ia 8 12 13),
 .st (.etac 14 qa),
 ao 15 (.load true 8 14),
 .st (.sel [0, 1, 5, 7, 8, 11, 15] [0]),
 .callr (po 16 (.callv 11 [15])) 91 qy3]) (.cond 16 (.seq (.reg [ao 17 (.mv 5),
 ao 4 (.mv 17)]) (.seq (.view [.sel [4] [0]]) (.ret))) (.skip))))) (.seq (.reg [ao 18 (.bin .add 8 (.c (.int .i64 1))),
 ao 8 (.mv 18)]) (.view [.sel [0, 1, 7, 8] [0]]))))
theorem qii {R : Type} (KK : AV → Mem → Option R) : AC.ok Try.prog (TIof Try.prog) 19 1 (qm [.t 4] KK) (qbd KK) := qo (zA qba8 trivial)
theorem qhz {R : Type} (KK : AV → Mem → Option R) (v0 : List AV) (v7 v8 : Int) (Ai : Bool) (Aj Ak Al Am : Int) (An Ao : List UInt8) (Ap : Int) (K : Ex → Env → Mem → Option R) : den 1 (qm [.t 4] KK) (qbd KK) (qcz v0 v7 v8 Ai Aj Ak Al Am An Ao Ap) (qc0 v0 v7 v8 Ai Aj Ak Al Am An Ao Ap) K = qbc v0 v7 v8 Ai Aj Ak Al Am An Ao Ap (fun z_v8 z_b0_0 z_b0_1 z_b0_2 z_b0_3 z_b0_4 z_b0_5 z_b0_6 z_b0_7 => K .norm (qcz v0 v7 z_v8 z_b0_0 z_b0_1 z_b0_2 z_b0_3 z_b0_4 z_b0_5 z_b0_6 z_b0_7) (qc0 v0 v7 z_v8 z_b0_0 z_b0_1 z_b0_2 z_b0_3 z_b0_4 z_b0_5 z_b0_6 z_b0_7)) (qbz K) (qb6 KK) := by kernel_rfl
theorem qiy {R : Type} (KK : AV → Mem → Option R) (v0 : List AV) (v7 : Int) (K : Ex → Env → Mem → Option R) : ∀ (n : Nat) (v8 : Int) (Ai : Bool) (Aj Ak Al Am : Int) (An Ao : List UInt8) (Ap : Int), qi2 (den 1 (qm [.t 4] KK) (qbd KK)) n (qcz v0 v7 v8 Ai Aj Ak Al Am An Ao Ap) (qc0 v0 v7 v8 Ai Aj Ak Al Am An Ao Ap) K = qcc v0 v7 (qbz K) (qb6 KK) n v8 Ai Aj Ak Al Am An Ao Ap := by
  rw [qea]
  intro n
  induction n with
  | zero => intros; rfl
  | succ n ih =>
 intro v8 Ai Aj Ak Al Am An Ao Ap
 exact (qhz KK v0 v7 v8 Ai Aj Ak Al Am An Ao Ap (itK (den 1 (qm [.t 4] KK) (qbd KK)) n K)).trans (congrArg (fun q => qbc v0 v7 v8 Ai Aj Ak Al Am An Ao Ap q (qbz K) (qb6 KK)) (funext fun v8 => funext fun Ai => funext fun Aj => funext fun Ak => funext fun Al => funext fun Am => funext fun An => funext fun Ao => funext fun Ap => ih v8 Ai Aj Ak Al Am An Ao Ap))
def qem {R : Type} (KK : AV → Mem → Option R) := subE (R := R) qhy fun t m K => qh (bxC (m.s 0)) (qcc (gL [t 0] 0) (gI [t 7] 0) (qbz K) (qb6 KK) FU (gI [t 8] 0))
theorem qiz {R : Type} (KK : AV → Mem → Option R) : qdh Try.prog (TIof Try.prog) 19 1 (qm [.t 4] KK) (.loop (scOf (qbd KK))) (qem KK) :=
  qkp tabOk follows (qii KK) (qbe (by kernel_rfl)) fun t m K => qiy KK _ _ K FU _ _ _ _ _ _ _ _ _
def qja : Shp := ⟨[(0, .one (.l (.sl 8))), (1, .one (.fn 91 [(0, 0)]))], [.box true (lk qa)]⟩
def qer {R : Type} (KK : AV → Mem → Option R) := (fun v4 Ai Aj Ak Al Am An Ao Ap => KK (.int .i64 v4) (qg [(some (.box true [(.bool Ai), (.int .u64 Aj), (.int .u64 Ak), (.int .i64 Al), (.int .i64 Am), (.str An), (.str Ao), (.int .i64 Ap)]))]))
def qdc {R : Type}  (v0 : List AV) (Ai : Bool) (Aj Ak Al Am : Int) (An Ao : List UInt8) (Ap : Int) (kr : Int → Bool → Int → Int → Int → Int → (List UInt8) → (List UInt8) → Int → Option R) : Option R :=
  (qcc v0 (v0.length : Int) (fun b0_0q1 b0_1q2 b0_2q3 b0_3q4 b0_4q5 b0_5q6 b0_6q7 b0_7q8 => (kr (-1 : Int) b0_0q1 b0_1q2 b0_2q3 b0_3q4 b0_4q5 b0_5q6 b0_6q7 b0_7q8)) kr FU (0 : Int) Ai Aj Ak Al Am An Ao Ap)
def qbp {R : Type} := hull (qdc (R := R))
theorem qes {R : Type} : qbp (R := R) = qdc := qk _
def qbi {R : Type} (KK : AV → Mem → Option R) : AC R :=
  .seq (.reg [ao 4 (.mv (.c (.int .i64 0)))]) (.seq (.seq (.reg [ao 6 (.mv 0),
 ao 7 (.len false 6),
 ao 8 (.mv (.c (.int .i64 0)))]) (.block 0 (.seq (.view [.sel [0, 1, 7, 8] [0]]) (.sub (.loop (scOf (qbd KK))) (qem KK))))) (.seq (.reg [ao 4 (.mv (.c (.int .i64 (-1))))]) (.seq (.view [.sel [4] [0]]) (.ret))))
theorem qjm {R : Type} (KK : AV → Mem → Option R) : AC.ok Try.prog (TIof Try.prog) 19 1 (qm [.t 4] KK) (qbi KK) := qo (zA (qiz KK) trivial)
theorem qjz {R : Type} (KK : AV → Mem → Option R) (v0 : List AV) (Ai : Bool) (Aj Ak Al Am : Int) (An Ao : List UInt8) (Ap : Int) : den 1 (qm [.t 4] KK) (qbi KK) (qj [(0, (.sl 8 v0)), (1, (.func 91 [(.ptr 0 0)]))]) (qg [(some (.box true (qc Ai Aj Ak Al Am An Ao Ap)))]) (kend (qm [.t 4] KK)) = qbp v0 Ai Aj Ak Al Am An Ao Ap (qer KK) := by
  rw [qes]; kernel_rfl
theorem qj0 : cFn (TIof Try.prog) Try.f88 = some ⟨19, [.t 4], scOf (qbi (R := Unit) (fun _ _ => none))⟩ := by kernel_rfl
theorem qj1 {R : Type} (KK : AV → Mem → Option R) : (qbi KK).er = some (scOf (qbi (R := Unit) (fun _ _ => none))) := by kernel_rfl
def qex {R : Type} : List AV → Mem → (AV → Mem → Option R) → Option R := refE qja fun xs m KK => qh (bxC (m.s 0)) (qbp (gL [(ql xs) 0] 0)) (qer KK)
theorem qj2 {R : Type} : qe9 Try.prog 88 (qex (R := R)) :=
  qkg (ac := fun KK => qbi KK) tabOk follows Try.func88 (by kernel_rfl) qj0 (fun KK => qjm KK) (fun KK => qj1 KK) rfl fun xs m KK => qjz KK _ _ _ _ _ _ _ _ _
def q8k {R : Type} (vs : List AV) (m : Mem) (K : AV → Mem → Option R) : Option R := q2n 8 80 vs m K
theorem qblm {R : Type} : qe9 Try.prog 92 (q8k (R := R)) := qbqi (ρ := q91 92 102 103 0 3 4 22 34) tabOk (qbpd follows "slices.Insert[[]ddi/api.Block,ddi/api.Block]" (by kernel_rfl) (by kernel_rfl) Try.func102 (by kernel_rfl) (by kernel_rfl) (by kernel_rfl) (by kernel_rfl) (by kernel_rfl) (by kernel_rfl) (by kernel_rfl) (by kernel_rfl) (by kernel_rfl) (by kernel_rfl) (by kernel_rfl) (by kernel_rfl) (by kernel_rfl) (by kernel_rfl) (by kernel_rfl) (by kernel_rfl) (by kernel_rfl)) (by kernel_rfl) (by kernel_rfl) (by decide) (by decide)
def qvi  (v0 : List AV) (Ai : Bool) (Aj Ak Al Am : Int) (An Ao : List UInt8) (Ap : Int) (K : Ex → Env → Mem → Option (List AV)) := (fun z_v5 => K .norm (qj [(0, (.sl 8 v0)), (3, (.ptr 0 0)), (5, (.int .i64 z_v5))]) (qg [(some (.box true (qc Ai Aj Ak Al Am An Ao Ap)))]))
def q47 : Shp := ⟨[(0, .one (.l (.sl 8))), (3, .one (.ptr 0 0)), (5, .one (.l (.i .i64)))], [.box true (lk qa)]⟩
def qqm  (v0 : List AV) (v5 : Int) (Ai : Bool) (Aj Ak Al Am : Int) (An Ao : List UInt8) (Ap : Int) (kn : Int → Option (List AV)) : Option (List AV) :=
  (bif (decide (v5 < (0 : Int))) then (kn (v0.length : Int)) else (kn v5))
def qnz := hull (qqm)
theorem qvj : qnz = qqm := qk _
def qme : AC (List AV) :=
  .seq (.reg [ao 9 (.mv 5),
 ao 10 (.bin .lss 9 (.c (.int .i64 0)))]) (.cond 10 (.seq (.reg [ao 11 (.mv 0),
 ao 12 (.len false 11),
 ao 5 (.mv 12)]) (.view [.sel [0, 3, 5] [0]])) (.seq (.skip) (.view [.sel [0, 3, 5] [0]])))
theorem q7h : AC.ok Try.prog (TIof Try.prog) 19 0 (kret [.t 4] (decF true 8)) qme := qo trivial
theorem q8l (v0 : List AV) (v5 : Int) (Ai : Bool) (Aj Ak Al Am : Int) (An Ao : List UInt8) (Ap : Int) (K : Ex → Env → Mem → Option (List AV)) : den 0 (kret [.t 4] (decF true 8)) qme (qj [(0, (.sl 8 v0)), (3, (.ptr 0 0)), (5, (.int .i64 v5))]) (qg [(some (.box true (qc Ai Aj Ak Al Am An Ao Ap)))]) K = qnz v0 v5 Ai Aj Ak Al Am An Ao Ap (qvi v0 Ai Aj Ak Al Am An Ao Ap K) := by
  rw [qvj]; kernel_rfl
def qxe := subE (R := (List AV)) q47 fun t m K => qh (bxC (m.s 0)) (qnz (gL [t 0] 0) (gI [t 5] 0)) (qvi (gL [t 0] 0) (gB (bxC (m.s 0)) 0) (gI (bxC (m.s 0)) 1) (gI (bxC (m.s 0)) 2) (gI (bxC (m.s 0)) 3) (gI (bxC (m.s 0)) 4) (gS (bxC (m.s 0)) 5) (gS (bxC (m.s 0)) 6) (gI (bxC (m.s 0)) 7) K)
theorem q8m : qdh Try.prog (TIof Try.prog) 19 0 (kret [.t 4] (decF true 8)) (scOf qme) (qxe) :=
  qgx tabOk follows (q7h) (qbe (by kernel_rfl)) fun t m K => q8l _ _ _ _ _ _ _ _ _ _ K
def qba9 : Shp := ⟨[(0, .one (.l (.sl 8))), (1, .st (lk qa))], []⟩
def qua (v0 : List AV) (Aq : Bool) (Ar As At Ay : Int) (Az A0 : List UInt8) (A1 : Int) : Option (List AV) :=
  (qbp v0 Aq Ar As At Ay Az A0 A1 fun v4q1 b0_0q2 b0_1q3 b0_2q4 b0_3q5 b0_4q6 b0_5q7 b0_6q8 b0_7q9 => (qnz v0 v4q1 b0_0q2 b0_1q3 b0_2q4 b0_3q5 b0_4q6 b0_5q7 b0_6q8 b0_7q9 (fun v5q10 => (oB (qbv v0) fun r11 => (bif hd r11 r11.length then (bif hd ([(.agg [(.bool b0_0q2), (.int .u64 b0_1q3), (.int .u64 b0_2q4), (.int .i64 b0_3q5), (.int .i64 b0_4q6), (.str b0_5q7), (.str b0_6q8), (.int .i64 b0_7q9)])] : List AV) (([(.agg [(.bool b0_0q2), (.int .u64 b0_1q3), (.int .u64 b0_2q4), (.int .i64 b0_3q5), (.int .i64 b0_4q6), (.str b0_5q7), (.str b0_6q8), (.int .i64 b0_7q9)])] : List AV).length) then (oB (qwk 80 r11 v5q10 ([(.agg [(.bool b0_0q2), (.int .u64 b0_1q3), (.int .u64 b0_2q4), (.int .i64 b0_3q5), (.int .i64 b0_4q6), (.str b0_5q7), (.str b0_6q8), (.int .i64 b0_7q9)])] : List AV)) fun r12 => (bif hd r12 r12.length then (some r12) else none)) else none) else none)))))
def qgf := hull qua
theorem q0p : qgf = qua := qk _
def qub : AC (List AV) :=
  .seq (.reg [ao 3 (.box 1),
 ao 4 (.mv (.c .nils))]) (.seq (.reg [ao 6 (.mv 0),
 ao 7 (.mkf 91 [3]),
 .st (.sel [0, 3, 6, 7] [0]),
 .callr (po 8 (.call 88 [6, 7])) 88 qex,
 ao 5 (.mv 8)]) (.seq (.seq (.view [.sel [0, 3, 5] [0]]) (.sub (scOf qme) qxe)) (.seq (.draw3 [] [14, 17] [ao 13 (.mv 0),
 .call (po 14 (.call 93 [13])) 93 qe2,
 ao 15 (.mv 5),
 ao 16 (.load true 8 3),
 ao 17 (.bsl 8 [16])] [.callr (po 18 (.call 92 [14, 15, 17])) 92 q8k,
 ao 4 (.mv 18)]) (.ret))))
theorem qbdi : AC.ok Try.prog (TIof Try.prog) 19 0 (kret [.t 4] (decF true 8)) qub := qo (zA qj2 (zA q8m (zA (qd.ok qkb) (zA qblm (zA rfl trivial)))))
theorem qbe7 (v0 : List AV) (Aq : Bool) (Ar As At Ay : Int) (Az A0 : List UInt8) (A1 : Int) : den 0 (kret [.t 4] (decF true 8)) qub (qj [(0, (.sl 8 v0)), (1, .agg (qc Aq Ar As At Ay Az A0 A1))]) (qg []) (kend (kret [.t 4] (decF true 8))) = qgf v0 Aq Ar As At Ay Az A0 A1 := by
  rw [q0p]; kernel_rfl
theorem qbe8 : cFn (TIof Try.prog) Try.f53 = some ⟨19, [.t 4], scOf qub⟩ := by kernel_rfl
def qbe9 (xs : List AV) : Option (List AV) := qh ((ql xs) 1).cells (qgf (gL [(ql xs) 0] 0))
def qk0 {R : Type} : List AV → (AV → Option R) → Option R := entF qba9 qbe9 (AV.fr true 8)
theorem qpn {R : Type} : qd Try.prog 53 (qk0 (R := R)) :=
  qcd tabOk follows Try.func53 (by kernel_rfl) qbe8 hdeF qbdi (qbe (by kernel_rfl)) fun xs => qbe7 _ _ _ _ _ _ _ _ _
def qlo (z : AV) : Option ((List AV) × Int) := cond (qnn [(.one (.sl 8)), (.one (.i .i64))] z) (some (aL (gC (tpL z) 0), aI (gC (tpL z) 1))) none
def qbh1 (r : (List AV) × Int) : AV := .tup [.sl 8 r.1, .int .i64 r.2]
def qy4  (v0 : List AV) (Ai : Bool) (Aj Ak Al Am : Int) (An Ao : List UInt8) (Ap : Int) (K : Ex → Env → Mem → Option ((List AV) × Int)) := (fun z_v25 => K .norm (qj [(0, (.sl 8 v0)), (3, (.ptr 0 0)), (25, (.bool z_v25))]) (qg [(some (.box true (qc Ai Aj Ak Al Am An Ao Ap)))]))
def q8n : Shp := ⟨[(0, .one (.l (.sl 8))), (3, .one (.ptr 0 0))], [.box true (lk qa)]⟩
def qsz  (v0 : List AV) (Ai : Bool) (Aj Ak Al Am : Int) (An Ao : List UInt8) (Ap : Int) (kn : Bool → Option ((List AV) × Int)) : Option ((List AV) × Int) :=
  (oB (qgi v0 Ai Aj Ak Al Am An Ao Ap) fun r1 => (bif r1 then (kn true) else (oB (qhx v0 Ai Aj Ak Al) fun r2 => (kn r2))))
def qq3 := hull (qsz)
theorem qy5 : qq3 = qsz := qk _
def qn0 : AC ((List AV) × Int) :=
  .seq (.reg [ao 17 (.mv 0),
 ao 18 (.load true 8 3),
 .call (po 19 (.call 44 [17, 18])) 44 qnv,
 ao 20 (.mv 19),
 ag 21 20 false (.mv 0),
 ag 22 20 false (.fa 0 3),
 ag 23 20 false (.load true 4 22),
 .call (pg 24 20 false (.call 52 [21, 23])) 52 qlz,
 ao 25 (.pick 20 (.c (.bool true)) 24)]) (.view [.sel [0, 3, 25] [0]])
theorem qbba : AC.ok Try.prog (TIof Try.prog) 32 0 (kret [.t 4, .t 5] qlo) qn0 := qo (zA (qd.ok qw8) (zA (qd.ok qri) trivial))
theorem qbdj (v0 : List AV) (Ai : Bool) (Aj Ak Al Am : Int) (An Ao : List UInt8) (Ap : Int) (K : Ex → Env → Mem → Option ((List AV) × Int)) : den 0 (kret [.t 4, .t 5] qlo) qn0 (qj [(0, (.sl 8 v0)), (3, (.ptr 0 0))]) (qg [(some (.box true (qc Ai Aj Ak Al Am An Ao Ap)))]) K = qq3 v0 Ai Aj Ak Al Am An Ao Ap (qy4 v0 Ai Aj Ak Al Am An Ao Ap K) := by
  rw [qy5]; kernel_rfl
def q0q := subE (R := (List AV) × Int) q8n fun t m K => qh (bxC (m.s 0)) (qq3 (gL [t 0] 0)) (qy4 (gL [t 0] 0) (gB (bxC (m.s 0)) 0) (gI (bxC (m.s 0)) 1) (gI (bxC (m.s 0)) 2) (gI (bxC (m.s 0)) 3) (gI (bxC (m.s 0)) 4) (gS (bxC (m.s 0)) 5) (gS (bxC (m.s 0)) 6) (gI (bxC (m.s 0)) 7) K)
theorem qbdk : qdh Try.prog (TIof Try.prog) 32 0 (kret [.t 4, .t 5] qlo) (scOf qn0) (q0q) :=
  qgx tabOk follows (qbba) (qbe (by kernel_rfl)) fun t m K => qbdj _ _ _ _ _ _ _ _ _ K
def qbh2 : Shp := ⟨[(0, .one (.l (.sl 8))), (1, .st (lk qa))], []⟩
def q0r (v0 : List AV) (Aq : Bool) (Ar As At Ay : Int) (Az A0 : List UInt8) (A1 : Int) : Option ((List AV) × Int) :=
  (oB (qls Aq Ar As At Ay Az A0 A1) fun r1 => (bif (r1 != (0 : Int)) then (some (([] : List AV), r1)) else (oB (qff v0 Aq Ar As At) fun r2 => (bif (decide (r2 ≥ (0 : Int))) then (some (([] : List AV), (12 : Int))) else (qq3 v0 Aq Ar As At Ay Az A0 A1 (fun v25q3 => (bif v25q3 then (some (([] : List AV), (24 : Int))) else (bif (decide ((v0.length : Int) ≥ (512 : Int))) then (some (([] : List AV), (9 : Int))) else (oB (qgf v0 Aq Ar As At Ay Az A0 A1) fun r4 => (some (r4, (0 : Int))))))))))))
def qn1 := hull q0r
theorem q6u : qn1 = q0r := qk _
def q0s : AC ((List AV) × Int) :=
  .seq (.reg [ao 3 (.box 1),
 ao 4 (.mv (.c .nils)),
 ao 5 (.mv (.c (.int .i64 0)))]) (.seq (.seq (.reg [ao 7 (.load true 8 3),
 .call (po 8 (.call 43 [7])) 43 qst,
 ao 6 (.mv 8)]) (.seq (.reg [ao 9 (.mv 6),
 ao 10 (.bin .neq 9 (.c (.int .i64 0)))]) (.cond 10 (.seq (.reg [ao 11 (.mv 6),
 ao 4 (.mv (.c .nils)),
 ao 5 (.mv 11)]) (.seq (.view [.eta 4 (.one (.sl 8))]) (.ret))) (.skip)))) (.seq (.seq (.reg [ao 12 (.mv 0),
 ao 13 (.fa 0 3),
 ao 14 (.load true 4 13),
 .call (po 15 (.call 51 [12, 14])) 51 qfg,
 ao 16 (.bin .geq 15 (.c (.int .i64 0)))]) (.cond 16 (.seq (.reg [ao 4 (.mv (.c .nils)),
 ao 5 (.mv (.c (.int .i64 12)))]) (.seq (.view [.eta 4 (.one (.sl 8))]) (.ret))) (.skip))) (.seq (.seq (.seq (.view [.sel [0, 3] [0]]) (.sub (scOf qn0) q0q)) (.cond 25 (.seq (.reg [ao 4 (.mv (.c .nils)),
 ao 5 (.mv (.c (.int .i64 24)))]) (.seq (.view [.eta 4 (.one (.sl 8))]) (.ret))) (.skip))) (.seq (.seq (.reg [ao 26 (.mv 0),
 ao 27 (.len false 26),
 ao 28 (.bin .geq 27 (.c (.int .i64 512)))]) (.cond 28 (.seq (.reg [ao 4 (.mv (.c .nils)),
 ao 5 (.mv (.c (.int .i64 9)))]) (.seq (.view [.eta 4 (.one (.sl 8))]) (.ret))) (.skip))) (.seq (.reg [ao 29 (.mv 0),
 ao 30 (.load true 8 3),
 .callc (po 31 (.call 53 [29, 30])) 53 qk0,
 ao 4 (.mv 31),
 ao 5 (.mv (.c (.int .i64 0)))]) (.ret))))))
theorem qbkk : AC.ok Try.prog (TIof Try.prog) 32 0 (kret [.t 4, .t 5] qlo) q0s := qo (zA (qd.ok q3e) (zA (qd.ok qjl) (zA qbdk (zA (qd.ok qpn) trivial))))
theorem qbln (v0 : List AV) (Aq : Bool) (Ar As At Ay : Int) (Az A0 : List UInt8) (A1 : Int) : den 0 (kret [.t 4, .t 5] qlo) q0s (qj [(0, (.sl 8 v0)), (1, .agg (qc Aq Ar As At Ay Az A0 A1))]) (qg []) (kend (kret [.t 4, .t 5] qlo)) = qn1 v0 Aq Ar As At Ay Az A0 A1 := by
  rw [q6u]; kernel_rfl
theorem qblo : cFn (TIof Try.prog) Try.f15 = some ⟨32, [.t 4, .t 5], scOf q0s⟩ := by kernel_rfl
def qblp (xs : List AV) : Option ((List AV) × Int) := qh ((ql xs) 1).cells (qn1 (gL [(ql xs) 0] 0))
def qv5 {R : Type} : List AV → (AV → Option R) → Option R := entF qbh2 qblp qbh1
theorem q8o {R : Type} : qd Try.prog 15 (qv5 (R := R)) :=
  qcd tabOk follows Try.func15 (by kernel_rfl) qblo (fun z r h => by
 obtain ⟨h1, h2⟩ := qn h
 cases h2
 exact (qkf h1).symm) qbkk (qbe (by kernel_rfl)) fun xs => qbln _ _ _ _ _ _ _ _ _
end
end Go.Proofs.Ytmjdngnagiloeaa.Dn
