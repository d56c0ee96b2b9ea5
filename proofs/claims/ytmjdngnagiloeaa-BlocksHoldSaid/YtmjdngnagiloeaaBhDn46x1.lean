import Derived.Test.YtmjdngnagiloeaaProg
import Derived.Test.YtmjdngnagiloeaaBhLibD
set_option linter.all false
namespace Go.Proofs.Ytmjdngnagiloeaa.Dn
open Go Go.Pev
set_option linter.unusedVariables false
set_option linter.unusedSimpArgs false
set_option maxRecDepth 100000
set_option maxHeartbeats 4000000
theorem zT : True := True.intro
theorem zA {a b : Prop} (x : a) (y : b) : a ∧ b := ⟨x, y⟩
theorem tabOk : Tab.ok (TIof Try.prog) Try.prog := fun _ _ h => h
theorem follows : Try.prog.follows .mixedOrders = true := by kernel_rfl
def qa : List LT := [.b, (.i .u64), (.i .u64), (.i .i64), (.i .i64), .s, .s, (.i .i64)]
def qb (x0 : Bool) (x1 x2 x3 x4 : Int) (x5 x6 : List UInt8) (x7 : Int) : List AV := [.bool x0, .int .u64 x1, .int .u64 x2, .int .i64 x3, .int .i64 x4, .str x5, .str x6, .int .i64 x7]
def qe {β : Type} (cs : List AV) (f : Bool → Int → Int → Int → Int → List UInt8 → List UInt8 → Int → β) : β := f (gB cs 0) (gI cs 1) (gI cs 2) (gI cs 3) (gI cs 4) (gS cs 5) (gS cs 6) (gI cs 7)
def q60 : Shp := ⟨[(0, .st (lk qa))], []⟩
noncomputable section
def qsb (Aa : Bool) (Ab Ac Ad Ae : Int) (Af Ag : List UInt8) (Ah : Int) : Option AV :=
  (oB (cutI Af none (some (if (100 : Int) < (Af.length : Int) then (100 : Int) else (Af.length : Int)))) fun s1 => (oB (cutI Ag none (some (if (100 : Int) < (Ag.length : Int) then (100 : Int) else (Ag.length : Int)))) fun s2 => (some (.agg [(.bool Aa), (.int .u64 Ab), (.int .u64 Ac), (.int .i64 Ad), (.int .i64 Ae), (.str s1), (.str s2), (.int .i64 Ah)]))))
def qm6 := hull qsb
theorem qyb : qm6 = qsb := qk _
def qsc : AC AV :=
  .seq (.reg [ao 1 (.box 0),
 ao 2 (.alloc [(.bool false), (.int .u64 0), (.int .u64 0), (.int .i64 0), (.int .i64 0), (.str []), (.str []), (.int .i64 0)])]) (.seq (.reg [ao 3 (.fa 5 1),
 ao 4 (.load false 1 3),
 ao 5 (.fa 5 1),
 ao 6 (.load false 1 5),
 ao 7 (.len true 6),
 ao 8 (.mm false 7 [(.c (.int .i64 100))]),
 ao 9 (.slcs 4 none (some 8)),
 ao 10 (.fa 5 1),
 an (.store 1 10 9)]) (.seq (.reg [ao 11 (.fa 6 1),
 ao 12 (.load false 1 11),
 ao 13 (.fa 6 1),
 ao 14 (.load false 1 13),
 ao 15 (.len true 14),
 ao 16 (.mm false 15 [(.c (.int .i64 100))]),
 ao 17 (.slcs 12 none (some 16)),
 ao 18 (.fa 6 1),
 an (.store 1 18 17)]) (.seq (.reg [ao 19 (.load true 8 1),
 an (.store 8 2 19)]) (.ret))))
theorem q9q : AC.ok Try.prog (TIof Try.prog) 20 0 (kret [(.cell 2 true 8)] (decT [.b, (.i .u64), (.i .u64), (.i .i64), (.i .i64), .s, .s, (.i .i64)])) qsc := qo trivial
theorem qbbr (Aa : Bool) (Ab Ac Ad Ae : Int) (Af Ag : List UInt8) (Ah : Int) : den 0 (kret [(.cell 2 true 8)] (decT [.b, (.i .u64), (.i .u64), (.i .i64), (.i .i64), .s, .s, (.i .i64)])) qsc (qj [(0, .agg (qb Aa Ab Ac Ad Ae Af Ag Ah))]) (qh []) (kend (kret [(.cell 2 true 8)] (decT [.b, (.i .u64), (.i .u64), (.i .i64), (.i .i64), .s, .s, (.i .i64)]))) = qm6 Aa Ab Ac Ad Ae Af Ag Ah := by
  rw [qyb]; kernel_rfl
theorem qbbs : cFn (TIof Try.prog) Try.f42 = some ⟨20, [(.cell 2 true 8)], scOf qsc⟩ := by kernel_rfl
def qbbt (xs : List AV) : Option AV := qe ((ql xs) 0).cells (qm6)
def qwn {R : Type} : List AV → (AV → Option R) → Option R := entF q60 qbbt (qpm (.st [.b, (.i .u64), (.i .u64), (.i .i64), (.i .i64), .s, .s, (.i .i64)]))
theorem qbbu {R : Type} : qd Try.prog 42 (qwn (R := R)) :=
  qch tabOk follows Try.func42 (by kernel_rfl) qbbs hdeT q9q (qbh (by kernel_rfl)) fun xs => qbbr _ _ _ _ _ _ _ _
def qly  (K : Ex → Env → Mem → Option (List AV)) := (fun z_a0 => K (.exit 0) (qj [(3, (.own 0 z_a0.length))]) (qh [(some (.arr true 8 z_a0))]))
def q58 : Shp := ⟨[(0, .one (.l (.sl 8))), (3, .one (.own 0)), (4, .one (.l (.i .i64)))], [.arr true 8]⟩
def qpv (v0 : List AV) (v4 : Int) (a0 : List AV) : Env := qj [(0, (.sl 8 v0)), (3, (.own 0 a0.length)), (4, (.int .i64 v4))]
def qpw (v0 : List AV) (v4 : Int) (a0 : List AV) : Mem := qh [(some (.arr true 8 a0))]
def qh4  (v0 : List AV) (v4 : Int) (a0 : List AV) (next : Int → (List AV) → Option (List AV)) (kx0 : (List AV) → Option (List AV)) : Option (List AV) :=
  (bif ((decide (v4 < (v0.length : Int))) && (decide (v4 < (30 : Int)))) then (oB (ixB v0 v4) fun y1 => (bif fitC qa y1.cells then (oB (qm6 (gB y1.cells 0) (gI y1.cells 1) (gI y1.cells 2) (gI y1.cells 3) (gI y1.cells 4) (gS y1.cells 5) (gS y1.cells 6) (gI y1.cells 7)) fun r2 => (bif hd a0 a0.length then (bif hd ([(.agg [(.bool (gB r2.cells 0)), (.int .u64 (gI r2.cells 1)), (.int .u64 (gI r2.cells 2)), (.int .i64 (gI r2.cells 3)), (.int .i64 (gI r2.cells 4)), (.str (gS r2.cells 5)), (.str (gS r2.cells 6)), (.int .i64 (gI r2.cells 7))])] : List AV) (([(.agg [(.bool (gB r2.cells 0)), (.int .u64 (gI r2.cells 1)), (.int .u64 (gI r2.cells 2)), (.int .i64 (gI r2.cells 3)), (.int .i64 (gI r2.cells 4)), (.str (gS r2.cells 5)), (.str (gS r2.cells 6)), (.int .i64 (gI r2.cells 7))])] : List AV).length) then (bif decide ((a0.length + ([(.agg [(.bool (gB r2.cells 0)), (.int .u64 (gI r2.cells 1)), (.int .u64 (gI r2.cells 2)), (.int .i64 (gI r2.cells 3)), (.int .i64 (gI r2.cells 4)), (.str (gS r2.cells 5)), (.str (gS r2.cells 6)), (.int .i64 (gI r2.cells 7))])] : List AV).length) * 80 ≤ 140737488355328) then (next (IntKind.i64.wrap (v4 + (1 : Int))) (a0 ++ ([(.agg [(.bool (gB r2.cells 0)), (.int .u64 (gI r2.cells 1)), (.int .u64 (gI r2.cells 2)), (.int .i64 (gI r2.cells 3)), (.int .i64 (gI r2.cells 4)), (.str (gS r2.cells 5)), (.str (gS r2.cells 6)), (.int .i64 (gI r2.cells 7))])] : List AV))) else none) else none) else none)) else none)) else (kx0 a0))
def qmu  (v0 : List AV) (kx0 : (List AV) → Option (List AV)) : Nat → Int → (List AV) → Option (List AV)
  | 0 => (fun _ _ => none)
  | n + 1 => (fun v4 a0 => qh4 v0 v4 a0 (qmu v0 kx0 n) kx0)
def qo7 := hull (qmu)
theorem qwo : qo7 = qmu := qk _
def qh5 : AC (List AV) :=
  .seq (.seq (.reg [ao 5 (.mv 4),
 ao 6 (.mv 0),
 ao 7 (.len false 6),
 ao 8 (.bin .lss 5 7),
 ao 9 (.mv 8),
 .grp 9 true [(pg 10 9 true (.mv 4)), (pg 11 9 true (.bin .lss 10 (.c (.int .i64 30))))] 12 11]) (.cond 12 (.skip) (.seq (.view [.sel [3] [0]]) (.exit 0)))) (.seq (.block 1 (.reg [ao 15 (.mv 3),
 ao 16 (.mv 0),
 ao 17 (.mv 4),
 ao 18 (.ia 8 16 17),
 .st (.etac 18 qa),
 ao 19 (.load true 8 18),
 .call (po 20 (.call 42 [19])) 42 qwn,
 ao 21 (.bsl 8 [20]),
 ao 22 (.app 8 80 15 21),
 ao 3 (.mv 22)])) (.seq (.reg [ao 13 (.mv 4),
 ao 14 (.bin .add 13 (.c (.int .i64 1))),
 ao 4 (.mv 14)]) (.view [.sel [0, 3, 4] [0]])))
theorem q61 : AC.ok Try.prog (TIof Try.prog) 24 0 (kret [.t 2] (decF true 8)) qh5 := qo (zA (qd.ok qbbu) trivial)
theorem q59 (v0 : List AV) (v4 : Int) (a0 : List AV) (K : Ex → Env → Mem → Option (List AV)) : den 0 (kret [.t 2] (decF true 8)) qh5 (qpv v0 v4 a0) (qpw v0 v4 a0) K = qh4 v0 v4 a0 (fun z_v4 z_a0 => K .norm (qpv v0 z_v4 z_a0) (qpw v0 z_v4 z_a0)) (qly K) := by kernel_rfl
theorem q9r (v0 : List AV) (K : Ex → Env → Mem → Option (List AV)) : ∀ (n : Nat) (v4 : Int) (a0 : List AV), qg4 (den 0 (kret [.t 2] (decF true 8)) qh5) n (qpv v0 v4 a0) (qpw v0 v4 a0) K = qo7 v0 (qly K) n v4 a0 := by
  rw [qwo]
  intro n
  induction n with
  | zero => intros; rfl
  | succ n ih =>
 intro v4 a0
 exact (q59 v0 v4 a0 (itK (den 0 (kret [.t 2] (decF true 8)) qh5) n K)).trans (congrArg (fun q => qh4 v0 v4 a0 q (qly K)) (funext fun v4 => funext fun a0 => ih v4 a0))
def qyc := subE (R := (List AV)) q58 fun t m K => qo7 (gL [t 0] 0) (qly K) FU (gI [t 4] 0) (arL (m.s 0))
theorem q9s : qdh Try.prog (TIof Try.prog) 24 0 (kret [.t 2] (decF true 8)) (.loop (scOf qh5)) (qyc) :=
  qie tabOk follows (q61) (qbh (by kernel_rfl)) fun t m K => q9r _ K FU _ _
def qbbv : Shp := ⟨[(0, .one (.l (.sl 8)))], []⟩
def qve (v0 : List AV) : Option (List AV) :=
  (bif (hd ([] : List AV) (([] : List AV).length) && true) then (qo7 v0 (fun a0q1 => (bif hd a0q1 a0q1.length then (some a0q1) else none)) FU (0 : Int) ([] : List AV)) else none)
def qpx := hull qve
theorem q1a : qpx = qve := qk _
def qvf : AC (List AV) :=
  .seq (.reg [ao 2 (.mv (.c .nils))]) (.seq (.reg [ao 3 (.mv (.c .nils))]) (.seq (.seq (.reg [ao 4 (.mv (.c (.int .i64 0)))]) (.block 0 (.seq (.view [.own 3 8, .sel [0, 3, 4] [0]]) (.sub (.loop (scOf qh5)) qyc)))) (.seq (.reg [ao 23 (.mv 3),
 ao 2 (.mv 23)]) (.ret))))
theorem qbdj : AC.ok Try.prog (TIof Try.prog) 24 0 (kret [.t 2] (decF true 8)) qvf := qo (zA q9s trivial)
theorem qbf8 (v0 : List AV) : den 0 (kret [.t 2] (decF true 8)) qvf (qj [(0, (.sl 8 v0))]) (qh []) (kend (kret [.t 2] (decF true 8))) = qpx v0 := by
  rw [q1a]; kernel_rfl
theorem qbf9 : cFn (TIof Try.prog) Try.f10 = some ⟨24, [.t 2], scOf qvf⟩ := by kernel_rfl
def qbga (xs : List AV) : Option (List AV) := qpx (gL [(ql xs) 0] 0)
def qzp {R : Type} : List AV → (AV → Option R) → Option R := entF qbbv qbga (AV.fr true 8)
theorem qbgb {R : Type} : qd Try.prog 10 (qzp (R := R)) :=
  qch tabOk follows Try.func10 (by kernel_rfl) qbf9 hdeF qbdj (qbh (by kernel_rfl)) fun xs => qbf8 _
def qd2 : List LT := [.b, (.i .u64), (.i .u64)]
def qbr (x0 : Bool) (x1 x2 : Int) : List AV := [.bool x0, .int .u64 x1, .int .u64 x2]
def qc2 {β : Type} (cs : List AV) (f : Bool → Int → Int → β) : β := f (gB cs 0) (gI cs 1) (gI cs 2)
def qbgc : Shp := ⟨[(0, .st (lk qd2))], []⟩
def qzq (Aa : Bool) (Ab Ac : Int) : Option Bool :=
  (bif Aa then (some true) else (bif (Ab == (0 : Int)) then (some (decide (Ac ≤ (4294967295 : Int)))) else (some false)))
def qqk := hull qzq
theorem q5v : qqk = qzq := qk _
def qzr : AC Bool :=
  .seq (.reg [ao 1 (.box 0),
 ao 2 (.mv (.c (.bool false)))]) (.seq (.reg [ao 3 (.fa 0 1),
 ao 4 (.load false 1 3),
 ao 5 (.mv 4),
 ag 6 5 false (.fa 1 1),
 ag 7 5 false (.load false 1 6),
 ag 8 5 false (.bin .eql 7 (.c (.int .u64 0))),
 ag 9 5 false (.mv 8),
 ag 10 9 true (.fa 2 1),
 ag 11 9 true (.load false 1 10),
 ag 12 9 true (.bin .leq 11 (.c (.int .u64 4294967295))),
 ag 13 5 false (.pick 9 12 (.c (.bool false))),
 ao 14 (.pick 5 (.c (.bool true)) 13),
 ao 2 (.mv 14)]) (.ret))
theorem qbjb : AC.ok Try.prog (TIof Try.prog) 15 0 (kret [.t 2] decB) qzr := qo trivial
theorem qbko (Aa : Bool) (Ab Ac : Int) : den 0 (kret [.t 2] decB) qzr (qj [(0, .agg (qbr Aa Ab Ac))]) (qh []) (kend (kret [.t 2] decB)) = qqk Aa Ab Ac := by
  rw [q5v]; kernel_rfl
theorem qbkp : cFn (TIof Try.prog) Try.f73 = some ⟨15, [.t 2], scOf qzr⟩ := by kernel_rfl
def qbkq (xs : List AV) : Option Bool := qc2 ((ql xs) 0).cells (qqk)
def qvg {R : Type} : List AV → (AV → Option R) → Option R := entF qbgc qbkq AV.bool
theorem q62 {R : Type} : qd Try.prog 73 (qvg (R := R)) :=
  qch tabOk follows Try.func73 (by kernel_rfl) qbkp hdeB qbjb (qbh (by kernel_rfl)) fun xs => qbko _ _ _
def q9t : Shp := ⟨[(0, .st (lk qd2))], []⟩
def qti (Aa : Bool) (Ab Ac : Int) : Option Int :=
  (bif Aa then (some (128 : Int)) else (some (32 : Int)))
def qio := hull qti
theorem qzs : qio = qti := qk _
def qtj : AC Int :=
  .seq (.reg [ao 1 (.box 0),
 ao 2 (.mv (.c (.int .i64 0)))]) (.seq (.seq (.reg [ao 3 (.fa 0 1),
 ao 4 (.load false 1 3)]) (.cond 4 (.seq (.reg [ao 2 (.mv (.c (.int .i64 128)))]) (.ret)) (.skip))) (.seq (.reg [ao 2 (.mv (.c (.int .i64 32)))]) (.ret)))
theorem qbbw : AC.ok Try.prog (TIof Try.prog) 5 0 (kret [.t 2] (decI .i64)) qtj := qo trivial
theorem qbdk (Aa : Bool) (Ab Ac : Int) : den 0 (kret [.t 2] (decI .i64)) qtj (qj [(0, .agg (qbr Aa Ab Ac))]) (qh []) (kend (kret [.t 2] (decI .i64))) = qio Aa Ab Ac := by
  rw [qzs]; kernel_rfl
theorem qbdl : cFn (TIof Try.prog) Try.f76 = some ⟨5, [.t 2], scOf qtj⟩ := by kernel_rfl
def qbdm (xs : List AV) : Option Int := qc2 ((ql xs) 0).cells (qio)
def qk2 {R : Type} : List AV → (AV → Option R) → Option R := entF q9t qbdm (AV.int .i64)
theorem qo8 {R : Type} : qd Try.prog 76 (qk2 (R := R)) :=
  qch tabOk follows Try.func76 (by kernel_rfl) qbdl hdeI qbbw (qbh (by kernel_rfl)) fun xs => qbdk _ _ _
def qsd (z : AV) : Option (Int × Int) := cond (qnm [(.one (.i .u64)), (.one (.i .u64))] z) (some (aI (gC (tpL z) 0), aI (gC (tpL z) 1))) none
def qbbx (r : Int × Int) : AV := .tup [.int .u64 r.1, .int .u64 r.2]
def qbby : Shp := ⟨[(0, .one (.l .b)), (1, .one (.l (.i .i64)))], []⟩
def qql (v0 : Bool) (v1 : Int) : Option (Int × Int) :=
  (bif (!v0) then (bif decide ((IntKind.u64.wrap (IntKind.i64.wrap ((32 : Int) - v1))) < 0) then none else (some ((0 : Int), (IntKind.u64.wrap ((IntKind.u64.wrap ((1 : Int) * 2 ^ min (IntKind.u64.wrap (IntKind.i64.wrap ((32 : Int) - v1))).toNat IntKind.u64.bits)) - (1 : Int)))))) else (bif (decide (v1 ≥ (64 : Int))) then (bif decide ((IntKind.u64.wrap (IntKind.i64.wrap ((128 : Int) - v1))) < 0) then none else (some ((0 : Int), (IntKind.u64.wrap ((IntKind.u64.wrap ((1 : Int) * 2 ^ min (IntKind.u64.wrap (IntKind.i64.wrap ((128 : Int) - v1))).toNat IntKind.u64.bits)) - (1 : Int)))))) else (bif decide ((IntKind.u64.wrap (IntKind.i64.wrap ((64 : Int) - v1))) < 0) then none else (some ((IntKind.u64.wrap ((IntKind.u64.wrap ((1 : Int) * 2 ^ min (IntKind.u64.wrap (IntKind.i64.wrap ((64 : Int) - v1))).toNat IntKind.u64.bits)) - (1 : Int))), (18446744073709551615 : Int))))))
def qm7 := hull qql
theorem q1b : qm7 = qql := qk _
def qvh : AC (Int × Int) :=
  .seq (.reg [ao 4 (.mv (.c (.int .u64 0))),
 ao 5 (.mv (.c (.int .u64 0)))]) (.seq (.seq (.reg [ao 6 (.mv 0),
 ao 7 (.un .not 6)]) (.cond 7 (.seq (.reg [ao 8 (.mv 1),
 ao 9 (.bin .sub (.c (.int .i64 32)) 8),
 ao 10 (.conv (.int .u64) 9),
 ao 11 (.bin .shl (.c (.int .u64 1)) 10),
 ao 12 (.bin .sub 11 (.c (.int .u64 1))),
 ao 4 (.mv (.c (.int .u64 0))),
 ao 5 (.mv 12)]) (.ret)) (.skip))) (.seq (.seq (.reg [ao 13 (.mv 1),
 ao 14 (.bin .geq 13 (.c (.int .i64 64)))]) (.cond 14 (.seq (.reg [ao 15 (.mv 1),
 ao 16 (.bin .sub (.c (.int .i64 128)) 15),
 ao 17 (.conv (.int .u64) 16),
 ao 18 (.bin .shl (.c (.int .u64 1)) 17),
 ao 19 (.bin .sub 18 (.c (.int .u64 1))),
 ao 4 (.mv (.c (.int .u64 0))),
 ao 5 (.mv 19)]) (.ret)) (.skip))) (.seq (.reg [ao 20 (.mv 1),
 ao 21 (.bin .sub (.c (.int .i64 64)) 20),
 ao 22 (.conv (.int .u64) 21),
 ao 23 (.bin .shl (.c (.int .u64 1)) 22),
 ao 24 (.bin .sub 23 (.c (.int .u64 1))),
 ao 4 (.mv 24),
 ao 5 (.mv (.c (.int .u64 18446744073709551615)))]) (.ret))))
theorem qbdn : AC.ok Try.prog (TIof Try.prog) 25 0 (kret [.t 4, .t 5] qsd) qvh := qo trivial
theorem qbgd (v0 : Bool) (v1 : Int) : den 0 (kret [.t 4, .t 5] qsd) qvh (qj [(0, (.bool v0)), (1, (.int .i64 v1))]) (qh []) (kend (kret [.t 4, .t 5] qsd)) = qm7 v0 v1 := by
  rw [q1b]; kernel_rfl
theorem qbge : cFn (TIof Try.prog) Try.f72 = some ⟨25, [.t 4, .t 5], scOf qvh⟩ := by kernel_rfl
def qbgf (xs : List AV) : Option (Int × Int) := qm7 (gB [(ql xs) 0] 0) (gI [(ql xs) 1] 0)
def qse {R : Type} : List AV → (AV → Option R) → Option R := entF qbby qbgf qbbx
theorem q2p {R : Type} : qd Try.prog 72 (qse (R := R)) :=
  qch tabOk follows Try.func72 (by kernel_rfl) qbge (fun z r h => by
 obtain ⟨h1, h2⟩ := qn h
 cases h2
 exact (qkd h1).symm) qbdn (qbh (by kernel_rfl)) fun xs => qbgd _ _
def qi : List LT := [.b, (.i .u64), (.i .u64), (.i .i64)]
def qc (x0 : Bool) (x1 x2 x3 : Int) : List AV := [.bool x0, .int .u64 x1, .int .u64 x2, .int .i64 x3]
def qg {β : Type} (cs : List AV) (f : Bool → Int → Int → Int → β) : β := f (gB cs 0) (gI cs 1) (gI cs 2) (gI cs 3)
def qwp  (Ai : Bool) (Aj Ak Al : Int) (K : Ex → Env → Mem → Option Bool) := (fun z_v21 => K .norm (qj [(1, (.ptr 0 0)), (21, (.bool z_v21))]) (qh [(some (.box true (qc Ai Aj Ak Al)))]))
def q6a : Shp := ⟨[(1, .one (.ptr 0 0))], [.box true (lk qi)]⟩
def qqz  (Ai : Bool) (Aj Ak Al : Int) (kn : Bool → Option Bool) : Option Bool :=
  (oB (qqk Ai Aj Ak) fun r1 => (bif (!r1) then (kn true) else (bif (decide (Al < (0 : Int))) then (kn true) else (oB (qio Ai Aj Ak) fun r2 => (kn (decide (Al > r2)))))))
def qo9 := hull (qqz)
theorem qwq : qo9 = qqz := qk _
def qmv : AC Bool :=
  .seq (.draw [] [ao 5 (.fa 0 1),
 ao 6 (.load true 3 5),
 .call (po 7 (.call 73 [6])) 73 qvg,
 ao 8 (.un .not 7),
 ao 9 (.mv 8),
 ag 10 9 false (.fa 3 1),
 ag 11 9 false (.load false 1 10),
 ag 12 9 false (.bin .lss 11 (.c (.int .i64 0))),
 ao 13 (.pick 9 (.c (.bool true)) 12),
 ao 14 (.mv 13),
 ag 15 14 false (.fa 3 1),
 ag 16 14 false (.load false 1 15),
 ag 17 14 false (.fa 0 1),
 ag 18 14 false (.load true 3 17),
 .call (pg 19 14 false (.call 76 [18])) 76 qk2] [ag 20 14 false (.bin .gtr 16 19),
 ao 21 (.pick 14 (.c (.bool true)) 20)]) (.view [.sel [1, 21] [0]])
theorem q63 : AC.ok Try.prog (TIof Try.prog) 45 0 (kret [.t 2] decB) qmv := qo (zA (qd.ok q62) (zA (qd.ok qo8) (zA rfl trivial)))
theorem q9u (Ai : Bool) (Aj Ak Al : Int) (K : Ex → Env → Mem → Option Bool) : den 0 (kret [.t 2] decB) qmv (qj [(1, (.ptr 0 0))]) (qh [(some (.box true (qc Ai Aj Ak Al)))]) K = qo9 Ai Aj Ak Al (qwp Ai Aj Ak Al K) := by
  rw [qwq]; kernel_rfl
def qyd := subE (R := Bool) q6a fun t m K => qg (bxC (m.s 0)) (qo9) (qwp (gB (bxC (m.s 0)) 0) (gI (bxC (m.s 0)) 1) (gI (bxC (m.s 0)) 2) (gI (bxC (m.s 0)) 3) K)
theorem q9v : qdh Try.prog (TIof Try.prog) 45 0 (kret [.t 2] decB) (scOf qmv) (qyd) :=
  qke tabOk follows (q63) (qbh (by kernel_rfl)) fun t m K => q9u _ _ _ _ K
def qbbz : Shp := ⟨[(0, .st (lk qi))], []⟩
def qvi (Aa : Bool) (Ab Ac Ad : Int) : Option Bool :=
  (qo9 Aa Ab Ac Ad (fun v21q1 => (bif v21q1 then (some false) else (oB (qm7 Aa Ad) fun r2 => (some (((qcg .and .u64 Ab r2.1) == (0 : Int)) && ((qcg .and .u64 Ac r2.2) == (0 : Int))))))))
def qgd := hull qvi
theorem q1c : qgd = qvi := qk _
def qvj : AC Bool :=
  .seq (.reg [ao 1 (.box 0),
 ao 2 (.mv (.c (.bool false)))]) (.seq (.seq (.seq (.view [.sel [1] [0]]) (.sub (scOf qmv) qyd)) (.cond 21 (.seq (.reg [ao 2 (.mv (.c (.bool false)))]) (.ret)) (.skip))) (.seq (.reg [ao 23 (.fa 0 1),
 ao 24 (.fa 0 23),
 ao 25 (.load false 1 24),
 ao 26 (.fa 3 1),
 ao 27 (.load false 1 26),
 .call (po 28 (.call 72 [25, 27])) 72 qse,
 ao 22 (.mv 28),
 ao 29 (.ext 22 0),
 ao 30 (.ext 22 1),
 ao 3 (.mv 29),
 ao 4 (.mv 30)]) (.seq (.reg [ao 31 (.fa 0 1),
 ao 32 (.fa 1 31),
 ao 33 (.load false 1 32),
 ao 34 (.mv 3),
 ao 35 (.bin .and 33 34),
 ao 36 (.bin .eql 35 (.c (.int .u64 0))),
 ao 37 (.mv 36),
 .grp 37 true [(pg 38 37 true (.fa 0 1)), (pg 39 37 true (.fa 2 38)), (pg 40 37 true (.load false 1 39)), (pg 41 37 true (.mv 4)), (pg 42 37 true (.bin .and 40 41)), (pg 43 37 true (.bin .eql 42 (.c (.int .u64 0))))] 44 43,
 ao 2 (.mv 44)]) (.ret))))
theorem qbdo : AC.ok Try.prog (TIof Try.prog) 45 0 (kret [.t 2] decB) qvj := qo (zA q9v (zA (qd.ok q2p) trivial))
theorem qbgg (Aa : Bool) (Ab Ac Ad : Int) : den 0 (kret [.t 2] decB) qvj (qj [(0, .agg (qc Aa Ab Ac Ad))]) (qh []) (kend (kret [.t 2] decB)) = qgd Aa Ab Ac Ad := by
  rw [q1c]; kernel_rfl
theorem qbgh : cFn (TIof Try.prog) Try.f71 = some ⟨45, [.t 2], scOf qvj⟩ := by kernel_rfl
def qbgi (xs : List AV) : Option Bool := qg ((ql xs) 0).cells (qgd)
def qgl {R : Type} : List AV → (AV → Option R) → Option R := entF qbbz qbgi AV.bool
theorem qll {R : Type} : qd Try.prog 71 (qgl (R := R)) :=
  qch tabOk follows Try.func71 (by kernel_rfl) qbgh hdeB qbdo (qbh (by kernel_rfl)) fun xs => qbgg _ _ _ _
def qbb0 : Shp := ⟨[(0, .st (lk qi))], []⟩
def qvk (Aa : Bool) (Ab Ac Ad : Int) : Option Int :=
  (bif Aa then (some (128 : Int)) else (some (32 : Int)))
def qpy := hull qvk
theorem q1d : qpy = qvk := qk _
def qvl : AC Int :=
  .seq (.reg [ao 1 (.box 0),
 ao 2 (.mv (.c (.int .i64 0)))]) (.seq (.seq (.reg [ao 3 (.fa 0 1),
 ao 4 (.fa 0 3),
 ao 5 (.load false 1 4)]) (.cond 5 (.seq (.reg [ao 2 (.mv (.c (.int .i64 128)))]) (.ret)) (.skip))) (.seq (.reg [ao 2 (.mv (.c (.int .i64 32)))]) (.ret)))
theorem qbdp : AC.ok Try.prog (TIof Try.prog) 6 0 (kret [.t 2] (decI .i64)) qvl := qo trivial
theorem qbgj (Aa : Bool) (Ab Ac Ad : Int) : den 0 (kret [.t 2] (decI .i64)) qvl (qj [(0, .agg (qc Aa Ab Ac Ad))]) (qh []) (kend (kret [.t 2] (decI .i64))) = qpy Aa Ab Ac Ad := by
  rw [q1d]; kernel_rfl
theorem qbgk : cFn (TIof Try.prog) Try.f77 = some ⟨6, [.t 2], scOf qvl⟩ := by kernel_rfl
def qbgl (xs : List AV) : Option Int := qg ((ql xs) 0).cells (qpy)
def qzt {R : Type} : List AV → (AV → Option R) → Option R := entF qbb0 qbgl (AV.int .i64)
theorem qbgm {R : Type} : qd Try.prog 77 (qzt (R := R)) :=
  qch tabOk follows Try.func77 (by kernel_rfl) qbgk hdeI qbdp (qbh (by kernel_rfl)) fun xs => qbgj _ _ _ _
def qjv  (K : Ex → Env → Mem → Option Bool) := (fun (_ : Unit) => K (.exit 0) (qj []) (qh []))
def q17 : Shp := ⟨[(0, .one (.l .s)), (19, .one (.l (.i .i64))), (20, .one (.l (.i .i64)))], []⟩
def qm8 (v0 : List UInt8) (v19 v20 : Int) : Env := qj [(0, (.str v0)), (19, (.int .i64 v19)), (20, (.int .i64 v20))]
def qm9 (v0 : List UInt8) (v19 v20 : Int) : Mem := qh []
def qfs  (v0 : List UInt8) (v19 v20 : Int) (next : Int → Option Bool) (kx0 : Unit → Option Bool) : Option Bool :=
  (bif (decide (v20 < v19)) then (oB (ixB v0 v20) fun c1 => (bif (decide ((c1.toNat : Int) < (33 : Int))) then (some false) else (oB (ixB v0 v20) fun c2 => (bif (decide ((c2.toNat : Int) > (126 : Int))) then (some false) else (next (IntKind.i64.wrap (v20 + (1 : Int)))))))) else (kx0 ()))
def qla  (v0 : List UInt8) (v19 : Int) (kx0 : Unit → Option Bool) : Nat → Int → Option Bool
  | 0 => (fun _ => none)
  | n + 1 => (fun v20 => qfs v0 v19 v20 (qla v0 v19 kx0 n) kx0)
def qj3 := hull (qla)
theorem qsz : qj3 = qla := qk _
def qft : AC Bool :=
  .seq (.reg [ao 21 (.bin .lss 20 19)]) (.seq (.cond 21 (.skip) (.seq (.view [.sel [] []]) (.exit 0))) (.seq (.block 1 (.seq (.reg [ao 22 (.mv 20),
 ao 7 (.mv 22)]) (.seq (.reg [ao 23 (.mv 0),
 ao 24 (.mv 7),
 ao 25 (.ixs 23 24),
 ao 26 (.bin .lss 25 (.c (.int .u8 33))),
 ao 27 (.mv 26),
 ag 28 27 false (.mv 0),
 ag 29 27 false (.mv 7),
 ag 30 27 false (.ixs 28 29),
 ag 31 27 false (.bin .gtr 30 (.c (.int .u8 126))),
 ao 32 (.pick 27 (.c (.bool true)) 31)]) (.cond 32 (.seq (.reg [ao 6 (.mv (.c (.bool false)))]) (.ret)) (.skip))))) (.seq (.reg [ao 33 (.bin .add 20 (.c (.int .i64 1))),
 ao 20 (.mv 33)]) (.view [.sel [0, 19, 20] []]))))
theorem q2q : AC.ok Try.prog (TIof Try.prog) 34 0 (kret [.t 6] decB) qft := qo trivial
theorem q18 (v0 : List UInt8) (v19 v20 : Int) (K : Ex → Env → Mem → Option Bool) : den 0 (kret [.t 6] decB) qft (qm8 v0 v19 v20) (qm9 v0 v19 v20) K = qfs v0 v19 v20 (fun z_v20 => K .norm (qm8 v0 v19 z_v20) (qm9 v0 v19 z_v20)) (qjv K) := by kernel_rfl
theorem q38 (v0 : List UInt8) (v19 : Int) (K : Ex → Env → Mem → Option Bool) : ∀ (n : Nat) (v20 : Int), qg4 (den 0 (kret [.t 6] decB) qft) n (qm8 v0 v19 v20) (qm9 v0 v19 v20) K = qj3 v0 v19 (qjv K) n v20 := by
  rw [qsz]
  intro n
  induction n with
  | zero => intros; rfl
  | succ n ih =>
 intro v20
 exact (q18 v0 v19 v20 (itK (den 0 (kret [.t 6] decB) qft) n K)).trans (congrArg (fun q => qfs v0 v19 v20 q (qjv K)) (funext fun v20 => ih v20))
def qtk := subE (R := Bool) q17 fun t m K => qj3 (gS [t 0] 0) (gI [t 19] 0) (qjv K) FU (gI [t 20] 0)
theorem q39 : qdh Try.prog (TIof Try.prog) 34 0 (kret [.t 6] decB) (.loop (scOf qft)) (qtk) :=
  qie tabOk follows (q2q) (qbh (by kernel_rfl)) fun t m K => q38 _ _ K FU _
def q64 : Shp := ⟨[(0, .one (.l .s)), (1, .one (.l (.i .i64))), (2, .one (.l (.i .i64)))], []⟩
def qsf (v0 : List UInt8) (v1 v2 : Int) : Option Bool :=
  (bif ((decide ((v0.length : Int) < v1)) || (decide ((v0.length : Int) > v2))) then (some false) else (qj3 v0 (v0.length : Int) (fun (_ : Unit) => (some true)) FU (0 : Int)))
def qlm := hull qsf
theorem qye : qlm = qsf := qk _
def qsg : AC Bool :=
  .seq (.reg [ao 6 (.mv (.c (.bool false)))]) (.seq (.seq (.reg [ao 8 (.mv 0),
 ao 9 (.len true 8),
 ao 10 (.mv 1),
 ao 11 (.bin .lss 9 10),
 ao 12 (.mv 11),
 .grp 12 false [(pg 13 12 false (.mv 0)), (pg 14 12 false (.len true 13)), (pg 15 12 false (.mv 2)), (pg 16 12 false (.bin .gtr 14 15))] 17 16]) (.cond 17 (.seq (.reg [ao 6 (.mv (.c (.bool false)))]) (.ret)) (.skip))) (.seq (.seq (.reg [ao 18 (.mv 0),
 ao 19 (.len true 18),
 ao 20 (.mv (.c (.int .i64 0)))]) (.block 0 (.seq (.view [.sel [0, 19, 20] []]) (.sub (.loop (scOf qft)) qtk)))) (.seq (.reg [ao 6 (.mv (.c (.bool true)))]) (.ret))))
theorem q9w : AC.ok Try.prog (TIof Try.prog) 34 0 (kret [.t 6] decB) qsg := qo (zA q39 trivial)
theorem qbb1 (v0 : List UInt8) (v1 v2 : Int) : den 0 (kret [.t 6] decB) qsg (qj [(0, (.str v0)), (1, (.int .i64 v1)), (2, (.int .i64 v2))]) (qh []) (kend (kret [.t 6] decB)) = qlm v0 v1 v2 := by
  rw [qye]; kernel_rfl
theorem qbb2 : cFn (TIof Try.prog) Try.f78 = some ⟨34, [.t 6], scOf qsg⟩ := by kernel_rfl
def qbb3 (xs : List AV) : Option Bool := qlm (gS [(ql xs) 0] 0) (gI [(ql xs) 1] 0) (gI [(ql xs) 2] 0)
def qpz {R : Type} : List AV → (AV → Option R) → Option R := entF q64 qbb3 AV.bool
theorem qzu {R : Type} : qd Try.prog 78 (qpz (R := R)) :=
  qch tabOk follows Try.func78 (by kernel_rfl) qbb2 hdeB q9w (qbh (by kernel_rfl)) fun xs => qbb1 _ _ _
def qu0  (Ai : Bool) (Aj Ak Al Am : Int) (An Ao : List UInt8) (Ap : Int) (K : Ex → Env → Mem → Option Int) := (fun z_v28 => K .norm (qj [(1, (.ptr 0 0)), (28, (.bool z_v28))]) (qh [(some (.box true (qb Ai Aj Ak Al Am An Ao Ap)))]))
def q4a : Shp := ⟨[(1, .one (.ptr 0 0))], [.box true (lk qa)]⟩
def qp0  (Ai : Bool) (Aj Ak Al Am : Int) (An Ao : List UInt8) (Ap : Int) (kn : Bool → Option Int) : Option Int :=
  (bif (decide (Am < (1 : Int))) then (kn true) else (bif (decide (Am > (3 : Int))) then (kn true) else (bif (Am == (3 : Int)) then (oB (qpy Ai Aj Ak Al) fun r1 => (kn (Al != r1))) else (kn false))))
def qnr := hull (qp0)
theorem qu1 : qnr = qp0 := qk _
def ql8 : AC Int :=
  .seq (.draw [] [ao 7 (.fa 4 1),
 ao 8 (.load false 1 7),
 ao 9 (.bin .lss 8 (.c (.int .i64 1))),
 ao 10 (.mv 9),
 ag 11 10 false (.fa 4 1),
 ag 12 10 false (.load false 1 11),
 ag 13 10 false (.bin .gtr 12 (.c (.int .i64 3))),
 ao 14 (.pick 10 (.c (.bool true)) 13),
 ao 15 (.mv 14),
 ag 16 15 false (.fa 4 1),
 ag 17 15 false (.load false 1 16),
 ag 18 15 false (.bin .eql 17 (.c (.int .i64 3))),
 ag 19 15 false (.mv 18),
 ag 20 19 true (.fa 0 1),
 ag 21 19 true (.fa 3 20),
 ag 22 19 true (.load false 1 21),
 ag 23 19 true (.fa 0 1),
 ag 24 19 true (.load true 4 23),
 .call (pg 25 19 true (.call 77 [24])) 77 qzt] [ag 26 19 true (.bin .neq 22 25),
 ag 27 15 false (.pick 19 26 (.c (.bool false))),
 ao 28 (.pick 15 (.c (.bool true)) 27)]) (.view [.sel [1, 28] [0]])
theorem q6b : AC.ok Try.prog (TIof Try.prog) 49 0 (kret [.t 2] (decI .i64)) ql8 := qo (zA (qd.ok qbgm) (zA rfl trivial))
theorem q65 (Ai : Bool) (Aj Ak Al Am : Int) (An Ao : List UInt8) (Ap : Int) (K : Ex → Env → Mem → Option Int) : den 0 (kret [.t 2] (decI .i64)) ql8 (qj [(1, (.ptr 0 0))]) (qh [(some (.box true (qb Ai Aj Ak Al Am An Ao Ap)))]) K = qnr Ai Aj Ak Al Am An Ao Ap (qu0 Ai Aj Ak Al Am An Ao Ap K) := by
  rw [qu1]; kernel_rfl
def qwr := subE (R := Int) q4a fun t m K => qe (bxC (m.s 0)) (qnr) (qu0 (gB (bxC (m.s 0)) 0) (gI (bxC (m.s 0)) 1) (gI (bxC (m.s 0)) 2) (gI (bxC (m.s 0)) 3) (gI (bxC (m.s 0)) 4) (gS (bxC (m.s 0)) 5) (gS (bxC (m.s 0)) 6) (gI (bxC (m.s 0)) 7) K)
theorem q66 : qdh Try.prog (TIof Try.prog) 49 0 (kret [.t 2] (decI .i64)) (scOf ql8) (qwr) :=
  qke tabOk follows (q6b) (qbh (by kernel_rfl)) fun t m K => q65 _ _ _ _ _ _ _ _ K
def qbb4 : Shp := ⟨[(0, .st (lk qa))], []⟩
def qvm (Aa : Bool) (Ab Ac Ad Ae : Int) (Af Ag : List UInt8) (Ah : Int) : Option Int :=
  (oB (qgd Aa Ab Ac Ad) fun r1 => (bif (!r1) then (some (3 : Int)) else (qnr Aa Ab Ac Ad Ae Af Ag Ah (fun v28q2 => (bif v28q2 then (some (1 : Int)) else (oB (qlm Af (1 : Int) (63 : Int)) fun r3 => (bif (!r3) then (some (1 : Int)) else (oB (qlm Ag (0 : Int) (32 : Int)) fun r4 => (bif (((!r4) || (decide (Ah < (0 : Int)))) || (decide (Ah > (4294967295 : Int)))) then (some (1 : Int)) else (some (0 : Int)))))))))))
def qlr := hull qvm
theorem q1e : qlr = qvm := qk _
def qvn : AC Int :=
  .seq (.reg [ao 1 (.box 0),
 ao 2 (.mv (.c (.int .i64 0)))]) (.seq (.seq (.reg [ao 3 (.fa 0 1),
 ao 4 (.load true 4 3),
 .call (po 5 (.call 71 [4])) 71 qgl,
 ao 6 (.un .not 5)]) (.cond 6 (.seq (.reg [ao 2 (.mv (.c (.int .i64 3)))]) (.ret)) (.skip))) (.seq (.seq (.seq (.view [.sel [1] [0]]) (.sub (scOf ql8) qwr)) (.cond 28 (.seq (.reg [ao 2 (.mv (.c (.int .i64 1)))]) (.ret)) (.skip))) (.seq (.seq (.reg [ao 29 (.fa 5 1),
 ao 30 (.load false 1 29),
 .call (po 31 (.call 78 [30, (.c (.int .i64 1)), (.c (.int .i64 63))])) 78 qpz,
 ao 32 (.un .not 31),
 ao 33 (.mv 32),
 ag 34 33 false (.fa 6 1),
 ag 35 33 false (.load false 1 34),
 .call (pg 36 33 false (.call 78 [35, (.c (.int .i64 0)), (.c (.int .i64 32))])) 78 qpz,
 ag 37 33 false (.un .not 36),
 ao 38 (.pick 33 (.c (.bool true)) 37),
 ao 39 (.mv 38),
 .grp 39 false [(pg 40 39 false (.fa 7 1)), (pg 41 39 false (.load false 1 40)), (pg 42 39 false (.bin .lss 41 (.c (.int .i64 0))))] 43 42,
 ao 44 (.mv 43),
 .grp 44 false [(pg 45 44 false (.fa 7 1)), (pg 46 44 false (.load false 1 45)), (pg 47 44 false (.bin .gtr 46 (.c (.int .i64 4294967295))))] 48 47]) (.cond 48 (.seq (.reg [ao 2 (.mv (.c (.int .i64 1)))]) (.ret)) (.skip))) (.seq (.reg [ao 2 (.mv (.c (.int .i64 0)))]) (.ret)))))
theorem qbdq : AC.ok Try.prog (TIof Try.prog) 49 0 (kret [.t 2] (decI .i64)) qvn := qo (zA (qd.ok qll) (zA q66 (zA (qd.ok qzu) (zA (qd.ok qzu) trivial))))
theorem qbgn (Aa : Bool) (Ab Ac Ad Ae : Int) (Af Ag : List UInt8) (Ah : Int) : den 0 (kret [.t 2] (decI .i64)) qvn (qj [(0, .agg (qb Aa Ab Ac Ad Ae Af Ag Ah))]) (qh []) (kend (kret [.t 2] (decI .i64))) = qlr Aa Ab Ac Ad Ae Af Ag Ah := by
  rw [q1e]; kernel_rfl
theorem qbgo : cFn (TIof Try.prog) Try.f43 = some ⟨49, [.t 2], scOf qvn⟩ := by kernel_rfl
def qbgp (xs : List AV) : Option Int := qe ((ql xs) 0).cells (qlr)
def qsh {R : Type} : List AV → (AV → Option R) → Option R := entF qbb4 qbgp (AV.int .i64)
theorem q2r {R : Type} : qd Try.prog 43 (qsh (R := R)) :=
  qch tabOk follows Try.func43 (by kernel_rfl) qbgo hdeI qbdq (qbh (by kernel_rfl)) fun xs => qbgn _ _ _ _ _ _ _ _
def qbdr : Shp := ⟨[(0, .one (.l (.i .u64))), (1, .one (.l (.i .u64)))], []⟩
def qxr (v0 v1 : Int) : Option Int :=
  (bif (decide (v0 < v1)) then (some (-1 : Int)) else (bif (decide (v0 > v1)) then (some (1 : Int)) else (some (0 : Int))))
def qrk := hull qxr
theorem q2s : qrk = qxr := qk _
def qxs : AC Int :=
  .seq (.reg [ao 4 (.mv (.c (.int .i64 0)))]) (.seq (.block 0 (.seq (.reg [ao 6 (.mv 0),
 ao 7 (.mv 1),
 ao 8 (.bin .lss 6 7),
 ao 5 (.mv 8)]) (.cond 5 (.seq (.reg [ao 4 (.mv (.c (.int .i64 (-1))))]) (.ret)) (.seq (.reg [ao 10 (.mv 0),
 ao 11 (.mv 1),
 ao 12 (.bin .gtr 10 11),
 ao 9 (.mv 12)]) (.cond 9 (.seq (.reg [ao 4 (.mv (.c (.int .i64 1)))]) (.ret)) (.skip)))))) (.seq (.reg [ao 4 (.mv (.c (.int .i64 0)))]) (.ret)))
theorem qbgq : AC.ok Try.prog (TIof Try.prog) 13 0 (kret [.t 4] (decI .i64)) qxs := qo trivial
theorem qbjc (v0 v1 : Int) : den 0 (kret [.t 4] (decI .i64)) qxs (qj [(0, (.int .u64 v0)), (1, (.int .u64 v1))]) (qh []) (kend (kret [.t 4] (decI .i64))) = qrk v0 v1 := by
  rw [q2s]; kernel_rfl
theorem qbjd : cFn (TIof Try.prog) Try.f101 = some ⟨13, [.t 4], scOf qxs⟩ := by kernel_rfl
def qbje (xs : List AV) : Option Int := qrk (gI [(ql xs) 0] 0) (gI [(ql xs) 1] 0)
def qtl {R : Type} : List AV → (AV → Option R) → Option R := entF qbdr qbje (AV.int .i64)
theorem q5w {R : Type} : qd Try.prog 101 (qtl (R := R)) :=
  qch tabOk follows Try.func101 (by kernel_rfl) qbjd hdeI qbgq (qbh (by kernel_rfl)) fun xs => qbjc _ _
def qbb5 : Shp := ⟨[(0, .st (lk qd2)), (1, .st (lk qd2))], []⟩
def qvo (Aa : Bool) (Ab Ac : Int) (Aq : Bool) (Ar As : Int) : Option Int :=
  (bif ((!((Aa == Aq) && true)) && Aq) then (some (-1 : Int)) else (bif (!((Aa == Aq) && true)) then (some (1 : Int)) else (bif (Ab != Ar) then (oB (qrk Ab Ar) fun r1 => (some r1)) else (oB (qrk Ac As) fun r2 => (some r2)))))
def qp1 := hull qvo
theorem q1f : qp1 = qvo := qk _
def qvp : AC Int :=
  .seq (.reg [ao 2 (.box 0),
 ao 3 (.box 1),
 ao 4 (.mv (.c (.int .i64 0)))]) (.seq (.block 0 (.seq (.reg [ao 6 (.fa 0 2),
 ao 7 (.load false 1 6),
 ao 8 (.fa 0 3),
 ao 9 (.load false 1 8),
 ao 10 (.eq true false [.b] 7 9),
 ao 11 (.mv 10),
 .grp 11 true [(pg 12 11 true (.fa 0 3)), (pg 13 11 true (.load false 1 12))] 14 13,
 ao 5 (.mv 14)]) (.cond 5 (.seq (.reg [ao 4 (.mv (.c (.int .i64 (-1))))]) (.ret)) (.seq (.reg [ao 16 (.fa 0 2),
 ao 17 (.load false 1 16),
 ao 18 (.fa 0 3),
 ao 19 (.load false 1 18),
 ao 20 (.eq true false [.b] 17 19),
 ao 15 (.mv 20)]) (.cond 15 (.seq (.reg [ao 4 (.mv (.c (.int .i64 1)))]) (.ret)) (.seq (.reg [ao 22 (.fa 1 2),
 ao 23 (.load false 1 22),
 ao 24 (.fa 1 3),
 ao 25 (.load false 1 24),
 ao 26 (.bin .neq 23 25),
 ao 21 (.mv 26)]) (.cond 21 (.seq (.reg [ao 27 (.fa 1 2),
 ao 28 (.load false 1 27),
 ao 29 (.fa 1 3),
 ao 30 (.load false 1 29),
 .call (po 31 (.call 101 [28, 30])) 101 qtl,
 ao 4 (.mv 31)]) (.ret)) (.skip)))))))) (.seq (.reg [ao 32 (.fa 2 2),
 ao 33 (.load false 1 32),
 ao 34 (.fa 2 3),
 ao 35 (.load false 1 34),
 .call (po 36 (.call 101 [33, 35])) 101 qtl,
 ao 4 (.mv 36)]) (.ret)))
theorem qbds : AC.ok Try.prog (TIof Try.prog) 37 0 (kret [.t 4] (decI .i64)) qvp := qo (zA (qd.ok q5w) (zA (qd.ok q5w) trivial))
theorem qbgr (Aa : Bool) (Ab Ac : Int) (Aq : Bool) (Ar As : Int) : den 0 (kret [.t 4] (decI .i64)) qvp (qj [(0, .agg (qbr Aa Ab Ac)), (1, .agg (qbr Aq Ar As))]) (qh []) (kend (kret [.t 4] (decI .i64))) = qp1 Aa Ab Ac Aq Ar As := by
  rw [q1f]; kernel_rfl
theorem qbgs : cFn (TIof Try.prog) Try.f75 = some ⟨37, [.t 4], scOf qvp⟩ := by kernel_rfl
def qbgt (xs : List AV) : Option Int := qc2 ((ql xs) 1).cells (qc2 ((ql xs) 0).cells (qp1))
def qzv {R : Type} : List AV → (AV → Option R) → Option R := entF qbb5 qbgt (AV.int .i64)
theorem qbgu {R : Type} : qd Try.prog 75 (qzv (R := R)) :=
  qch tabOk follows Try.func75 (by kernel_rfl) qbgs hdeI qbds (qbh (by kernel_rfl)) fun xs => qbgr _ _ _ _ _ _
def q67 : Shp := ⟨[(0, .st (lk qi)), (1, .st (lk qi))], []⟩
def qsi (Aa : Bool) (Ab Ac Ad : Int) (Aq : Bool) (Ar As At : Int) : Option Int :=
  (oB (qp1 Aa Ab Ac Aq Ar As) fun r1 => (bif (r1 != (0 : Int)) then (some r1) else (bif (decide (Ad < At)) then (some (-1 : Int)) else (bif (decide (Ad > At)) then (some (1 : Int)) else (some (0 : Int))))))
def qln := hull qsi
theorem qyf : qln = qsi := qk _
def qsj : AC Int :=
  .seq (.reg [ao 2 (.box 0),
 ao 3 (.box 1),
 ao 4 (.mv (.c (.int .i64 0)))]) (.seq (.seq (.reg [ao 6 (.fa 0 2),
 ao 7 (.load true 3 6),
 ao 8 (.fa 0 3),
 ao 9 (.load true 3 8),
 .call (po 10 (.call 75 [7, 9])) 75 qzv,
 ao 5 (.mv 10)]) (.seq (.reg [ao 11 (.mv 5),
 ao 12 (.bin .neq 11 (.c (.int .i64 0)))]) (.cond 12 (.seq (.reg [ao 13 (.mv 5),
 ao 4 (.mv 13)]) (.ret)) (.skip)))) (.seq (.block 0 (.seq (.reg [ao 15 (.fa 3 2),
 ao 16 (.load false 1 15),
 ao 17 (.fa 3 3),
 ao 18 (.load false 1 17),
 ao 19 (.bin .lss 16 18),
 ao 14 (.mv 19)]) (.cond 14 (.seq (.reg [ao 4 (.mv (.c (.int .i64 (-1))))]) (.ret)) (.seq (.reg [ao 21 (.fa 3 2),
 ao 22 (.load false 1 21),
 ao 23 (.fa 3 3),
 ao 24 (.load false 1 23),
 ao 25 (.bin .gtr 22 24),
 ao 20 (.mv 25)]) (.cond 20 (.seq (.reg [ao 4 (.mv (.c (.int .i64 1)))]) (.ret)) (.skip)))))) (.seq (.reg [ao 4 (.mv (.c (.int .i64 0)))]) (.ret))))
theorem q9x : AC.ok Try.prog (TIof Try.prog) 26 0 (kret [.t 4] (decI .i64)) qsj := qo (zA (qd.ok qbgu) trivial)
theorem qbb6 (Aa : Bool) (Ab Ac Ad : Int) (Aq : Bool) (Ar As At : Int) : den 0 (kret [.t 4] (decI .i64)) qsj (qj [(0, .agg (qc Aa Ab Ac Ad)), (1, .agg (qc Aq Ar As At))]) (qh []) (kend (kret [.t 4] (decI .i64))) = qln Aa Ab Ac Ad Aq Ar As At := by
  rw [qyf]; kernel_rfl
theorem qbb7 : cFn (TIof Try.prog) Try.f40 = some ⟨26, [.t 4], scOf qsj⟩ := by kernel_rfl
def qbb8 (xs : List AV) : Option Int := qg ((ql xs) 1).cells (qg ((ql xs) 0).cells (qln))
def qp2 {R : Type} : List AV → (AV → Option R) → Option R := entF q67 qbb8 (AV.int .i64)
theorem qzw {R : Type} : qd Try.prog 40 (qp2 (R := R)) :=
  qch tabOk follows Try.func40 (by kernel_rfl) qbb7 hdeI q9x (qbh (by kernel_rfl)) fun xs => qbb6 _ _ _ _ _ _ _ _
def ql5 (z : AV) : Option (AV × Bool) := cond (qnm [(.st [.b, (.i .u64), (.i .u64), (.i .i64)]), (.one .b)] z) (some ((gC (tpL z) 0), aB (gC (tpL z) 1))) none
def qbjf (r : AV × Bool) : AV := .tup [qpm (.st [.b, (.i .u64), (.i .u64), (.i .i64)]) r.1, .bool r.2]
def q1g  (v1 : Int) (Ai : Bool) (Aj Ak : Int) (Au : Bool) (Av Aw Ax : Int) (K : Ex → Env → Mem → Option (AV × Bool)) := (fun z_v20 => K .norm (qj [(1, (.int .i64 v1)), (2, (.ptr 0 0)), (4, (.ptr 1 0)), (20, (.bool z_v20))]) (qh [(some (.box true (qbr Ai Aj Ak))), (some (.box true (qc Au Av Aw Ax)))]))
def qbb9 : Shp := ⟨[(1, .one (.l (.i .i64))), (2, .one (.ptr 0 0)), (4, .one (.ptr 1 0))], [.box true (lk qd2), .box true (lk qi)]⟩
def qvq  (v1 : Int) (Ai : Bool) (Aj Ak : Int) (Au : Bool) (Av Aw Ax : Int) (kn : Bool → Option (AV × Bool)) : Option (AV × Bool) :=
  (oB (qqk Ai Aj Ak) fun r1 => (bif ((!r1) || (decide (v1 < (0 : Int)))) then (kn true) else (oB (qio Ai Aj Ak) fun r2 => (kn (decide (v1 > r2))))))
def qtm := hull (qvq)
theorem q1h : qtm = qvq := qk _
def qqm : AC (AV × Bool) :=
  .seq (.reg [ao 8 (.load true 3 2),
 .call (po 9 (.call 73 [8])) 73 qvg,
 ao 10 (.un .not 9),
 ao 11 (.mv 10),
 .grp 11 false [(pg 12 11 false (.mv 1)), (pg 13 11 false (.bin .lss 12 (.c (.int .i64 0))))] 14 13,
 ao 15 (.mv 14),
 ag 16 15 false (.mv 1),
 ag 17 15 false (.load true 3 2),
 .call (pg 18 15 false (.call 76 [17])) 76 qk2,
 ag 19 15 false (.bin .gtr 16 18),
 ao 20 (.pick 15 (.c (.bool true)) 19)]) (.view [.sel [1, 2, 4, 20] [0, 1]])
theorem qbdt : AC.ok Try.prog (TIof Try.prog) 42 0 (kret [(.cell 4 true 4), .t 5] ql5) qqm := qo (zA (qd.ok q62) (zA (qd.ok qo8) trivial))
theorem qbgv (v1 : Int) (Ai : Bool) (Aj Ak : Int) (Au : Bool) (Av Aw Ax : Int) (K : Ex → Env → Mem → Option (AV × Bool)) : den 0 (kret [(.cell 4 true 4), .t 5] ql5) qqm (qj [(1, (.int .i64 v1)), (2, (.ptr 0 0)), (4, (.ptr 1 0))]) (qh [(some (.box true (qbr Ai Aj Ak))), (some (.box true (qc Au Av Aw Ax)))]) K = qtm v1 Ai Aj Ak Au Av Aw Ax (q1g v1 Ai Aj Ak Au Av Aw Ax K) := by
  rw [q1h]; kernel_rfl
def q2t := subE (R := AV × Bool) qbb9 fun t m K => qg (bxC (m.s 1)) (qc2 (bxC (m.s 0)) (qtm (gI [t 1] 0))) (q1g (gI [t 1] 0) (gB (bxC (m.s 0)) 0) (gI (bxC (m.s 0)) 1) (gI (bxC (m.s 0)) 2) (gB (bxC (m.s 1)) 0) (gI (bxC (m.s 1)) 1) (gI (bxC (m.s 1)) 2) (gI (bxC (m.s 1)) 3) K)
theorem qbgw : qdh Try.prog (TIof Try.prog) 42 0 (kret [(.cell 4 true 4), .t 5] ql5) (scOf qqm) (q2t) :=
  qke tabOk follows (qbdt) (qbh (by kernel_rfl)) fun t m K => qbgv _ _ _ _ _ _ _ _ K
def qbjg : Shp := ⟨[(0, .st (lk qd2)), (1, .one (.l (.i .i64)))], []⟩
def q19 (Aa : Bool) (Ab Ac v1 : Int) : Option (AV × Bool) :=
  (qtm v1 Aa Ab Ac false (0 : Int) (0 : Int) (0 : Int) (fun v20q1 => (bif v20q1 then (some ((.agg [(.bool false), (.int .u64 (0 : Int)), (.int .u64 (0 : Int)), (.int .i64 (0 : Int))]), false)) else (oB (qm7 Aa v1) fun r2 => (some ((.agg [(.bool Aa), (.int .u64 (qcg .andNot .u64 Ab r2.1)), (.int .u64 (qcg .andNot .u64 Ac r2.2)), (.int .i64 v1)]), true))))))
def qws := hull q19
theorem q68 : qws = q19 := qk _
def q2a : AC (AV × Bool) :=
  .seq (.reg [ao 2 (.box 0),
 ao 4 (.alloc [(.bool false), (.int .u64 0), (.int .u64 0), (.int .i64 0)]),
 ao 5 (.mv (.c (.bool false)))]) (.seq (.seq (.seq (.view [.sel [1, 2, 4] [0, 1]]) (.sub (scOf qqm) q2t)) (.cond 20 (.seq (.reg [ao 21 (.build [(.bool false), (.int .u64 0), (.int .u64 0), (.int .i64 0)] []),
 an (.store 4 4 21),
 ao 5 (.mv (.c (.bool false)))]) (.ret)) (.skip))) (.seq (.reg [ao 23 (.fa 0 2),
 ao 24 (.load false 1 23),
 ao 25 (.mv 1),
 .call (po 26 (.call 72 [24, 25])) 72 qse,
 ao 22 (.mv 26),
 ao 27 (.ext 22 0),
 ao 28 (.ext 22 1),
 ao 6 (.mv 27),
 ao 7 (.mv 28)]) (.seq (.reg [ao 29 (.fa 1 2),
 ao 30 (.load false 1 29),
 ao 31 (.mv 6),
 ao 32 (.bin .andNot 30 31),
 ao 33 (.fa 1 2),
 an (.store 1 33 32)]) (.seq (.reg [ao 34 (.fa 2 2),
 ao 35 (.load false 1 34),
 ao 36 (.mv 7),
 ao 37 (.bin .andNot 35 36),
 ao 38 (.fa 2 2),
 an (.store 1 38 37)]) (.seq (.reg [ao 39 (.load true 3 2),
 ao 40 (.mv 1),
 ao 41 (.build [(.bool false), (.int .u64 0), (.int .u64 0), (.int .i64 0)] [(0, (3, 39)), (3, (1, 40))]),
 an (.store 4 4 41),
 ao 5 (.mv (.c (.bool true)))]) (.ret))))))
theorem qbkr : AC.ok Try.prog (TIof Try.prog) 42 0 (kret [(.cell 4 true 4), .t 5] ql5) q2a := qo (zA qbgw (zA (qd.ok q2p) trivial))
theorem qbmm (Aa : Bool) (Ab Ac v1 : Int) : den 0 (kret [(.cell 4 true 4), .t 5] ql5) q2a (qj [(0, .agg (qbr Aa Ab Ac)), (1, (.int .i64 v1))]) (qh []) (kend (kret [(.cell 4 true 4), .t 5] ql5)) = qws Aa Ab Ac v1 := by
  rw [q68]; kernel_rfl
theorem qbmn : cFn (TIof Try.prog) Try.f41 = some ⟨42, [(.cell 4 true 4), .t 5], scOf q2a⟩ := by kernel_rfl
def qbmo (xs : List AV) : Option (AV × Bool) := qc2 ((ql xs) 0).cells (qws) (gI [(ql xs) 1] 0)
def q5x {R : Type} : List AV → (AV → Option R) → Option R := entF qbjg qbmo qbjf
theorem qbmp {R : Type} : qd Try.prog 41 (q5x (R := R)) :=
  qch tabOk follows Try.func41 (by kernel_rfl) qbmn (fun z r h => by
 obtain ⟨h1, h2⟩ := qn h
 cases h2
 exact (qkd h1).symm) qbkr (qbh (by kernel_rfl)) fun xs => qbmm _ _ _ _
def q6c : Shp := ⟨[(0, .st (lk qi)), (1, .st (lk qd2))], []⟩
def qq0 (Aa : Bool) (Ab Ac Ad : Int) (Aq : Bool) (Ar As : Int) : Option Bool :=
  (oB (qgd Aa Ab Ac Ad) fun r1 => (bif ((!r1) || (!((Aa == Aq) && true))) then (some false) else (oB (qws Aq Ar As Ad) fun r2 => (some (r2.2 && (((gB r2.1.cells 0) == Aa) && (((gI r2.1.cells 1) == Ab) && (((gI r2.1.cells 2) == Ac) && (((gI r2.1.cells 3) == Ad) && true)))))))))
def qf2 := hull qq0
theorem qwt : qf2 = qq0 := qk _
def qq1 : AC Bool :=
  .seq (.reg [ao 2 (.box 0),
 ao 3 (.box 1),
 ao 4 (.mv (.c (.bool false)))]) (.seq (.seq (.reg [ao 7 (.load true 4 2),
 .call (po 8 (.call 71 [7])) 71 qgl,
 ao 9 (.un .not 8),
 ao 10 (.mv 9),
 .grp 10 false [(pg 11 10 false (.fa 0 2)), (pg 12 10 false (.fa 0 11)), (pg 13 10 false (.load false 1 12)), (pg 14 10 false (.fa 0 3)), (pg 15 10 false (.load false 1 14)), (pg 16 10 false (.eq true false [.b] 13 15))] 17 16]) (.cond 17 (.seq (.reg [ao 4 (.mv (.c (.bool false)))]) (.ret)) (.skip))) (.seq (.reg [ao 19 (.load true 3 3),
 ao 20 (.fa 3 2),
 ao 21 (.load false 1 20),
 .call (po 22 (.call 41 [19, 21])) 41 q5x,
 ao 18 (.mv 22),
 ao 23 (.ext 18 0),
 ao 24 (.ext 18 1),
 ao 5 (.alloc [(.bool false), (.int .u64 0), (.int .u64 0), (.int .i64 0)]),
 an (.store 4 5 23),
 ao 6 (.mv 24)]) (.seq (.reg [ao 25 (.mv 6),
 ao 26 (.mv 25),
 .grp 26 true [(pg 27 26 true (.load true 4 5)), (pg 28 26 true (.load true 4 2)), (pg 29 26 true (.eq false true [.b, (.i .u64), (.i .u64), (.i .i64)] 27 28))] 30 29,
 ao 4 (.mv 30)]) (.ret))))
theorem q69 : AC.ok Try.prog (TIof Try.prog) 31 0 (kret [.t 4] decB) qq1 := qo (zA (qd.ok qll) (zA (qd.ok qbmp) trivial))
theorem q9y (Aa : Bool) (Ab Ac Ad : Int) (Aq : Bool) (Ar As : Int) : den 0 (kret [.t 4] decB) qq1 (qj [(0, .agg (qc Aa Ab Ac Ad)), (1, .agg (qbr Aq Ar As))]) (qh []) (kend (kret [.t 4] decB)) = qf2 Aa Ab Ac Ad Aq Ar As := by
  rw [qwt]; kernel_rfl
theorem q9z : cFn (TIof Try.prog) Try.f35 = some ⟨31, [.t 4], scOf qq1⟩ := by kernel_rfl
def q90 (xs : List AV) : Option Bool := qc2 ((ql xs) 1).cells (qg ((ql xs) 0).cells (qf2))
def qi3 {R : Type} : List AV → (AV → Option R) → Option R := entF q6c q90 AV.bool
theorem qmw {R : Type} : qd Try.prog 35 (qi3 (R := R)) :=
  qch tabOk follows Try.func35 (by kernel_rfl) q9z hdeB q69 (qbh (by kernel_rfl)) fun xs => q9y _ _ _ _ _ _ _
def q91 : Shp := ⟨[(0, .st (lk qi)), (1, .st (lk qi))], []⟩
def qtn (Aa : Bool) (Ab Ac Ad : Int) (Aq : Bool) (Ar As At : Int) : Option Bool :=
  (oB (qgd Aa Ab Ac Ad) fun r1 => (bif r1 then (oB (qgd Aq Ar As At) fun r2 => (bif (r2 && (decide (Ad ≥ At))) then (oB (qf2 Aq Ar As At Aa Ab Ac) fun r3 => (some r3)) else (some false))) else (some false)))
def qip := hull qtn
theorem qzx : qip = qtn := qk _
def qto : AC Bool :=
  .seq (.reg [ao 2 (.box 0),
 ao 3 (.box 1),
 ao 4 (.mv (.c (.bool false)))]) (.seq (.reg [ao 5 (.load true 4 2),
 .call (po 6 (.call 71 [5])) 71 qgl,
 ao 7 (.mv 6),
 ag 8 7 true (.load true 4 3),
 .call (pg 9 7 true (.call 71 [8])) 71 qgl,
 ao 10 (.pick 7 9 (.c (.bool false))),
 ao 11 (.mv 10),
 .grp 11 true [(pg 12 11 true (.fa 3 2)), (pg 13 11 true (.load false 1 12)), (pg 14 11 true (.fa 3 3)), (pg 15 11 true (.load false 1 14)), (pg 16 11 true (.bin .geq 13 15))] 17 16,
 ao 18 (.mv 17),
 ag 19 18 true (.load true 4 3),
 ag 20 18 true (.fa 0 2),
 ag 21 18 true (.load true 3 20),
 .call (pg 22 18 true (.call 35 [19, 21])) 35 qi3,
 ao 23 (.pick 18 22 (.c (.bool false))),
 ao 4 (.mv 23)]) (.ret))
theorem qbca : AC.ok Try.prog (TIof Try.prog) 24 0 (kret [.t 4] decB) qto := qo (zA (qd.ok qll) (zA (qd.ok qll) (zA (qd.ok qmw) trivial)))
theorem qbdu (Aa : Bool) (Ab Ac Ad : Int) (Aq : Bool) (Ar As At : Int) : den 0 (kret [.t 4] decB) qto (qj [(0, .agg (qc Aa Ab Ac Ad)), (1, .agg (qc Aq Ar As At))]) (qh []) (kend (kret [.t 4] decB)) = qip Aa Ab Ac Ad Aq Ar As At := by
  rw [qzx]; kernel_rfl
theorem qbdv : cFn (TIof Try.prog) Try.f37 = some ⟨24, [.t 4], scOf qto⟩ := by kernel_rfl
def qbdw (xs : List AV) : Option Bool := qg ((ql xs) 1).cells (qg ((ql xs) 0).cells (qip))
def qk3 {R : Type} : List AV → (AV → Option R) → Option R := entF q91 qbdw AV.bool
theorem qpa {R : Type} : qd Try.prog 37 (qk3 (R := R)) :=
  qch tabOk follows Try.func37 (by kernel_rfl) qbdv hdeB qbca (qbh (by kernel_rfl)) fun xs => qbdu _ _ _ _ _ _ _ _
def qbdx : Shp := ⟨[(0, .st (lk qi)), (1, .st (lk qi))], []⟩
def qxt (Aa : Bool) (Ab Ac Ad : Int) (Aq : Bool) (Ar As At : Int) : Option Bool :=
  (bif (decide (Ad > At)) then (oB (qip Aa Ab Ac Ad Aq Ar As At) fun r1 => (some r1)) else (some false))
def qge := hull qxt
theorem q2u : qge = qxt := qk _
def qxu : AC Bool :=
  .seq (.reg [ao 2 (.box 0),
 ao 3 (.box 1),
 ao 4 (.mv (.c (.bool false)))]) (.seq (.reg [ao 5 (.fa 3 2),
 ao 6 (.load false 1 5),
 ao 7 (.fa 3 3),
 ao 8 (.load false 1 7),
 ao 9 (.bin .gtr 6 8),
 ao 10 (.mv 9),
 ag 11 10 true (.load true 4 2),
 ag 12 10 true (.load true 4 3),
 .call (pg 13 10 true (.call 37 [11, 12])) 37 qk3,
 ao 14 (.pick 10 13 (.c (.bool false))),
 ao 4 (.mv 14)]) (.ret))
theorem qbgx : AC.ok Try.prog (TIof Try.prog) 15 0 (kret [.t 4] decB) qxu := qo (zA (qd.ok qpa) trivial)
theorem qbjh (Aa : Bool) (Ab Ac Ad : Int) (Aq : Bool) (Ar As At : Int) : den 0 (kret [.t 4] decB) qxu (qj [(0, .agg (qc Aa Ab Ac Ad)), (1, .agg (qc Aq Ar As At))]) (qh []) (kend (kret [.t 4] decB)) = qge Aa Ab Ac Ad Aq Ar As At := by
  rw [q2u]; kernel_rfl
theorem qbji : cFn (TIof Try.prog) Try.f64 = some ⟨15, [.t 4], scOf qxu⟩ := by kernel_rfl
def qbjj (xs : List AV) : Option Bool := qg ((ql xs) 1).cells (qg ((ql xs) 0).cells (qge))
def qf3 {R : Type} : List AV → (AV → Option R) → Option R := entF qbdx qbjj AV.bool
theorem qkq {R : Type} : qd Try.prog 64 (qf3 (R := R)) :=
  qch tabOk follows Try.func64 (by kernel_rfl) qbji hdeB qbgx (qbh (by kernel_rfl)) fun xs => qbjh _ _ _ _ _ _ _ _
def q92 : Shp := ⟨[(0, .st (lk qa)), (1, .st (lk qa))], []⟩
def qtp (Aa : Bool) (Ab Ac Ad Ae : Int) (Af Ag : List UInt8) (Ah : Int) (Aq : Bool) (Ar As At Ay : Int) (Az A0 : List UInt8) (A1 : Int) : Option Bool :=
  (bif (Ae == (1 : Int)) then (some true) else (bif (Ae == (2 : Int)) then (some (Ay == (3 : Int))) else (some false)))
def qof := hull qtp
theorem qzy : qof = qtp := qk _
def qtq : AC Bool :=
  .seq (.reg [ao 2 (.box 0),
 ao 3 (.box 1),
 ao 4 (.mv (.c (.bool false)))]) (.seq (.reg [ao 5 (.fa 4 2),
 ao 6 (.load false 1 5),
 ao 7 (.bin .eql 6 (.c (.int .i64 1))),
 ao 8 (.mv 7),
 ag 9 8 false (.fa 4 2),
 ag 10 8 false (.load false 1 9),
 ag 11 8 false (.bin .eql 10 (.c (.int .i64 2))),
 ag 12 8 false (.mv 11),
 ag 13 12 true (.fa 4 3),
 ag 14 12 true (.load false 1 13),
 ag 15 12 true (.bin .eql 14 (.c (.int .i64 3))),
 ag 16 8 false (.pick 12 15 (.c (.bool false))),
 ao 17 (.pick 8 (.c (.bool true)) 16),
 ao 4 (.mv 17)]) (.ret))
theorem qbcb : AC.ok Try.prog (TIof Try.prog) 18 0 (kret [.t 4] decB) qtq := qo trivial
theorem qbdy (Aa : Bool) (Ab Ac Ad Ae : Int) (Af Ag : List UInt8) (Ah : Int) (Aq : Bool) (Ar As At Ay : Int) (Az A0 : List UInt8) (A1 : Int) : den 0 (kret [.t 4] decB) qtq (qj [(0, .agg (qb Aa Ab Ac Ad Ae Af Ag Ah)), (1, .agg (qb Aq Ar As At Ay Az A0 A1))]) (qh []) (kend (kret [.t 4] decB)) = qof Aa Ab Ac Ad Ae Af Ag Ah Aq Ar As At Ay Az A0 A1 := by
  rw [qzy]; kernel_rfl
theorem qbdz : cFn (TIof Try.prog) Try.f80 = some ⟨18, [.t 4], scOf qtq⟩ := by kernel_rfl
def qbd0 (xs : List AV) : Option Bool := qe ((ql xs) 1).cells (qe ((ql xs) 0).cells (qof))
def qyg {R : Type} : List AV → (AV → Option R) → Option R := entF q92 qbd0 AV.bool
theorem qbd1 {R : Type} : qd Try.prog 80 (qyg (R := R)) :=
  qch tabOk follows Try.func80 (by kernel_rfl) qbdz hdeB qbcb (qbh (by kernel_rfl)) fun xs => qbdy _ _ _ _ _ _ _ _ _ _ _ _ _ _ _ _
def q2b : Shp := ⟨[(0, .st (lk qa)), (1, .one (.ptr 0 0))], [.box true (lk qa)]⟩
def qs0 {R : Type} (KK : AV → Mem → Option R) := (fun v3 Ai Aj Ak Al Am An Ao Ap => KK (.bool v3) (qh [(some (.box true [(.bool Ai), (.int .u64 Aj), (.int .u64 Ak), (.int .i64 Al), (.int .i64 Am), (.str An), (.str Ao), (.int .i64 Ap)]))]))
def qns {R : Type}  (Aa : Bool) (Ab Ac Ad Ae : Int) (Af Ag : List UInt8) (Ah : Int) (Ai : Bool) (Aj Ak Al Am : Int) (An Ao : List UInt8) (Ap : Int) (kr : Bool → Bool → Int → Int → Int → Int → (List UInt8) → (List UInt8) → Int → Option R) : Option R :=
  (oB (qge Ai Aj Ak Al Aa Ab Ac Ad) fun r1 => (bif r1 then (oB (qof Aa Ab Ac Ad Ae Af Ag Ah Ai Aj Ak Al Am An Ao Ap) fun r2 => (kr (!r2) Ai Aj Ak Al Am An Ao Ap)) else (kr false Ai Aj Ak Al Am An Ao Ap)))
def qj4 {R : Type} := hull (qns (R := R))
theorem qs1 {R : Type} : qj4 (R := R) = qns := qk _
def qfu {R : Type} (KK : AV → Mem → Option R) : AC R :=
  .seq (.reg [ao 2 (.box 0),
 ao 3 (.mv (.c (.bool false)))]) (.seq (.reg [ao 4 (.fa 0 1),
 ao 5 (.load true 4 4),
 ao 6 (.fa 0 2),
 ao 7 (.load true 4 6),
 .call (po 8 (.call 64 [5, 7])) 64 qf3,
 ao 9 (.mv 8),
 ag 10 9 true (.load true 8 2),
 ag 11 9 true (.load true 8 1),
 .call (pg 12 9 true (.call 80 [10, 11])) 80 qyg,
 ag 13 9 true (.un .not 12),
 ao 14 (.pick 9 13 (.c (.bool false))),
 ao 3 (.mv 14)]) (.seq (.view [.sel [3] [0]]) (.ret)))
theorem q2v {R : Type} (KK : AV → Mem → Option R) : AC.ok Try.prog (TIof Try.prog) 15 1 (qm [.t 3] KK) (qfu KK) := qo (zA (qd.ok qkq) (zA (qd.ok qbd1) trivial))
theorem q4b {R : Type} (KK : AV → Mem → Option R) (Aa : Bool) (Ab Ac Ad Ae : Int) (Af Ag : List UInt8) (Ah : Int) (Ai : Bool) (Aj Ak Al Am : Int) (An Ao : List UInt8) (Ap : Int) : den 1 (qm [.t 3] KK) (qfu KK) (qj [(0, .agg (qb Aa Ab Ac Ad Ae Af Ag Ah)), (1, (.ptr 0 0))]) (qh [(some (.box true (qb Ai Aj Ak Al Am An Ao Ap)))]) (kend (qm [.t 3] KK)) = qj4 Aa Ab Ac Ad Ae Af Ag Ah Ai Aj Ak Al Am An Ao Ap (qs0 KK) := by
  rw [qs1]; kernel_rfl
theorem q4c : cFn (TIof Try.prog) Try.f79 = some ⟨15, [.t 3], scOf (qfu (R := Unit) (fun _ _ => none))⟩ := by kernel_rfl
theorem q4d {R : Type} (KK : AV → Mem → Option R) : (qfu KK).er = some (scOf (qfu (R := Unit) (fun _ _ => none))) := by kernel_rfl
def qtr {R : Type} : List AV → Mem → (AV → Mem → Option R) → Option R := refE q2b fun xs m KK => qe (bxC (m.s 0)) (qe ((ql xs) 0).cells (qj4)) (qs0 KK)
theorem q4e {R : Type} : qfe Try.prog 79 (qtr (R := R)) :=
  qkf (ac := fun KK => qfu KK) tabOk follows Try.func79 (by kernel_rfl) q4c (fun KK => q2v KK) (fun KK => q4d KK) rfl fun xs m KK => q4b KK _ _ _ _ _ _ _ _ _ _ _ _ _ _ _ _
def qbp {R : Type}  (K : Ex → Env → Mem → Option R) := (fun z_b0_0 z_b0_1 z_b0_2 z_b0_3 z_b0_4 z_b0_5 z_b0_6 z_b0_7 => K (.exit 0) (qj []) (qh [(some (.box true (qb z_b0_0 z_b0_1 z_b0_2 z_b0_3 z_b0_4 z_b0_5 z_b0_6 z_b0_7)))]))
def qbs {R : Type} (KK : AV → Mem → Option R) := (fun v4 Ai Aj Ak Al Am An Ao Ap => KK (.int .i64 v4) (qh [(some (.box true [(.bool Ai), (.int .u64 Aj), (.int .u64 Ak), (.int .i64 Al), (.int .i64 Am), (.str An), (.str Ao), (.int .i64 Ap)]))]))
def qgr : Shp := ⟨[(0, .one (.l (.sl 8))), (1, .one (.fn 79 [(0, 0)])), (7, .one (.l (.i .i64))), (8, .one (.l (.i .i64)))], [.box true (lk qa)]⟩
def qcp (v0 : List AV) (v7 v8 : Int) (Ai : Bool) (Aj Ak Al Am : Int) (An Ao : List UInt8) (Ap : Int) : Env := qj [(0, (.sl 8 v0)), (1, (.func 79 [(.ptr 0 0)])), (7, (.int .i64 v7)), (8, (.int .i64 v8))]
def qcq (v0 : List AV) (v7 v8 : Int) (Ai : Bool) (Aj Ak Al Am : Int) (An Ao : List UInt8) (Ap : Int) : Mem := qh [(some (.box true (qb Ai Aj Ak Al Am An Ao Ap)))]
def qu {R : Type}  (v0 : List AV) (v7 v8 : Int) (Ai : Bool) (Aj Ak Al Am : Int) (An Ao : List UInt8) (Ap : Int) (next : Int → Bool → Int → Int → Int → Int → (List UInt8) → (List UInt8) → Int → Option R) (kx0 : Bool → Int → Int → Int → Int → (List UInt8) → (List UInt8) → Int → Option R) (kr : Int → Bool → Int → Int → Int → Int → (List UInt8) → (List UInt8) → Int → Option R) : Option R :=
  (bif (decide (v8 < v7)) then (oB (ixB v0 v8) fun y1 => (bif fitC qa y1.cells then (qj4 (gB y1.cells 0) (gI y1.cells 1) (gI y1.cells 2) (gI y1.cells 3) (gI y1.cells 4) (gS y1.cells 5) (gS y1.cells 6) (gI y1.cells 7) Ai Aj Ak Al Am An Ao Ap fun v3q2 b0_0q3 b0_1q4 b0_2q5 b0_3q6 b0_4q7 b0_5q8 b0_6q9 b0_7q10 => (bif v3q2 then (kr v8 b0_0q3 b0_1q4 b0_2q5 b0_3q6 b0_4q7 b0_5q8 b0_6q9 b0_7q10) else (next (IntKind.i64.wrap (v8 + (1 : Int))) b0_0q3 b0_1q4 b0_2q5 b0_3q6 b0_4q7 b0_5q8 b0_6q9 b0_7q10))) else none)) else (kx0 Ai Aj Ak Al Am An Ao Ap))
def qbw {R : Type}  (v0 : List AV) (v7 : Int) (kx0 : Bool → Int → Int → Int → Int → (List UInt8) → (List UInt8) → Int → Option R) (kr : Int → Bool → Int → Int → Int → Int → (List UInt8) → (List UInt8) → Int → Option R) : Nat → Int → Bool → Int → Int → Int → Int → (List UInt8) → (List UInt8) → Int → Option R
  | 0 => (fun _ _ _ _ _ _ _ _ _ => none)
  | n + 1 => (fun v8 Ai Aj Ak Al Am An Ao Ap => qu v0 v7 v8 Ai Aj Ak Al Am An Ao Ap (qbw v0 v7 kx0 kr n) kx0 kr)
def qb4 {R : Type} := hull (qbw (R := R))
theorem qdo {R : Type} : qb4 (R := R) = qbw := qk _
def qv {R : Type} (KK : AV → Mem → Option R) : AC R :=
  .seq (.reg [ao 9 (.bin .lss 8 7)]) (.seq (.cond 9 (.skip) (.seq (.view [.sel [] [0]]) (.exit 0))) (.seq (.block 1 (.seq (.reg [ao 10 (.mv 8),
 ao 5 (.mv 10)]) (.seq (.reg [ao 11 (.mv 1),
 ao 12 (.mv 0),
 ao 13 (.mv 5),
 ao 14 (.ia 8 12 13),
 .st (.etac 14 qa),
 ao 15 (.load true 8 14),
 .st (.sel [0, 1, 5, 7, 8, 11, 15] [0]),
 .callr (po 16 (.callv 11 [15])) 79 qtr]) (.cond 16 (.seq (.reg [ao 17 (.mv 5),
 ao 4 (.mv 17)]) (.seq (.view [.sel [4] [0]]) (.ret))) (.skip))))) (.seq (.reg [ao 18 (.bin .add 8 (.c (.int .i64 1))),
 ao 8 (.mv 18)]) (.view [.sel [0, 1, 7, 8] [0]]))))
theorem qg5 {R : Type} (KK : AV → Mem → Option R) : AC.ok Try.prog (TIof Try.prog) 19 1 (qm [.t 4] KK) (qv KK) := qo (zA q4e trivial)
theorem qgs {R : Type} (KK : AV → Mem → Option R) (v0 : List AV) (v7 v8 : Int) (Ai : Bool) (Aj Ak Al Am : Int) (An Ao : List UInt8) (Ap : Int) (K : Ex → Env → Mem → Option R) : den 1 (qm [.t 4] KK) (qv KK) (qcp v0 v7 v8 Ai Aj Ak Al Am An Ao Ap) (qcq v0 v7 v8 Ai Aj Ak Al Am An Ao Ap) K = qu v0 v7 v8 Ai Aj Ak Al Am An Ao Ap (fun z_v8 z_b0_0 z_b0_1 z_b0_2 z_b0_3 z_b0_4 z_b0_5 z_b0_6 z_b0_7 => K .norm (qcp v0 v7 z_v8 z_b0_0 z_b0_1 z_b0_2 z_b0_3 z_b0_4 z_b0_5 z_b0_6 z_b0_7) (qcq v0 v7 z_v8 z_b0_0 z_b0_1 z_b0_2 z_b0_3 z_b0_4 z_b0_5 z_b0_6 z_b0_7)) (qbp K) (qbs KK) := by kernel_rfl
theorem qhg {R : Type} (KK : AV → Mem → Option R) (v0 : List AV) (v7 : Int) (K : Ex → Env → Mem → Option R) : ∀ (n : Nat) (v8 : Int) (Ai : Bool) (Aj Ak Al Am : Int) (An Ao : List UInt8) (Ap : Int), qg4 (den 1 (qm [.t 4] KK) (qv KK)) n (qcp v0 v7 v8 Ai Aj Ak Al Am An Ao Ap) (qcq v0 v7 v8 Ai Aj Ak Al Am An Ao Ap) K = qb4 v0 v7 (qbp K) (qbs KK) n v8 Ai Aj Ak Al Am An Ao Ap := by
  rw [qdo]
  intro n
  induction n with
  | zero => intros; rfl
  | succ n ih =>
 intro v8 Ai Aj Ak Al Am An Ao Ap
 exact (qgs KK v0 v7 v8 Ai Aj Ak Al Am An Ao Ap (itK (den 1 (qm [.t 4] KK) (qv KK)) n K)).trans (congrArg (fun q => qu v0 v7 v8 Ai Aj Ak Al Am An Ao Ap q (qbp K) (qbs KK)) (funext fun v8 => funext fun Ai => funext fun Aj => funext fun Ak => funext fun Al => funext fun Am => funext fun An => funext fun Ao => funext fun Ap => ih v8 Ai Aj Ak Al Am An Ao Ap))
def qdw {R : Type} (KK : AV → Mem → Option R) := subE (R := R) qgr fun t m K => qe (bxC (m.s 0)) (qb4 (gL [t 0] 0) (gI [t 7] 0) (qbp K) (qbs KK) FU (gI [t 8] 0))
theorem qhh {R : Type} (KK : AV → Mem → Option R) : qdh Try.prog (TIof Try.prog) 19 1 (qm [.t 4] KK) (.loop (scOf (qv KK))) (qdw KK) :=
  qie tabOk follows (qg5 KK) (qbh (by kernel_rfl)) fun t m K => qhg KK _ _ K FU _ _ _ _ _ _ _ _ _
def qhp : Shp := ⟨[(0, .one (.l (.sl 8))), (1, .one (.fn 79 [(0, 0)]))], [.box true (lk qa)]⟩
def qd8 {R : Type} (KK : AV → Mem → Option R) := (fun v4 Ai Aj Ak Al Am An Ao Ap => KK (.int .i64 v4) (qh [(some (.box true [(.bool Ai), (.int .u64 Aj), (.int .u64 Ak), (.int .i64 Al), (.int .i64 Am), (.str An), (.str Ao), (.int .i64 Ap)]))]))
def qc3 {R : Type}  (v0 : List AV) (Ai : Bool) (Aj Ak Al Am : Int) (An Ao : List UInt8) (Ap : Int) (kr : Int → Bool → Int → Int → Int → Int → (List UInt8) → (List UInt8) → Int → Option R) : Option R :=
  (qb4 v0 (v0.length : Int) (fun b0_0q1 b0_1q2 b0_2q3 b0_3q4 b0_4q5 b0_5q6 b0_6q7 b0_7q8 => (kr (-1 : Int) b0_0q1 b0_1q2 b0_2q3 b0_3q4 b0_4q5 b0_5q6 b0_6q7 b0_7q8)) kr FU (0 : Int) Ai Aj Ak Al Am An Ao Ap)
def qbl {R : Type} := hull (qc3 (R := R))
theorem qd9 {R : Type} : qbl (R := R) = qc3 := qk _
def qba {R : Type} (KK : AV → Mem → Option R) : AC R :=
  .seq (.reg [ao 4 (.mv (.c (.int .i64 0)))]) (.seq (.seq (.reg [ao 6 (.mv 0),
 ao 7 (.len false 6),
 ao 8 (.mv (.c (.int .i64 0)))]) (.block 0 (.seq (.view [.sel [0, 1, 7, 8] [0]]) (.sub (.loop (scOf (qv KK))) (qdw KK))))) (.seq (.reg [ao 4 (.mv (.c (.int .i64 (-1))))]) (.seq (.view [.sel [4] [0]]) (.ret))))
theorem qif {R : Type} (KK : AV → Mem → Option R) : AC.ok Try.prog (TIof Try.prog) 19 1 (qm [.t 4] KK) (qba KK) := qo (zA (qhh KK) trivial)
theorem qis {R : Type} (KK : AV → Mem → Option R) (v0 : List AV) (Ai : Bool) (Aj Ak Al Am : Int) (An Ao : List UInt8) (Ap : Int) : den 1 (qm [.t 4] KK) (qba KK) (qj [(0, (.sl 8 v0)), (1, (.func 79 [(.ptr 0 0)]))]) (qh [(some (.box true (qb Ai Aj Ak Al Am An Ao Ap)))]) (kend (qm [.t 4] KK)) = qbl v0 Ai Aj Ak Al Am An Ao Ap (qd8 KK) := by
  rw [qd9]; kernel_rfl
theorem qit : cFn (TIof Try.prog) Try.f88 = some ⟨19, [.t 4], scOf (qba (R := Unit) (fun _ _ => none))⟩ := by kernel_rfl
theorem qiu {R : Type} (KK : AV → Mem → Option R) : (qba KK).er = some (scOf (qba (R := Unit) (fun _ _ => none))) := by kernel_rfl
def qem {R : Type} : List AV → Mem → (AV → Mem → Option R) → Option R := refE qhp fun xs m KK => qe (bxC (m.s 0)) (qbl (gL [(ql xs) 0] 0)) (qd8 KK)
theorem qiv {R : Type} : qfe Try.prog 88 (qem (R := R)) :=
  qkf (ac := fun KK => qba KK) tabOk follows Try.func88 (by kernel_rfl) qit (fun KK => qif KK) (fun KK => qiu KK) rfl fun xs m KK => qis KK _ _ _ _ _ _ _ _ _
def qgt : Shp := ⟨[(0, .one (.l (.sl 8))), (1, .one (.fn 79 [(0, 0)]))], [.box true (lk qa)]⟩
def qdp {R : Type} (KK : AV → Mem → Option R) := (fun v4 Ai Aj Ak Al Am An Ao Ap => KK (.bool v4) (qh [(some (.box true [(.bool Ai), (.int .u64 Aj), (.int .u64 Ak), (.int .i64 Al), (.int .i64 Am), (.str An), (.str Ao), (.int .i64 Ap)]))]))
def qct {R : Type}  (v0 : List AV) (Ai : Bool) (Aj Ak Al Am : Int) (An Ao : List UInt8) (Ap : Int) (kr : Bool → Bool → Int → Int → Int → Int → (List UInt8) → (List UInt8) → Int → Option R) : Option R :=
  (qbl v0 Ai Aj Ak Al Am An Ao Ap fun v4q1 b0_0q2 b0_1q3 b0_2q4 b0_3q5 b0_4q6 b0_5q7 b0_6q8 b0_7q9 => (kr (decide (v4q1 ≥ (0 : Int))) b0_0q2 b0_1q3 b0_2q4 b0_3q5 b0_4q6 b0_5q7 b0_6q8 b0_7q9))
def qb5 {R : Type} := hull (qct (R := R))
theorem qdq {R : Type} : qb5 (R := R) = qct := qk _
def qw {R : Type} (KK : AV → Mem → Option R) : AC R :=
  .seq (.reg [ao 4 (.mv (.c (.bool false)))]) (.seq (.reg [ao 5 (.mv 0),
 ao 6 (.mv 1),
 .st (.sel [5, 6] [0]),
 .callr (po 7 (.call 88 [5, 6])) 88 qem,
 ao 8 (.bin .geq 7 (.c (.int .i64 0))),
 ao 4 (.mv 8)]) (.seq (.view [.sel [4] [0]]) (.ret)))
theorem qg6 {R : Type} (KK : AV → Mem → Option R) : AC.ok Try.prog (TIof Try.prog) 9 1 (qm [.t 4] KK) (qw KK) := qo (zA qiv trivial)
theorem qhi {R : Type} (KK : AV → Mem → Option R) (v0 : List AV) (Ai : Bool) (Aj Ak Al Am : Int) (An Ao : List UInt8) (Ap : Int) : den 1 (qm [.t 4] KK) (qw KK) (qj [(0, (.sl 8 v0)), (1, (.func 79 [(.ptr 0 0)]))]) (qh [(some (.box true (qb Ai Aj Ak Al Am An Ao Ap)))]) (kend (qm [.t 4] KK)) = qb5 v0 Ai Aj Ak Al Am An Ao Ap (qdp KK) := by
  rw [qdq]; kernel_rfl
theorem qhj : cFn (TIof Try.prog) Try.f68 = some ⟨9, [.t 4], scOf (qw (R := Unit) (fun _ _ => none))⟩ := by kernel_rfl
theorem qhk {R : Type} (KK : AV → Mem → Option R) : (qw KK).er = some (scOf (qw (R := Unit) (fun _ _ => none))) := by kernel_rfl
def qdx {R : Type} : List AV → Mem → (AV → Mem → Option R) → Option R := refE qgt fun xs m KK => qe (bxC (m.s 0)) (qb5 (gL [(ql xs) 0] 0)) (qdp KK)
theorem qhl {R : Type} : qfe Try.prog 68 (qdx (R := R)) :=
  qkf (ac := fun KK => qw KK) tabOk follows Try.func68 (by kernel_rfl) qhj (fun KK => qg6 KK) (fun KK => qhk KK) rfl fun xs m KK => qhi KK _ _ _ _ _ _ _ _ _
def q4f : Shp := ⟨[(0, .one (.l (.sl 8))), (1, .st (lk qa))], []⟩
def qp3 (v0 : List AV) (Aq : Bool) (Ar As At Ay : Int) (Az A0 : List UInt8) (A1 : Int) : Option Bool :=
  (qb5 v0 Aq Ar As At Ay Az A0 A1 fun v4q1 b0_0q2 b0_1q3 b0_2q4 b0_3q5 b0_4q6 b0_5q7 b0_6q8 b0_7q9 => (some v4q1))
def qgm := hull qp3
theorem qu2 : qgm = qp3 := qk _
def qp4 : AC Bool :=
  .seq (.reg [ao 3 (.box 1),
 ao 4 (.mv (.c (.bool false)))]) (.seq (.reg [ao 5 (.mv 0),
 ao 6 (.mkf 79 [3]),
 .st (.sel [5, 6] [0]),
 .callr (po 7 (.call 68 [5, 6])) 68 qdx,
 ao 4 (.mv 7)]) (.ret))
theorem q6d : AC.ok Try.prog (TIof Try.prog) 8 0 (kret [.t 4] decB) qp4 := qo (zA qhl trivial)
theorem q7a (v0 : List AV) (Aq : Bool) (Ar As At Ay : Int) (Az A0 : List UInt8) (A1 : Int) : den 0 (kret [.t 4] decB) qp4 (qj [(0, (.sl 8 v0)), (1, .agg (qb Aq Ar As At Ay Az A0 A1))]) (qh []) (kend (kret [.t 4] decB)) = qgm v0 Aq Ar As At Ay Az A0 A1 := by
  rw [qu2]; kernel_rfl
theorem q7b : cFn (TIof Try.prog) Try.f44 = some ⟨8, [.t 4], scOf qp4⟩ := by kernel_rfl
def q7c (xs : List AV) : Option Bool := qe ((ql xs) 1).cells (qgm (gL [(ql xs) 0] 0))
def qnt {R : Type} : List AV → (AV → Option R) → Option R := entF q4f q7c AV.bool
theorem qwu {R : Type} : qd Try.prog 44 (qnt (R := R)) :=
  qch tabOk follows Try.func44 (by kernel_rfl) q7b hdeB q6d (qbh (by kernel_rfl)) fun xs => q7a _ _ _ _ _ _ _ _ _
def qu3  (v0 : List AV) (v3 : Int) (v10 : List AV) (v11 v12 : Int) (Ai : Bool) (Aj Ak Al Am : Int) (An Ao : List UInt8) (Ap : Int) (K : Ex → Env → Mem → Option Int) := (fun (_ : Unit) => K .norm (qj [(0, (.sl 8 v0)), (3, (.int .i64 v3)), (4, (.ptr 0 0)), (10, (.sl 8 v10)), (11, (.int .i64 v11)), (12, (.int .i64 v12))]) (qh [(some (.box true (qb Ai Aj Ak Al Am An Ao Ap)))]))
def q4g : Shp := ⟨[(0, .one (.l (.sl 8))), (3, .one (.l (.i .i64))), (4, .one (.ptr 0 0)), (10, .one (.l (.sl 8))), (11, .one (.l (.i .i64))), (12, .one (.l (.i .i64)))], [.box true (lk qa)]⟩
def qp5  (v0 : List AV) (v3 : Int) (v10 : List AV) (v11 v12 : Int) (Ai : Bool) (Aj Ak Al Am : Int) (An Ao : List UInt8) (Ap : Int) (kn : Unit → Option Int) : Option Int :=
  (bif (decide (v3 > (0 : Int))) then (oB (ixB v0 (IntKind.i64.wrap (v3 - (1 : Int)))) fun y1 => (bif fitC qa y1.cells then (oB (qln Ai Aj Ak Al (gB y1.cells 0) (gI y1.cells 1) (gI y1.cells 2) (gI y1.cells 3)) fun r2 => (bif (decide (r2 < (0 : Int))) then (some (7 : Int)) else (bif (r2 == (0 : Int)) then (some (12 : Int)) else (kn ())))) else none)) else (kn ()))
def qnu := hull (qp5)
theorem qu4 : qnu = qp5 := qk _
def ql9 : AC Int :=
  .seq (.reg [ao 22 (.mv 3),
 ao 23 (.bin .gtr 22 (.c (.int .i64 0)))]) (.cond 23 (.seq (.draw [] [ao 24 (.fa 0 4),
 ao 25 (.load true 4 24),
 ao 26 (.mv 0),
 ao 27 (.mv 3),
 ao 28 (.bin .sub 27 (.c (.int .i64 1))),
 ao 29 (.ia 8 26 28),
 .et 29 qa,
 ao 30 (.fa 0 29),
 ao 31 (.load true 4 30)] [.call (po 32 (.call 40 [25, 31])) 40 qp2,
 ao 6 (.mv 32)]) (.seq (.seq (.reg [ao 33 (.mv 6),
 ao 34 (.bin .lss 33 (.c (.int .i64 0)))]) (.cond 34 (.seq (.reg [ao 2 (.mv (.c (.int .i64 7)))]) (.ret)) (.skip))) (.seq (.reg [ao 35 (.mv 6),
 ao 36 (.bin .eql 35 (.c (.int .i64 0)))]) (.cond 36 (.seq (.reg [ao 2 (.mv (.c (.int .i64 12)))]) (.ret)) (.seq (.skip) (.view [.sel [0, 3, 4, 10, 11, 12] [0]])))))) (.seq (.skip) (.view [.sel [0, 3, 4, 10, 11, 12] [0]])))
theorem q6e : AC.ok Try.prog (TIof Try.prog) 43 0 (kret [.t 2] (decI .i64)) ql9 := qo (zA (qd.ok qzw) (zA rfl trivial))
theorem q7d (v0 : List AV) (v3 : Int) (v10 : List AV) (v11 v12 : Int) (Ai : Bool) (Aj Ak Al Am : Int) (An Ao : List UInt8) (Ap : Int) (K : Ex → Env → Mem → Option Int) : den 0 (kret [.t 2] (decI .i64)) ql9 (qj [(0, (.sl 8 v0)), (3, (.int .i64 v3)), (4, (.ptr 0 0)), (10, (.sl 8 v10)), (11, (.int .i64 v11)), (12, (.int .i64 v12))]) (qh [(some (.box true (qb Ai Aj Ak Al Am An Ao Ap)))]) K = qnu v0 v3 v10 v11 v12 Ai Aj Ak Al Am An Ao Ap (qu3 v0 v3 v10 v11 v12 Ai Aj Ak Al Am An Ao Ap K) := by
  rw [qu4]; kernel_rfl
def qwv := subE (R := Int) q4g fun t m K => qe (bxC (m.s 0)) (qnu (gL [t 0] 0) (gI [t 3] 0) (gL [t 10] 0) (gI [t 11] 0) (gI [t 12] 0)) (qu3 (gL [t 0] 0) (gI [t 3] 0) (gL [t 10] 0) (gI [t 11] 0) (gI [t 12] 0) (gB (bxC (m.s 0)) 0) (gI (bxC (m.s 0)) 1) (gI (bxC (m.s 0)) 2) (gI (bxC (m.s 0)) 3) (gI (bxC (m.s 0)) 4) (gS (bxC (m.s 0)) 5) (gS (bxC (m.s 0)) 6) (gI (bxC (m.s 0)) 7) K)
theorem q7e : qdh Try.prog (TIof Try.prog) 43 0 (kret [.t 2] (decI .i64)) (scOf ql9) (qwv) :=
  qke tabOk follows (q6e) (qbh (by kernel_rfl)) fun t m K => q7d _ _ _ _ _ _ _ _ _ _ _ _ _ K
def qlb  (K : Ex → Env → Mem → Option Int) := (fun (_ : Unit) => K (.exit 0) (qj []) (qh []))
def q4h : Shp := ⟨[(0, .one (.l (.sl 8))), (10, .one (.l (.sl 8))), (11, .one (.l (.i .i64))), (12, .one (.l (.i .i64)))], []⟩
def qo0 (v0 v10 : List AV) (v11 v12 : Int) : Env := qj [(0, (.sl 8 v0)), (10, (.sl 8 v10)), (11, (.int .i64 v11)), (12, (.int .i64 v12))]
def qo1 (v0 v10 : List AV) (v11 v12 : Int) : Mem := qh []
def qgu  (v0 v10 : List AV) (v11 v12 : Int) (next : Int → Option Int) (kx0 : Unit → Option Int) : Option Int :=
  (bif (decide (v12 < v11)) then (oB (ixB v10 v12) fun y1 => (bif fitC qa y1.cells then (oB (qlr (gB y1.cells 0) (gI y1.cells 1) (gI y1.cells 2) (gI y1.cells 3) (gI y1.cells 4) (gS y1.cells 5) (gS y1.cells 6) (gI y1.cells 7)) fun r2 => (bif (r2 != (0 : Int)) then (some r2) else (qnu v0 v12 v10 v11 v12 (gB y1.cells 0) (gI y1.cells 1) (gI y1.cells 2) (gI y1.cells 3) (gI y1.cells 4) (gS y1.cells 5) (gS y1.cells 6) (gI y1.cells 7) (fun (_ : Unit) => (oB (cutI v0 none (some v12)) fun s3 => (oB (qgm s3 (gB y1.cells 0) (gI y1.cells 1) (gI y1.cells 2) (gI y1.cells 3) (gI y1.cells 4) (gS y1.cells 5) (gS y1.cells 6) (gI y1.cells 7)) fun r4 => (bif r4 then (some (24 : Int)) else (next (IntKind.i64.wrap (v12 + (1 : Int))))))))))) else none)) else (kx0 ()))
def qma  (v0 v10 : List AV) (v11 : Int) (kx0 : Unit → Option Int) : Nat → Int → Option Int
  | 0 => (fun _ => none)
  | n + 1 => (fun v12 => qgu v0 v10 v11 v12 (qma v0 v10 v11 kx0 n) kx0)
def qnv := hull (qma)
theorem qu5 : qnv = qma := qk _
def qgv : AC Int :=
  .seq (.reg [ao 13 (.bin .lss 12 11)]) (.seq (.cond 13 (.skip) (.seq (.view [.sel [] []]) (.exit 0))) (.seq (.block 1 (.seq (.reg [ao 14 (.mv 12),
 ao 15 (.ia 8 10 12),
 .st (.etac 15 qa),
 ao 16 (.load true 8 15),
 ao 4 (.alloc [(.bool false), (.int .u64 0), (.int .u64 0), (.int .i64 0), (.int .i64 0), (.str []), (.str []), (.int .i64 0)]),
 ao 3 (.mv 14),
 an (.store 8 4 16)]) (.seq (.seq (.reg [ao 17 (.load true 8 4),
 .call (po 18 (.call 43 [17])) 43 qsh,
 ao 5 (.mv 18)]) (.seq (.reg [ao 19 (.mv 5),
 ao 20 (.bin .neq 19 (.c (.int .i64 0)))]) (.cond 20 (.seq (.reg [ao 21 (.mv 5),
 ao 2 (.mv 21)]) (.ret)) (.skip)))) (.seq (.seq (.view [.sel [0, 3, 4, 10, 11, 12] [0]]) (.sub (scOf ql9) qwv)) (.seq (.draw [] [ao 37 (.mv 0),
 ao 38 (.mv 3),
 ao 39 (.slc 8 37 none (some 38)),
 ao 40 (.load true 8 4)] [.call (po 41 (.call 44 [39, 40])) 44 qnt]) (.cond 41 (.seq (.reg [ao 2 (.mv (.c (.int .i64 24)))]) (.ret)) (.skip))))))) (.seq (.reg [ao 42 (.bin .add 12 (.c (.int .i64 1))),
 ao 12 (.mv 42)]) (.view [.sel [0, 10, 11, 12] []]))))
theorem q6f : AC.ok Try.prog (TIof Try.prog) 43 0 (kret [.t 2] (decI .i64)) qgv := qo (zA (qd.ok q2r) (zA q7e (zA (qd.ok qwu) (zA rfl trivial))))
theorem q4i (v0 v10 : List AV) (v11 v12 : Int) (K : Ex → Env → Mem → Option Int) : den 0 (kret [.t 2] (decI .i64)) qgv (qo0 v0 v10 v11 v12) (qo1 v0 v10 v11 v12) K = qgu v0 v10 v11 v12 (fun z_v12 => K .norm (qo0 v0 v10 v11 z_v12) (qo1 v0 v10 v11 z_v12)) (qlb K) := by kernel_rfl
theorem q7f (v0 v10 : List AV) (v11 : Int) (K : Ex → Env → Mem → Option Int) : ∀ (n : Nat) (v12 : Int), qg4 (den 0 (kret [.t 2] (decI .i64)) qgv) n (qo0 v0 v10 v11 v12) (qo1 v0 v10 v11 v12) K = qnv v0 v10 v11 (qlb K) n v12 := by
  rw [qu5]
  intro n
  induction n with
  | zero => intros; rfl
  | succ n ih =>
 intro v12
 exact (q4i v0 v10 v11 v12 (itK (den 0 (kret [.t 2] (decI .i64)) qgv) n K)).trans (congrArg (fun q => qgu v0 v10 v11 v12 q (qlb K)) (funext fun v12 => ih v12))
def qww := subE (R := Int) q4h fun t m K => qnv (gL [t 0] 0) (gL [t 10] 0) (gI [t 11] 0) (qlb K) FU (gI [t 12] 0)
theorem q7g : qdh Try.prog (TIof Try.prog) 43 0 (kret [.t 2] (decI .i64)) (.loop (scOf qgv)) (qww) :=
  qie tabOk follows (q6f) (qbh (by kernel_rfl)) fun t m K => q7f _ _ _ K FU _
def qbcc : Shp := ⟨[(0, .one (.l (.sl 8)))], []⟩
def qvr (v0 : List AV) : Option Int :=
  (bif (decide ((v0.length : Int) > (512 : Int))) then (some (9 : Int)) else (qnv v0 v0 (v0.length : Int) (fun (_ : Unit) => (some (0 : Int))) FU (0 : Int)))
def qls := hull qvr
theorem q1i : qls = qvr := qk _
def qvs : AC Int :=
  .seq (.reg [ao 2 (.mv (.c (.int .i64 0)))]) (.seq (.seq (.reg [ao 7 (.mv 0),
 ao 8 (.len false 7),
 ao 9 (.bin .gtr 8 (.c (.int .i64 512)))]) (.cond 9 (.seq (.reg [ao 2 (.mv (.c (.int .i64 9)))]) (.ret)) (.skip))) (.seq (.seq (.reg [ao 10 (.mv 0),
 ao 11 (.len false 10),
 ao 12 (.mv (.c (.int .i64 0)))]) (.block 0 (.seq (.view [.sel [0, 10, 11, 12] []]) (.sub (.loop (scOf qgv)) qww)))) (.seq (.reg [ao 2 (.mv (.c (.int .i64 0)))]) (.ret))))
theorem qbd2 : AC.ok Try.prog (TIof Try.prog) 43 0 (kret [.t 2] (decI .i64)) qvs := qo (zA q7g trivial)
theorem qbgy (v0 : List AV) : den 0 (kret [.t 2] (decI .i64)) qvs (qj [(0, (.sl 8 v0))]) (qh []) (kend (kret [.t 2] (decI .i64))) = qls v0 := by
  rw [q1i]; kernel_rfl
theorem qbgz : cFn (TIof Try.prog) Try.f11 = some ⟨43, [.t 2], scOf qvs⟩ := by kernel_rfl
def qbg0 (xs : List AV) : Option Int := qls (gL [(ql xs) 0] 0)
def qsk {R : Type} : List AV → (AV → Option R) → Option R := entF qbcc qbg0 (AV.int .i64)
theorem q2w {R : Type} : qd Try.prog 11 (qsk (R := R)) :=
  qch tabOk follows Try.func11 (by kernel_rfl) qbgz hdeI qbd2 (qbh (by kernel_rfl)) fun xs => qbgy _
def qbd3 : Shp := ⟨[(0, .one (.l (.i .u64))), (1, .one (.l (.i .i64)))], []⟩
def q5y (v0 v1 : Int) : Option AV :=
  (some (.agg [(.bool false), (.int .u64 (0 : Int)), (.int .u64 v0), (.int .i64 v1)]))
def qmp := hull q5y
theorem q2x : qmp = q5y := qk _
def qxv : AC AV :=
  .seq (.reg [ao 4 (.alloc [(.bool false), (.int .u64 0), (.int .u64 0), (.int .i64 0)])]) (.seq (.reg [ao 5 (.mv 0),
 ao 6 (.build [(.bool false), (.int .u64 0), (.int .u64 0)] [(2, (1, 5))]),
 ao 7 (.mv 1),
 ao 8 (.build [(.bool false), (.int .u64 0), (.int .u64 0), (.int .i64 0)] [(0, (3, 6)), (3, (1, 7))]),
 an (.store 4 4 8)]) (.ret))
theorem qbg1 : AC.ok Try.prog (TIof Try.prog) 9 0 (kret [(.cell 4 true 4)] (decT [.b, (.i .u64), (.i .u64), (.i .i64)])) qxv := qo trivial
theorem qbjk (v0 v1 : Int) : den 0 (kret [(.cell 4 true 4)] (decT [.b, (.i .u64), (.i .u64), (.i .i64)])) qxv (qj [(0, (.int .u64 v0)), (1, (.int .i64 v1))]) (qh []) (kend (kret [(.cell 4 true 4)] (decT [.b, (.i .u64), (.i .u64), (.i .i64)]))) = qmp v0 v1 := by
  rw [q2x]; kernel_rfl
theorem qbjl : cFn (TIof Try.prog) Try.f87 = some ⟨9, [(.cell 4 true 4)], scOf qxv⟩ := by kernel_rfl
def qbjm (xs : List AV) : Option AV := qmp (gI [(ql xs) 0] 0) (gI [(ql xs) 1] 0)
def qpb {R : Type} : List AV → (AV → Option R) → Option R := entF qbd3 qbjm (qpm (.st [.b, (.i .u64), (.i .u64), (.i .i64)]))
theorem qxw {R : Type} : qd Try.prog 87 (qpb (R := R)) :=
  qch tabOk follows Try.func87 (by kernel_rfl) qbjl hdeT qbg1 (qbh (by kernel_rfl)) fun xs => qbjk _ _
def q4j : Shp := ⟨[], []⟩
def qp6 : Option (List AV) :=
  (oB (qmp (167772160 : Int) (8 : Int)) fun r1 => (oB (qmp (167772160 : Int) (24 : Int)) fun r2 => (oB (qmp (167772165 : Int) (32 : Int)) fun r3 => (bif hd ([(.agg [(.bool (gB r1.cells 0)), (.int .u64 (gI r1.cells 1)), (.int .u64 (gI r1.cells 2)), (.int .i64 (gI r1.cells 3)), (.int .i64 (1 : Int)), (.str ([97, 108, 108] : List UInt8)), (.str ([] : List UInt8)), (.int .i64 (0 : Int))]), (.agg [(.bool (gB r2.cells 0)), (.int .u64 (gI r2.cells 1)), (.int .u64 (gI r2.cells 2)), (.int .i64 (gI r2.cells 3)), (.int .i64 (2 : Int)), (.str ([110, 101, 116] : List UInt8)), (.str ([] : List UInt8)), (.int .i64 (0 : Int))]), (.agg [(.bool (gB r3.cells 0)), (.int .u64 (gI r3.cells 1)), (.int .u64 (gI r3.cells 2)), (.int .i64 (gI r3.cells 3)), (.int .i64 (3 : Int)), (.str ([104, 111, 115, 116] : List UInt8)), (.str ([] : List UInt8)), (.int .i64 (0 : Int))])] : List AV) (([(.agg [(.bool (gB r1.cells 0)), (.int .u64 (gI r1.cells 1)), (.int .u64 (gI r1.cells 2)), (.int .i64 (gI r1.cells 3)), (.int .i64 (1 : Int)), (.str ([97, 108, 108] : List UInt8)), (.str ([] : List UInt8)), (.int .i64 (0 : Int))]), (.agg [(.bool (gB r2.cells 0)), (.int .u64 (gI r2.cells 1)), (.int .u64 (gI r2.cells 2)), (.int .i64 (gI r2.cells 3)), (.int .i64 (2 : Int)), (.str ([110, 101, 116] : List UInt8)), (.str ([] : List UInt8)), (.int .i64 (0 : Int))]), (.agg [(.bool (gB r3.cells 0)), (.int .u64 (gI r3.cells 1)), (.int .u64 (gI r3.cells 2)), (.int .i64 (gI r3.cells 3)), (.int .i64 (3 : Int)), (.str ([104, 111, 115, 116] : List UInt8)), (.str ([] : List UInt8)), (.int .i64 (0 : Int))])] : List AV).length) then (some ([(.agg [(.bool (gB r1.cells 0)), (.int .u64 (gI r1.cells 1)), (.int .u64 (gI r1.cells 2)), (.int .i64 (gI r1.cells 3)), (.int .i64 (1 : Int)), (.str ([97, 108, 108] : List UInt8)), (.str ([] : List UInt8)), (.int .i64 (0 : Int))]), (.agg [(.bool (gB r2.cells 0)), (.int .u64 (gI r2.cells 1)), (.int .u64 (gI r2.cells 2)), (.int .i64 (gI r2.cells 3)), (.int .i64 (2 : Int)), (.str ([110, 101, 116] : List UInt8)), (.str ([] : List UInt8)), (.int .i64 (0 : Int))]), (.agg [(.bool (gB r3.cells 0)), (.int .u64 (gI r3.cells 1)), (.int .u64 (gI r3.cells 2)), (.int .i64 (gI r3.cells 3)), (.int .i64 (3 : Int)), (.str ([104, 111, 115, 116] : List UInt8)), (.str ([] : List UInt8)), (.int .i64 (0 : Int))])] : List AV)) else none))))
def qlt := hull qp6
theorem qu6 : qlt = qp6 := qk _
def qp7 : AC (List AV) :=
  .seq (.reg [ao 0 (.mv (.c .nils))]) (.seq (.reg [.call (po 1 (.call 87 [(.c (.int .u64 167772160)), (.c (.int .i64 8))])) 87 qpb,
 ao 2 (.build [(.bool false), (.int .u64 0), (.int .u64 0), (.int .i64 0), (.int .i64 0), (.str []), (.str []), (.int .i64 0)] [(0, (4, 1)), (4, (1, (.c (.int .i64 1)))), (5, (1, (.c (.str [97, 108, 108]))))]),
 .call (po 3 (.call 87 [(.c (.int .u64 167772160)), (.c (.int .i64 24))])) 87 qpb,
 ao 4 (.build [(.bool false), (.int .u64 0), (.int .u64 0), (.int .i64 0), (.int .i64 0), (.str []), (.str []), (.int .i64 0)] [(0, (4, 3)), (4, (1, (.c (.int .i64 2)))), (5, (1, (.c (.str [110, 101, 116]))))]),
 .call (po 5 (.call 87 [(.c (.int .u64 167772165)), (.c (.int .i64 32))])) 87 qpb,
 ao 6 (.build [(.bool false), (.int .u64 0), (.int .u64 0), (.int .i64 0), (.int .i64 0), (.str []), (.str []), (.int .i64 0)] [(0, (4, 5)), (4, (1, (.c (.int .i64 3)))), (5, (1, (.c (.str [104, 111, 115, 116]))))]),
 ao 7 (.bsl 8 [2, 4, 6]),
 ao 0 (.mv 7)]) (.ret))
theorem q6g : AC.ok Try.prog (TIof Try.prog) 8 0 (kret [.t 0] (decF true 8)) qp7 := qo (zA (qd.ok qxw) (zA (qd.ok qxw) (zA (qd.ok qxw) trivial)))
theorem q7h : den 0 (kret [.t 0] (decF true 8)) qp7 (qj []) (qh []) (kend (kret [.t 0] (decF true 8))) = qlt := by
  rw [qu6]; kernel_rfl
theorem q7i : cFn (TIof Try.prog) Try.f49 = some ⟨8, [.t 0], scOf qp7⟩ := by kernel_rfl
def q7j (xs : List AV) : Option (List AV) := qlt
def qts {R : Type} : List AV → (AV → Option R) → Option R := entF q4j q7j (AV.fr true 8)
theorem q7k {R : Type} : qd Try.prog 49 (qts (R := R)) :=
  qch tabOk follows Try.func49 (by kernel_rfl) q7i hdeF q6g (qbh (by kernel_rfl)) fun xs => q7h
def q7l : Shp := ⟨[(0, .st (lk qa)), (1, .one (.ptr 0 0))], [.box true (lk qi)]⟩
def qyh {R : Type} (KK : AV → Mem → Option R) := (fun v3 Ai Aj Ak Al => KK (.bool v3) (qh [(some (.box true [(.bool Ai), (.int .u64 Aj), (.int .u64 Ak), (.int .i64 Al)]))]))
def qsl {R : Type}  (Aa : Bool) (Ab Ac Ad Ae : Int) (Af Ag : List UInt8) (Ah : Int) (Ai : Bool) (Aj Ak Al : Int) (kr : Bool → Bool → Int → Int → Int → Option R) : Option R :=
  (kr ((Aa == Ai) && ((Ab == Aj) && ((Ac == Ak) && ((Ad == Al) && true)))) Ai Aj Ak Al)
def qqn {R : Type} := hull (qsl (R := R))
theorem qyi {R : Type} : qqn (R := R) = qsl := qk _
def qjj {R : Type} (KK : AV → Mem → Option R) : AC R :=
  .seq (.reg [ao 2 (.box 0),
 ao 3 (.mv (.c (.bool false)))]) (.seq (.reg [ao 4 (.fa 0 2),
 ao 5 (.load true 4 4),
 ao 6 (.load true 4 1),
 ao 7 (.eq false true [.b, (.i .u64), (.i .u64), (.i .i64)] 5 6),
 ao 3 (.mv 7)]) (.seq (.view [.sel [3] [0]]) (.ret)))
theorem q93 {R : Type} (KK : AV → Mem → Option R) : AC.ok Try.prog (TIof Try.prog) 8 1 (qm [.t 3] KK) (qjj KK) := qo trivial
theorem qbcd {R : Type} (KK : AV → Mem → Option R) (Aa : Bool) (Ab Ac Ad Ae : Int) (Af Ag : List UInt8) (Ah : Int) (Ai : Bool) (Aj Ak Al : Int) : den 1 (qm [.t 3] KK) (qjj KK) (qj [(0, .agg (qb Aa Ab Ac Ad Ae Af Ag Ah)), (1, (.ptr 0 0))]) (qh [(some (.box true (qc Ai Aj Ak Al)))]) (kend (qm [.t 3] KK)) = qqn Aa Ab Ac Ad Ae Af Ag Ah Ai Aj Ak Al (qyh KK) := by
  rw [qyi]; kernel_rfl
theorem qbce : cFn (TIof Try.prog) Try.f89 = some ⟨8, [.t 3], scOf (qjj (R := Unit) (fun _ _ => none))⟩ := by kernel_rfl
theorem qbcf {R : Type} (KK : AV → Mem → Option R) : (qjj KK).er = some (scOf (qjj (R := Unit) (fun _ _ => none))) := by kernel_rfl
def qzz {R : Type} : List AV → Mem → (AV → Mem → Option R) → Option R := refE q7l fun xs m KK => qg (bxC (m.s 0)) (qe ((ql xs) 0).cells (qqn)) (qyh KK)
theorem qbcg {R : Type} : qfe Try.prog 89 (qzz (R := R)) :=
  qkf (ac := fun KK => qjj KK) tabOk follows Try.func89 (by kernel_rfl) qbce (fun KK => q93 KK) (fun KK => qbcf KK) rfl fun xs m KK => qbcd KK _ _ _ _ _ _ _ _ _ _ _ _
def qb6 {R : Type}  (K : Ex → Env → Mem → Option R) := (fun z_b0_0 z_b0_1 z_b0_2 z_b0_3 => K (.exit 0) (qj []) (qh [(some (.box true (qc z_b0_0 z_b0_1 z_b0_2 z_b0_3)))]))
def qb8 {R : Type} (KK : AV → Mem → Option R) := (fun v4 Ai Aj Ak Al => KK (.int .i64 v4) (qh [(some (.box true [(.bool Ai), (.int .u64 Aj), (.int .u64 Ak), (.int .i64 Al)]))]))
def qig : Shp := ⟨[(0, .one (.l (.sl 8))), (1, .one (.fn 89 [(0, 0)])), (7, .one (.l (.i .i64))), (8, .one (.l (.i .i64)))], [.box true (lk qi)]⟩
def qc4 (v0 : List AV) (v7 v8 : Int) (Ai : Bool) (Aj Ak Al : Int) : Env := qj [(0, (.sl 8 v0)), (1, (.func 89 [(.ptr 0 0)])), (7, (.int .i64 v7)), (8, (.int .i64 v8))]
def qc5 (v0 : List AV) (v7 v8 : Int) (Ai : Bool) (Aj Ak Al : Int) : Mem := qh [(some (.box true (qc Ai Aj Ak Al)))]
def qbd {R : Type}  (v0 : List AV) (v7 v8 : Int) (Ai : Bool) (Aj Ak Al : Int) (next : Int → Bool → Int → Int → Int → Option R) (kx0 : Bool → Int → Int → Int → Option R) (kr : Int → Bool → Int → Int → Int → Option R) : Option R :=
  (bif (decide (v8 < v7)) then (oB (ixB v0 v8) fun y1 => (bif fitC qa y1.cells then (qqn (gB y1.cells 0) (gI y1.cells 1) (gI y1.cells 2) (gI y1.cells 3) (gI y1.cells 4) (gS y1.cells 5) (gS y1.cells 6) (gI y1.cells 7) Ai Aj Ak Al fun v3q2 b0_0q3 b0_1q4 b0_2q5 b0_3q6 => (bif v3q2 then (kr v8 b0_0q3 b0_1q4 b0_2q5 b0_3q6) else (next (IntKind.i64.wrap (v8 + (1 : Int))) b0_0q3 b0_1q4 b0_2q5 b0_3q6))) else none)) else (kx0 Ai Aj Ak Al))
def qcc {R : Type}  (v0 : List AV) (v7 : Int) (kx0 : Bool → Int → Int → Int → Option R) (kr : Int → Bool → Int → Int → Int → Option R) : Nat → Int → Bool → Int → Int → Int → Option R
  | 0 => (fun _ _ _ _ _ => none)
  | n + 1 => (fun v8 Ai Aj Ak Al => qbd v0 v7 v8 Ai Aj Ak Al (qcc v0 v7 kx0 kr n) kx0 kr)
def qce {R : Type} := hull (qcc (R := R))
theorem qen {R : Type} : qce (R := R) = qcc := qk _
def qbe {R : Type} (KK : AV → Mem → Option R) : AC R :=
  .seq (.reg [ao 9 (.bin .lss 8 7)]) (.seq (.cond 9 (.skip) (.seq (.view [.sel [] [0]]) (.exit 0))) (.seq (.block 1 (.seq (.reg [ao 10 (.mv 8),
 ao 5 (.mv 10)]) (.seq (.reg [ao 11 (.mv 1),
 ao 12 (.mv 0),
 ao 13 (.mv 5),
 ao 14 (.ia 8 12 13),
 .st (.etac 14 qa),
 ao 15 (.load true 8 14),
 .st (.sel [0, 1, 5, 7, 8, 11, 15] [0]),
 .callr (po 16 (.callv 11 [15])) 89 qzz]) (.cond 16 (.seq (.reg [ao 17 (.mv 5),
 ao 4 (.mv 17)]) (.seq (.view [.sel [4] [0]]) (.ret))) (.skip))))) (.seq (.reg [ao 18 (.bin .add 8 (.c (.int .i64 1))),
 ao 8 (.mv 18)]) (.view [.sel [0, 1, 7, 8] [0]]))))
theorem qiw {R : Type} (KK : AV → Mem → Option R) : AC.ok Try.prog (TIof Try.prog) 19 1 (qm [.t 4] KK) (qbe KK) := qo (zA qbcg trivial)
theorem qih {R : Type} (KK : AV → Mem → Option R) (v0 : List AV) (v7 v8 : Int) (Ai : Bool) (Aj Ak Al : Int) (K : Ex → Env → Mem → Option R) : den 1 (qm [.t 4] KK) (qbe KK) (qc4 v0 v7 v8 Ai Aj Ak Al) (qc5 v0 v7 v8 Ai Aj Ak Al) K = qbd v0 v7 v8 Ai Aj Ak Al (fun z_v8 z_b0_0 z_b0_1 z_b0_2 z_b0_3 => K .norm (qc4 v0 v7 z_v8 z_b0_0 z_b0_1 z_b0_2 z_b0_3) (qc5 v0 v7 z_v8 z_b0_0 z_b0_1 z_b0_2 z_b0_3)) (qb6 K) (qb8 KK) := by kernel_rfl
theorem qi4 {R : Type} (KK : AV → Mem → Option R) (v0 : List AV) (v7 : Int) (K : Ex → Env → Mem → Option R) : ∀ (n : Nat) (v8 : Int) (Ai : Bool) (Aj Ak Al : Int), qg4 (den 1 (qm [.t 4] KK) (qbe KK)) n (qc4 v0 v7 v8 Ai Aj Ak Al) (qc5 v0 v7 v8 Ai Aj Ak Al) K = qce v0 v7 (qb6 K) (qb8 KK) n v8 Ai Aj Ak Al := by
  rw [qen]
  intro n
  induction n with
  | zero => intros; rfl
  | succ n ih =>
 intro v8 Ai Aj Ak Al
 exact (qih KK v0 v7 v8 Ai Aj Ak Al (itK (den 1 (qm [.t 4] KK) (qbe KK)) n K)).trans (congrArg (fun q => qbd v0 v7 v8 Ai Aj Ak Al q (qb6 K) (qb8 KK)) (funext fun v8 => funext fun Ai => funext fun Aj => funext fun Ak => funext fun Al => ih v8 Ai Aj Ak Al))
def qer {R : Type} (KK : AV → Mem → Option R) := subE (R := R) qig fun t m K => qg (bxC (m.s 0)) (qce (gL [t 0] 0) (gI [t 7] 0) (qb6 K) (qb8 KK) FU (gI [t 8] 0))
theorem qi5 {R : Type} (KK : AV → Mem → Option R) : qdh Try.prog (TIof Try.prog) 19 1 (qm [.t 4] KK) (.loop (scOf (qbe KK))) (qer KK) :=
  qie tabOk follows (qiw KK) (qbh (by kernel_rfl)) fun t m K => qi4 KK _ _ K FU _ _ _ _ _
def qjk : Shp := ⟨[(0, .one (.l (.sl 8))), (1, .one (.fn 89 [(0, 0)]))], [.box true (lk qi)]⟩
def qey {R : Type} (KK : AV → Mem → Option R) := (fun v4 Ai Aj Ak Al => KK (.int .i64 v4) (qh [(some (.box true [(.bool Ai), (.int .u64 Aj), (.int .u64 Ak), (.int .i64 Al)]))]))
def qde {R : Type}  (v0 : List AV) (Ai : Bool) (Aj Ak Al : Int) (kr : Int → Bool → Int → Int → Int → Option R) : Option R :=
  (qce v0 (v0.length : Int) (fun b0_0q1 b0_1q2 b0_2q3 b0_3q4 => (kr (-1 : Int) b0_0q1 b0_1q2 b0_2q3 b0_3q4)) kr FU (0 : Int) Ai Aj Ak Al)
def qci {R : Type} := hull (qde (R := R))
theorem qez {R : Type} : qci (R := R) = qde := qk _
def qbj {R : Type} (KK : AV → Mem → Option R) : AC R :=
  .seq (.reg [ao 4 (.mv (.c (.int .i64 0)))]) (.seq (.seq (.reg [ao 6 (.mv 0),
 ao 7 (.len false 6),
 ao 8 (.mv (.c (.int .i64 0)))]) (.block 0 (.seq (.view [.sel [0, 1, 7, 8] [0]]) (.sub (.loop (scOf (qbe KK))) (qer KK))))) (.seq (.reg [ao 4 (.mv (.c (.int .i64 (-1))))]) (.seq (.view [.sel [4] [0]]) (.ret))))
theorem qjw {R : Type} (KK : AV → Mem → Option R) : AC.ok Try.prog (TIof Try.prog) 19 1 (qm [.t 4] KK) (qbj KK) := qo (zA (qi5 KK) trivial)
theorem qj5 {R : Type} (KK : AV → Mem → Option R) (v0 : List AV) (Ai : Bool) (Aj Ak Al : Int) : den 1 (qm [.t 4] KK) (qbj KK) (qj [(0, (.sl 8 v0)), (1, (.func 89 [(.ptr 0 0)]))]) (qh [(some (.box true (qc Ai Aj Ak Al)))]) (kend (qm [.t 4] KK)) = qci v0 Ai Aj Ak Al (qey KK) := by
  rw [qez]; kernel_rfl
theorem qj6 : cFn (TIof Try.prog) Try.f88 = some ⟨19, [.t 4], scOf (qbj (R := Unit) (fun _ _ => none))⟩ := by kernel_rfl
theorem qj7 {R : Type} (KK : AV → Mem → Option R) : (qbj KK).er = some (scOf (qbj (R := Unit) (fun _ _ => none))) := by kernel_rfl
def qe1 {R : Type} : List AV → Mem → (AV → Mem → Option R) → Option R := refE qjk fun xs m KK => qg (bxC (m.s 0)) (qci (gL [(ql xs) 0] 0)) (qey KK)
theorem qj8 {R : Type} : qfe Try.prog 88 (qe1 (R := R)) :=
  qkf (ac := fun KK => qbj KK) tabOk follows Try.func88 (by kernel_rfl) qj6 (fun KK => qjw KK) (fun KK => qj7 KK) rfl fun xs m KK => qj5 KK _ _ _ _ _
def qbch : Shp := ⟨[(0, .one (.l (.sl 8))), (1, .st (lk qi))], []⟩
def qvt (v0 : List AV) (Aq : Bool) (Ar As At : Int) : Option Int :=
  (qci v0 Aq Ar As At fun v4q1 b0_0q2 b0_1q3 b0_2q4 b0_3q5 => (some v4q1))
def qfk := hull qvt
theorem q1j : qfk = qvt := qk _
def qvu : AC Int :=
  .seq (.reg [ao 3 (.box 1),
 ao 4 (.mv (.c (.int .i64 0)))]) (.seq (.reg [ao 5 (.mv 0),
 ao 6 (.mkf 89 [3]),
 .st (.sel [5, 6] [0]),
 .callr (po 7 (.call 88 [5, 6])) 88 qe1,
 ao 4 (.mv 7)]) (.ret))
theorem qbd4 : AC.ok Try.prog (TIof Try.prog) 8 0 (kret [.t 4] (decI .i64)) qvu := qo (zA qj8 trivial)
theorem qbg2 (v0 : List AV) (Aq : Bool) (Ar As At : Int) : den 0 (kret [.t 4] (decI .i64)) qvu (qj [(0, (.sl 8 v0)), (1, .agg (qc Aq Ar As At))]) (qh []) (kend (kret [.t 4] (decI .i64))) = qfk v0 Aq Ar As At := by
  rw [q1j]; kernel_rfl
theorem qbg3 : cFn (TIof Try.prog) Try.f51 = some ⟨8, [.t 4], scOf qvu⟩ := by kernel_rfl
def qbg4 (xs : List AV) : Option Int := qg ((ql xs) 1).cells (qfk (gL [(ql xs) 0] 0))
def qfl {R : Type} : List AV → (AV → Option R) → Option R := entF qbch qbg4 (AV.int .i64)
theorem qjl {R : Type} : qd Try.prog 51 (qfl (R := R)) :=
  qch tabOk follows Try.func51 (by kernel_rfl) qbg3 hdeI qbd4 (qbh (by kernel_rfl)) fun xs => qbg2 _ _ _ _ _
def q2y : Shp := ⟨[(0, .st (lk qa)), (1, .one (.ptr 0 0))], [.box true (lk qi)]⟩
def qtt {R : Type} (KK : AV → Mem → Option R) := (fun v3 Ai Aj Ak Al => KK (.bool v3) (qh [(some (.box true [(.bool Ai), (.int .u64 Aj), (.int .u64 Ak), (.int .i64 Al)]))]))
def qo2 {R : Type}  (Aa : Bool) (Ab Ac Ad Ae : Int) (Af Ag : List UInt8) (Ah : Int) (Ai : Bool) (Aj Ak Al : Int) (kr : Bool → Bool → Int → Int → Int → Option R) : Option R :=
  (oB (qge Aa Ab Ac Ad Ai Aj Ak Al) fun r1 => (kr r1 Ai Aj Ak Al))
def qk4 {R : Type} := hull (qo2 (R := R))
theorem qtu {R : Type} : qk4 (R := R) = qo2 := qk _
def qf9 {R : Type} (KK : AV → Mem → Option R) : AC R :=
  .seq (.reg [ao 2 (.box 0),
 ao 3 (.mv (.c (.bool false)))]) (.seq (.reg [ao 4 (.fa 0 2),
 ao 5 (.load true 4 4),
 ao 6 (.load true 4 1),
 .call (po 7 (.call 64 [5, 6])) 64 qf3,
 ao 3 (.mv 7)]) (.seq (.view [.sel [3] [0]]) (.ret)))
theorem q4k {R : Type} (KK : AV → Mem → Option R) : AC.ok Try.prog (TIof Try.prog) 8 1 (qm [.t 3] KK) (qf9 KK) := qo (zA (qd.ok qkq) trivial)
theorem q6h {R : Type} (KK : AV → Mem → Option R) (Aa : Bool) (Ab Ac Ad Ae : Int) (Af Ag : List UInt8) (Ah : Int) (Ai : Bool) (Aj Ak Al : Int) : den 1 (qm [.t 3] KK) (qf9 KK) (qj [(0, .agg (qb Aa Ab Ac Ad Ae Af Ag Ah)), (1, (.ptr 0 0))]) (qh [(some (.box true (qc Ai Aj Ak Al)))]) (kend (qm [.t 3] KK)) = qk4 Aa Ab Ac Ad Ae Af Ag Ah Ai Aj Ak Al (qtt KK) := by
  rw [qtu]; kernel_rfl
theorem q6i : cFn (TIof Try.prog) Try.f90 = some ⟨8, [.t 3], scOf (qf9 (R := Unit) (fun _ _ => none))⟩ := by kernel_rfl
theorem q6j {R : Type} (KK : AV → Mem → Option R) : (qf9 KK).er = some (scOf (qf9 (R := Unit) (fun _ _ => none))) := by kernel_rfl
def qu7 {R : Type} : List AV → Mem → (AV → Mem → Option R) → Option R := refE q2y fun xs m KK => qg (bxC (m.s 0)) (qe ((ql xs) 0).cells (qk4)) (qtt KK)
theorem q6k {R : Type} : qfe Try.prog 90 (qu7 (R := R)) :=
  qkf (ac := fun KK => qf9 KK) tabOk follows Try.func90 (by kernel_rfl) q6i (fun KK => q4k KK) (fun KK => q6j KK) rfl fun xs m KK => q6h KK _ _ _ _ _ _ _ _ _ _ _ _
def qbt {R : Type}  (K : Ex → Env → Mem → Option R) := (fun z_b0_0 z_b0_1 z_b0_2 z_b0_3 => K (.exit 0) (qj []) (qh [(some (.box true (qc z_b0_0 z_b0_1 z_b0_2 z_b0_3)))]))
def qbx {R : Type} (KK : AV → Mem → Option R) := (fun v4 Ai Aj Ak Al => KK (.int .i64 v4) (qh [(some (.box true [(.bool Ai), (.int .u64 Aj), (.int .u64 Ak), (.int .i64 Al)]))]))
def qg7 : Shp := ⟨[(0, .one (.l (.sl 8))), (1, .one (.fn 90 [(0, 0)])), (7, .one (.l (.i .i64))), (8, .one (.l (.i .i64)))], [.box true (lk qi)]⟩
def qcu (v0 : List AV) (v7 v8 : Int) (Ai : Bool) (Aj Ak Al : Int) : Env := qj [(0, (.sl 8 v0)), (1, (.func 90 [(.ptr 0 0)])), (7, (.int .i64 v7)), (8, (.int .i64 v8))]
def qcv (v0 : List AV) (v7 v8 : Int) (Ai : Bool) (Aj Ak Al : Int) : Mem := qh [(some (.box true (qc Ai Aj Ak Al)))]
def qx {R : Type}  (v0 : List AV) (v7 v8 : Int) (Ai : Bool) (Aj Ak Al : Int) (next : Int → Bool → Int → Int → Int → Option R) (kx0 : Bool → Int → Int → Int → Option R) (kr : Int → Bool → Int → Int → Int → Option R) : Option R :=
  (bif (decide (v8 < v7)) then (oB (ixB v0 v8) fun y1 => (bif fitC qa y1.cells then (qk4 (gB y1.cells 0) (gI y1.cells 1) (gI y1.cells 2) (gI y1.cells 3) (gI y1.cells 4) (gS y1.cells 5) (gS y1.cells 6) (gI y1.cells 7) Ai Aj Ak Al fun v3q2 b0_0q3 b0_1q4 b0_2q5 b0_3q6 => (bif v3q2 then (kr v8 b0_0q3 b0_1q4 b0_2q5 b0_3q6) else (next (IntKind.i64.wrap (v8 + (1 : Int))) b0_0q3 b0_1q4 b0_2q5 b0_3q6))) else none)) else (kx0 Ai Aj Ak Al))
def qbz {R : Type}  (v0 : List AV) (v7 : Int) (kx0 : Bool → Int → Int → Int → Option R) (kr : Int → Bool → Int → Int → Int → Option R) : Nat → Int → Bool → Int → Int → Int → Option R
  | 0 => (fun _ _ _ _ _ => none)
  | n + 1 => (fun v8 Ai Aj Ak Al => qx v0 v7 v8 Ai Aj Ak Al (qbz v0 v7 kx0 kr n) kx0 kr)
def qb9 {R : Type} := hull (qbz (R := R))
theorem qdy {R : Type} : qb9 (R := R) = qbz := qk _
def qy {R : Type} (KK : AV → Mem → Option R) : AC R :=
  .seq (.reg [ao 9 (.bin .lss 8 7)]) (.seq (.cond 9 (.skip) (.seq (.view [.sel [] [0]]) (.exit 0))) (.seq (.block 1 (.seq (.reg [ao 10 (.mv 8),
 ao 5 (.mv 10)]) (.seq (.reg [ao 11 (.mv 1),
 ao 12 (.mv 0),
 ao 13 (.mv 5),
 ao 14 (.ia 8 12 13),
 .st (.etac 14 qa),
 ao 15 (.load true 8 14),
 .st (.sel [0, 1, 5, 7, 8, 11, 15] [0]),
 .callr (po 16 (.callv 11 [15])) 90 qu7]) (.cond 16 (.seq (.reg [ao 17 (.mv 5),
 ao 4 (.mv 17)]) (.seq (.view [.sel [4] [0]]) (.ret))) (.skip))))) (.seq (.reg [ao 18 (.bin .add 8 (.c (.int .i64 1))),
 ao 8 (.mv 18)]) (.view [.sel [0, 1, 7, 8] [0]]))))
theorem qhm {R : Type} (KK : AV → Mem → Option R) : AC.ok Try.prog (TIof Try.prog) 19 1 (qm [.t 4] KK) (qy KK) := qo (zA q6k trivial)
theorem qg8 {R : Type} (KK : AV → Mem → Option R) (v0 : List AV) (v7 v8 : Int) (Ai : Bool) (Aj Ak Al : Int) (K : Ex → Env → Mem → Option R) : den 1 (qm [.t 4] KK) (qy KK) (qcu v0 v7 v8 Ai Aj Ak Al) (qcv v0 v7 v8 Ai Aj Ak Al) K = qx v0 v7 v8 Ai Aj Ak Al (fun z_v8 z_b0_0 z_b0_1 z_b0_2 z_b0_3 => K .norm (qcu v0 v7 z_v8 z_b0_0 z_b0_1 z_b0_2 z_b0_3) (qcv v0 v7 z_v8 z_b0_0 z_b0_1 z_b0_2 z_b0_3)) (qbt K) (qbx KK) := by kernel_rfl
theorem qhq {R : Type} (KK : AV → Mem → Option R) (v0 : List AV) (v7 : Int) (K : Ex → Env → Mem → Option R) : ∀ (n : Nat) (v8 : Int) (Ai : Bool) (Aj Ak Al : Int), qg4 (den 1 (qm [.t 4] KK) (qy KK)) n (qcu v0 v7 v8 Ai Aj Ak Al) (qcv v0 v7 v8 Ai Aj Ak Al) K = qb9 v0 v7 (qbt K) (qbx KK) n v8 Ai Aj Ak Al := by
  rw [qdy]
  intro n
  induction n with
  | zero => intros; rfl
  | succ n ih =>
 intro v8 Ai Aj Ak Al
 exact (qg8 KK v0 v7 v8 Ai Aj Ak Al (itK (den 1 (qm [.t 4] KK) (qy KK)) n K)).trans (congrArg (fun q => qx v0 v7 v8 Ai Aj Ak Al q (qbt K) (qbx KK)) (funext fun v8 => funext fun Ai => funext fun Aj => funext fun Ak => funext fun Al => ih v8 Ai Aj Ak Al))
def qd3 {R : Type} (KK : AV → Mem → Option R) := subE (R := R) qg7 fun t m K => qg (bxC (m.s 0)) (qb9 (gL [t 0] 0) (gI [t 7] 0) (qbt K) (qbx KK) FU (gI [t 8] 0))
theorem qhr {R : Type} (KK : AV → Mem → Option R) : qdh Try.prog (TIof Try.prog) 19 1 (qm [.t 4] KK) (.loop (scOf (qy KK))) (qd3 KK) :=
  qie tabOk follows (qhm KK) (qbh (by kernel_rfl)) fun t m K => qhq KK _ _ K FU _ _ _ _ _
def qii : Shp := ⟨[(0, .one (.l (.sl 8))), (1, .one (.fn 90 [(0, 0)]))], [.box true (lk qi)]⟩
def qeo {R : Type} (KK : AV → Mem → Option R) := (fun v4 Ai Aj Ak Al => KK (.int .i64 v4) (qh [(some (.box true [(.bool Ai), (.int .u64 Aj), (.int .u64 Ak), (.int .i64 Al)]))]))
def qc9 {R : Type}  (v0 : List AV) (Ai : Bool) (Aj Ak Al : Int) (kr : Int → Bool → Int → Int → Int → Option R) : Option R :=
  (qb9 v0 (v0.length : Int) (fun b0_0q1 b0_1q2 b0_2q3 b0_3q4 => (kr (-1 : Int) b0_0q1 b0_1q2 b0_2q3 b0_3q4)) kr FU (0 : Int) Ai Aj Ak Al)
def qbm {R : Type} := hull (qc9 (R := R))
theorem qep {R : Type} : qbm (R := R) = qc9 := qk _
def qbf {R : Type} (KK : AV → Mem → Option R) : AC R :=
  .seq (.reg [ao 4 (.mv (.c (.int .i64 0)))]) (.seq (.seq (.reg [ao 6 (.mv 0),
 ao 7 (.len false 6),
 ao 8 (.mv (.c (.int .i64 0)))]) (.block 0 (.seq (.view [.sel [0, 1, 7, 8] [0]]) (.sub (.loop (scOf (qy KK))) (qd3 KK))))) (.seq (.reg [ao 4 (.mv (.c (.int .i64 (-1))))]) (.seq (.view [.sel [4] [0]]) (.ret))))
theorem qix {R : Type} (KK : AV → Mem → Option R) : AC.ok Try.prog (TIof Try.prog) 19 1 (qm [.t 4] KK) (qbf KK) := qo (zA (qhr KK) trivial)
theorem qi6 {R : Type} (KK : AV → Mem → Option R) (v0 : List AV) (Ai : Bool) (Aj Ak Al : Int) : den 1 (qm [.t 4] KK) (qbf KK) (qj [(0, (.sl 8 v0)), (1, (.func 90 [(.ptr 0 0)]))]) (qh [(some (.box true (qc Ai Aj Ak Al)))]) (kend (qm [.t 4] KK)) = qbm v0 Ai Aj Ak Al (qeo KK) := by
  rw [qep]; kernel_rfl
theorem qi7 : cFn (TIof Try.prog) Try.f88 = some ⟨19, [.t 4], scOf (qbf (R := Unit) (fun _ _ => none))⟩ := by kernel_rfl
theorem qi8 {R : Type} (KK : AV → Mem → Option R) : (qbf KK).er = some (scOf (qbf (R := Unit) (fun _ _ => none))) := by kernel_rfl
def qes {R : Type} : List AV → Mem → (AV → Mem → Option R) → Option R := refE qii fun xs m KK => qg (bxC (m.s 0)) (qbm (gL [(ql xs) 0] 0)) (qeo KK)
theorem qi9 {R : Type} : qfe Try.prog 88 (qes (R := R)) :=
  qkf (ac := fun KK => qbf KK) tabOk follows Try.func88 (by kernel_rfl) qi7 (fun KK => qix KK) (fun KK => qi8 KK) rfl fun xs m KK => qi6 KK _ _ _ _ _
def qg9 : Shp := ⟨[(0, .one (.l (.sl 8))), (1, .one (.fn 90 [(0, 0)]))], [.box true (lk qi)]⟩
def qdz {R : Type} (KK : AV → Mem → Option R) := (fun v4 Ai Aj Ak Al => KK (.bool v4) (qh [(some (.box true [(.bool Ai), (.int .u64 Aj), (.int .u64 Ak), (.int .i64 Al)]))]))
def qcw {R : Type}  (v0 : List AV) (Ai : Bool) (Aj Ak Al : Int) (kr : Bool → Bool → Int → Int → Int → Option R) : Option R :=
  (qbm v0 Ai Aj Ak Al fun v4q1 b0_0q2 b0_1q3 b0_2q4 b0_3q5 => (kr (decide (v4q1 ≥ (0 : Int))) b0_0q2 b0_1q3 b0_2q4 b0_3q5))
def qca {R : Type} := hull (qcw (R := R))
theorem qd0 {R : Type} : qca (R := R) = qcw := qk _
def qz {R : Type} (KK : AV → Mem → Option R) : AC R :=
  .seq (.reg [ao 4 (.mv (.c (.bool false)))]) (.seq (.reg [ao 5 (.mv 0),
 ao 6 (.mv 1),
 .st (.sel [5, 6] [0]),
 .callr (po 7 (.call 88 [5, 6])) 88 qes,
 ao 8 (.bin .geq 7 (.c (.int .i64 0))),
 ao 4 (.mv 8)]) (.seq (.view [.sel [4] [0]]) (.ret)))
theorem qhn {R : Type} (KK : AV → Mem → Option R) : AC.ok Try.prog (TIof Try.prog) 9 1 (qm [.t 4] KK) (qz KK) := qo (zA qi9 trivial)
theorem qhs {R : Type} (KK : AV → Mem → Option R) (v0 : List AV) (Ai : Bool) (Aj Ak Al : Int) : den 1 (qm [.t 4] KK) (qz KK) (qj [(0, (.sl 8 v0)), (1, (.func 90 [(.ptr 0 0)]))]) (qh [(some (.box true (qc Ai Aj Ak Al)))]) (kend (qm [.t 4] KK)) = qca v0 Ai Aj Ak Al (qdz KK) := by
  rw [qd0]; kernel_rfl
theorem qht : cFn (TIof Try.prog) Try.f68 = some ⟨9, [.t 4], scOf (qz (R := Unit) (fun _ _ => none))⟩ := by kernel_rfl
theorem qhu {R : Type} (KK : AV → Mem → Option R) : (qz KK).er = some (scOf (qz (R := Unit) (fun _ _ => none))) := by kernel_rfl
def qd4 {R : Type} : List AV → Mem → (AV → Mem → Option R) → Option R := refE qg9 fun xs m KK => qg (bxC (m.s 0)) (qca (gL [(ql xs) 0] 0)) (qdz KK)
theorem qhv {R : Type} : qfe Try.prog 68 (qd4 (R := R)) :=
  qkf (ac := fun KK => qz KK) tabOk follows Try.func68 (by kernel_rfl) qht (fun KK => qhn KK) (fun KK => qhu KK) rfl fun xs m KK => qhs KK _ _ _ _ _
def q6l : Shp := ⟨[(0, .one (.l (.sl 8))), (1, .st (lk qi))], []⟩
def qq2 (v0 : List AV) (Aq : Bool) (Ar As At : Int) : Option Bool :=
  (qca v0 Aq Ar As At fun v4q1 b0_0q2 b0_1q3 b0_2q4 b0_3q5 => (some v4q1))
def qhw := hull qq2
theorem qwx : qhw = qq2 := qk _
def qq3 : AC Bool :=
  .seq (.reg [ao 3 (.box 1),
 ao 4 (.mv (.c (.bool false)))]) (.seq (.reg [ao 5 (.mv 0),
 ao 6 (.mkf 90 [3]),
 .st (.sel [5, 6] [0]),
 .callr (po 7 (.call 68 [5, 6])) 68 qd4,
 ao 4 (.mv 7)]) (.ret))
theorem q7m : AC.ok Try.prog (TIof Try.prog) 8 0 (kret [.t 4] decB) qq3 := qo (zA qhv trivial)
theorem q94 (v0 : List AV) (Aq : Bool) (Ar As At : Int) : den 0 (kret [.t 4] decB) qq3 (qj [(0, (.sl 8 v0)), (1, .agg (qc Aq Ar As At))]) (qh []) (kend (kret [.t 4] decB)) = qhw v0 Aq Ar As At := by
  rw [qwx]; kernel_rfl
theorem q95 : cFn (TIof Try.prog) Try.f52 = some ⟨8, [.t 4], scOf qq3⟩ := by kernel_rfl
def q96 (xs : List AV) : Option Bool := qg ((ql xs) 1).cells (qhw (gL [(ql xs) 0] 0))
def qlz {R : Type} : List AV → (AV → Option R) → Option R := entF q6l q96 AV.bool
theorem qq4 {R : Type} : qd Try.prog 52 (qlz (R := R)) :=
  qch tabOk follows Try.func52 (by kernel_rfl) q95 hdeB q7m (qbh (by kernel_rfl)) fun xs => q94 _ _ _ _ _
def qbv (l : List AV) : Option (List AV) := q83 80 l
def qe7 {R : Type} (xs : List AV) (K : AV → Option R) : Option R := q5l 8 80 xs K
theorem qj9 {R : Type} : qd Try.prog 93 (qe7 (R := R)) := qbr6 (ρ := qbdb 93 4 22 34) tabOk (qbpn follows "slices.Clone[[]ddi/api.Block,ddi/api.Block]" (by kernel_rfl) (by kernel_rfl) (by kernel_rfl) (by kernel_rfl) (by kernel_rfl) (by kernel_rfl) (by kernel_rfl) (by kernel_rfl)) (by kernel_rfl) (by decide) (by decide)
def q7n {R : Type} (vs : List AV) (m : Mem) (K : AV → Mem → Option R) : Option R := q11 8 vs m K
theorem qbks {R : Type} : qfe Try.prog 95 (q7n (R := R)) := qbpo (ρ := q84 95 0 3 4 22 34) tabOk (qboh follows "slices.Delete[[]ddi/api.Block,ddi/api.Block]" (by kernel_rfl) (by kernel_rfl) (by kernel_rfl) (by kernel_rfl) (by kernel_rfl) (by kernel_rfl) (by kernel_rfl) (by kernel_rfl) (by kernel_rfl) (by kernel_rfl) (by kernel_rfl) (by kernel_rfl) (by kernel_rfl) (by kernel_rfl)) (by kernel_rfl) (by decide)
def q7o : Shp := ⟨[(0, .one (.l (.sl 8))), (1, .one (.l (.i .i64)))], []⟩
def qsm (v0 : List AV) (v1 : Int) : Option (List AV) :=
  (oB (qbv v0) fun r1 => (bif hd r1 r1.length then (oB (q33 r1 v1 (IntKind.i64.wrap (v1 + (1 : Int)))) fun r2 => (bif hd r2 r2.length then (some r2) else none)) else none))
def qfv := hull qsm
theorem qyj : qfv = qsm := qk _
def qsn : AC (List AV) :=
  .seq (.reg [ao 4 (.mv (.c .nils))]) (.seq (.reg [ao 5 (.mv 0),
 .call (po 6 (.call 93 [5])) 93 qe7,
 ao 7 (.mv 1),
 ao 8 (.mv 1),
 ao 9 (.bin .add 8 (.c (.int .i64 1))),
 .callr (po 10 (.call 95 [6, 7, 9])) 95 q7n,
 ao 4 (.mv 10)]) (.ret))
theorem q97 : AC.ok Try.prog (TIof Try.prog) 11 0 (kret [.t 4] (decF true 8)) qsn := qo (zA (qd.ok qj9) (zA qbks trivial))
theorem qbci (v0 : List AV) (v1 : Int) : den 0 (kret [.t 4] (decF true 8)) qsn (qj [(0, (.sl 8 v0)), (1, (.int .i64 v1))]) (qh []) (kend (kret [.t 4] (decF true 8))) = qfv v0 v1 := by
  rw [qyj]; kernel_rfl
theorem qbcj : cFn (TIof Try.prog) Try.f56 = some ⟨11, [.t 4], scOf qsn⟩ := by kernel_rfl
def qbck (xs : List AV) : Option (List AV) := qfv (gL [(ql xs) 0] 0) (gI [(ql xs) 1] 0)
def qka {R : Type} : List AV → (AV → Option R) → Option R := entF q7o qbck (AV.fr true 8)
theorem qnw {R : Type} : qd Try.prog 56 (qka (R := R)) :=
  qch tabOk follows Try.func56 (by kernel_rfl) qbcj hdeF q97 (qbh (by kernel_rfl)) fun xs => qbci _ _
def qq5 (z : AV) : Option ((List AV) × Int) := cond (qnm [(.one (.sl 8)), (.one (.i .i64))] z) (some (aL (gC (tpL z) 0), aI (gC (tpL z) 1))) none
def q98 (r : (List AV) × Int) : AV := .tup [.sl 8 r.1, .int .i64 r.2]
def q99 : Shp := ⟨[(0, .one (.l (.sl 8))), (1, .st (lk qi))], []⟩
def qtv (v0 : List AV) (Aq : Bool) (Ar As At : Int) : Option ((List AV) × Int) :=
  (oB (qfk v0 Aq Ar As At) fun r1 => (bif (decide (r1 < (0 : Int))) then (some (([] : List AV), (11 : Int))) else (oB (qhw v0 Aq Ar As At) fun r2 => (bif r2 then (some (([] : List AV), (25 : Int))) else (oB (qfv v0 r1) fun r3 => (some (r3, (0 : Int))))))))
def ql6 := hull qtv
theorem qz0 : ql6 = qtv := qk _
def qtw : AC ((List AV) × Int) :=
  .seq (.reg [ao 3 (.box 1),
 ao 4 (.mv (.c .nils)),
 ao 5 (.mv (.c (.int .i64 0)))]) (.seq (.reg [ao 7 (.mv 0),
 ao 8 (.load true 4 3),
 .call (po 9 (.call 51 [7, 8])) 51 qfl,
 ao 6 (.mv 9)]) (.seq (.seq (.reg [ao 10 (.mv 6),
 ao 11 (.bin .lss 10 (.c (.int .i64 0)))]) (.cond 11 (.seq (.reg [ao 4 (.mv (.c .nils)),
 ao 5 (.mv (.c (.int .i64 11)))]) (.seq (.view [.eta 4 (.one (.sl 8))]) (.ret))) (.skip))) (.seq (.seq (.reg [ao 12 (.mv 0),
 ao 13 (.load true 4 3),
 .call (po 14 (.call 52 [12, 13])) 52 qlz]) (.cond 14 (.seq (.reg [ao 4 (.mv (.c .nils)),
 ao 5 (.mv (.c (.int .i64 25)))]) (.seq (.view [.eta 4 (.one (.sl 8))]) (.ret))) (.skip))) (.seq (.reg [ao 15 (.mv 0),
 ao 16 (.mv 6),
 .callc (po 17 (.call 56 [15, 16])) 56 qka,
 ao 4 (.mv 17),
 ao 5 (.mv (.c (.int .i64 0)))]) (.ret)))))
theorem qbcl : AC.ok Try.prog (TIof Try.prog) 18 0 (kret [.t 4, .t 5] qq5) qtw := qo (zA (qd.ok qjl) (zA (qd.ok qq4) (zA (qd.ok qnw) trivial)))
theorem qbd5 (v0 : List AV) (Aq : Bool) (Ar As At : Int) : den 0 (kret [.t 4, .t 5] qq5) qtw (qj [(0, (.sl 8 v0)), (1, .agg (qc Aq Ar As At))]) (qh []) (kend (kret [.t 4, .t 5] qq5)) = ql6 v0 Aq Ar As At := by
  rw [qz0]; kernel_rfl
theorem qbd6 : cFn (TIof Try.prog) Try.f17 = some ⟨18, [.t 4, .t 5], scOf qtw⟩ := by kernel_rfl
def qbd7 (xs : List AV) : Option ((List AV) × Int) := qg ((ql xs) 1).cells (ql6 (gL [(ql xs) 0] 0))
def qyk {R : Type} : List AV → (AV → Option R) → Option R := entF q99 qbd7 q98
theorem qbd8 {R : Type} : qd Try.prog 17 (qyk (R := R)) :=
  qch tabOk follows Try.func17 (by kernel_rfl) qbd6 (fun z r h => by
 obtain ⟨h1, h2⟩ := qn h
 cases h2
 exact (qkd h1).symm) qbcl (qbh (by kernel_rfl)) fun xs => qbd5 _ _ _ _ _
def qbd9 : Shp := ⟨[(0, .one (.l (.i .u64))), (1, .one (.l (.i .i64)))], []⟩
def q5z (v0 v1 : Int) : Option AV :=
  (some (.agg [(.bool false), (.int .u64 (0 : Int)), (.int .u64 v0), (.int .i64 v1)]))
def qgf := hull q5z
theorem q2z : qgf = q5z := qk _
def qxx : AC AV :=
  .seq (.reg [ao 4 (.alloc [(.bool false), (.int .u64 0), (.int .u64 0), (.int .i64 0)])]) (.seq (.reg [ao 5 (.mv 0),
 ao 6 (.build [(.bool false), (.int .u64 0), (.int .u64 0)] [(2, (1, 5))]),
 ao 7 (.mv 1),
 ao 8 (.build [(.bool false), (.int .u64 0), (.int .u64 0), (.int .i64 0)] [(0, (3, 6)), (3, (1, 7))]),
 an (.store 4 4 8)]) (.ret))
theorem qbg5 : AC.ok Try.prog (TIof Try.prog) 9 0 (kret [(.cell 4 true 4)] (decT [.b, (.i .u64), (.i .u64), (.i .i64)])) qxx := qo trivial
theorem qbjn (v0 v1 : Int) : den 0 (kret [(.cell 4 true 4)] (decT [.b, (.i .u64), (.i .u64), (.i .i64)])) qxx (qj [(0, (.int .u64 v0)), (1, (.int .i64 v1))]) (qh []) (kend (kret [(.cell 4 true 4)] (decT [.b, (.i .u64), (.i .u64), (.i .i64)]))) = qgf v0 v1 := by
  rw [q2z]; kernel_rfl
theorem qbjo : cFn (TIof Try.prog) Try.f50 = some ⟨9, [(.cell 4 true 4)], scOf qxx⟩ := by kernel_rfl
def qbjp (xs : List AV) : Option AV := qgf (gI [(ql xs) 0] 0) (gI [(ql xs) 1] 0)
def qf4 {R : Type} : List AV → (AV → Option R) → Option R := entF qbd9 qbjp (qpm (.st [.b, (.i .u64), (.i .u64), (.i .i64)]))
theorem qkr {R : Type} : qd Try.prog 50 (qf4 (R := R)) :=
  qch tabOk follows Try.func50 (by kernel_rfl) qbjo hdeT qbg5 (qbh (by kernel_rfl)) fun xs => qbjn _ _
def q6m : Shp := ⟨[(0, .st (lk qa)), (1, .one (.ptr 0 0))], [.box true (lk qa)]⟩
def qwy {R : Type} (KK : AV → Mem → Option R) := (fun v3 Ai Aj Ak Al Am An Ao Ap => KK (.bool v3) (qh [(some (.box true [(.bool Ai), (.int .u64 Aj), (.int .u64 Ak), (.int .i64 Al), (.int .i64 Am), (.str An), (.str Ao), (.int .i64 Ap)]))]))
def qq6 {R : Type}  (Aa : Bool) (Ab Ac Ad Ae : Int) (Af Ag : List UInt8) (Ah : Int) (Ai : Bool) (Aj Ak Al Am : Int) (An Ao : List UInt8) (Ap : Int) (kr : Bool → Bool → Int → Int → Int → Int → (List UInt8) → (List UInt8) → Int → Option R) : Option R :=
  (oB (qln Aa Ab Ac Ad Ai Aj Ak Al) fun r1 => (kr (decide (r1 > (0 : Int))) Ai Aj Ak Al Am An Ao Ap))
def qmb {R : Type} := hull (qq6 (R := R))
theorem qwz {R : Type} : qmb (R := R) = qq6 := qk _
def qh6 {R : Type} (KK : AV → Mem → Option R) : AC R :=
  .seq (.reg [ao 2 (.box 0),
 ao 3 (.mv (.c (.bool false)))]) (.seq (.reg [ao 4 (.fa 0 2),
 ao 5 (.load true 4 4),
 ao 6 (.fa 0 1),
 ao 7 (.load true 4 6),
 .call (po 8 (.call 40 [5, 7])) 40 qp2,
 ao 9 (.bin .gtr 8 (.c (.int .i64 0))),
 ao 3 (.mv 9)]) (.seq (.view [.sel [3] [0]]) (.ret)))
theorem q7p {R : Type} (KK : AV → Mem → Option R) : AC.ok Try.prog (TIof Try.prog) 10 1 (qm [.t 3] KK) (qh6 KK) := qo (zA (qd.ok qzw) trivial)
theorem qbaa {R : Type} (KK : AV → Mem → Option R) (Aa : Bool) (Ab Ac Ad Ae : Int) (Af Ag : List UInt8) (Ah : Int) (Ai : Bool) (Aj Ak Al Am : Int) (An Ao : List UInt8) (Ap : Int) : den 1 (qm [.t 3] KK) (qh6 KK) (qj [(0, .agg (qb Aa Ab Ac Ad Ae Af Ag Ah)), (1, (.ptr 0 0))]) (qh [(some (.box true (qb Ai Aj Ak Al Am An Ao Ap)))]) (kend (qm [.t 3] KK)) = qmb Aa Ab Ac Ad Ae Af Ag Ah Ai Aj Ak Al Am An Ao Ap (qwy KK) := by
  rw [qwz]; kernel_rfl
theorem qbab : cFn (TIof Try.prog) Try.f91 = some ⟨10, [.t 3], scOf (qh6 (R := Unit) (fun _ _ => none))⟩ := by kernel_rfl
theorem qbac {R : Type} (KK : AV → Mem → Option R) : (qh6 KK).er = some (scOf (qh6 (R := Unit) (fun _ _ => none))) := by kernel_rfl
def qyl {R : Type} : List AV → Mem → (AV → Mem → Option R) → Option R := refE q6m fun xs m KK => qe (bxC (m.s 0)) (qe ((ql xs) 0).cells (qmb)) (qwy KK)
theorem qbad {R : Type} : qfe Try.prog 91 (qyl (R := R)) :=
  qkf (ac := fun KK => qh6 KK) tabOk follows Try.func91 (by kernel_rfl) qbab (fun KK => q7p KK) (fun KK => qbac KK) rfl fun xs m KK => qbaa KK _ _ _ _ _ _ _ _ _ _ _ _ _ _ _ _
def qb0 {R : Type}  (K : Ex → Env → Mem → Option R) := (fun z_b0_0 z_b0_1 z_b0_2 z_b0_3 z_b0_4 z_b0_5 z_b0_6 z_b0_7 => K (.exit 0) (qj []) (qh [(some (.box true (qb z_b0_0 z_b0_1 z_b0_2 z_b0_3 z_b0_4 z_b0_5 z_b0_6 z_b0_7)))]))
def qb7 {R : Type} (KK : AV → Mem → Option R) := (fun v4 Ai Aj Ak Al Am An Ao Ap => KK (.int .i64 v4) (qh [(some (.box true [(.bool Ai), (.int .u64 Aj), (.int .u64 Ak), (.int .i64 Al), (.int .i64 Am), (.str An), (.str Ao), (.int .i64 Ap)]))]))
def qhx : Shp := ⟨[(0, .one (.l (.sl 8))), (1, .one (.fn 91 [(0, 0)])), (7, .one (.l (.i .i64))), (8, .one (.l (.i .i64)))], [.box true (lk qa)]⟩
def qcz (v0 : List AV) (v7 v8 : Int) (Ai : Bool) (Aj Ak Al Am : Int) (An Ao : List UInt8) (Ap : Int) : Env := qj [(0, (.sl 8 v0)), (1, (.func 91 [(.ptr 0 0)])), (7, (.int .i64 v7)), (8, (.int .i64 v8))]
def qc0 (v0 : List AV) (v7 v8 : Int) (Ai : Bool) (Aj Ak Al Am : Int) (An Ao : List UInt8) (Ap : Int) : Mem := qh [(some (.box true (qb Ai Aj Ak Al Am An Ao Ap)))]
def qbb {R : Type}  (v0 : List AV) (v7 v8 : Int) (Ai : Bool) (Aj Ak Al Am : Int) (An Ao : List UInt8) (Ap : Int) (next : Int → Bool → Int → Int → Int → Int → (List UInt8) → (List UInt8) → Int → Option R) (kx0 : Bool → Int → Int → Int → Int → (List UInt8) → (List UInt8) → Int → Option R) (kr : Int → Bool → Int → Int → Int → Int → (List UInt8) → (List UInt8) → Int → Option R) : Option R :=
  (bif (decide (v8 < v7)) then (oB (ixB v0 v8) fun y1 => (bif fitC qa y1.cells then (qmb (gB y1.cells 0) (gI y1.cells 1) (gI y1.cells 2) (gI y1.cells 3) (gI y1.cells 4) (gS y1.cells 5) (gS y1.cells 6) (gI y1.cells 7) Ai Aj Ak Al Am An Ao Ap fun v3q2 b0_0q3 b0_1q4 b0_2q5 b0_3q6 b0_4q7 b0_5q8 b0_6q9 b0_7q10 => (bif v3q2 then (kr v8 b0_0q3 b0_1q4 b0_2q5 b0_3q6 b0_4q7 b0_5q8 b0_6q9 b0_7q10) else (next (IntKind.i64.wrap (v8 + (1 : Int))) b0_0q3 b0_1q4 b0_2q5 b0_3q6 b0_4q7 b0_5q8 b0_6q9 b0_7q10))) else none)) else (kx0 Ai Aj Ak Al Am An Ao Ap))
def qcb {R : Type}  (v0 : List AV) (v7 : Int) (kx0 : Bool → Int → Int → Int → Int → (List UInt8) → (List UInt8) → Int → Option R) (kr : Int → Bool → Int → Int → Int → Int → (List UInt8) → (List UInt8) → Int → Option R) : Nat → Int → Bool → Int → Int → Int → Int → (List UInt8) → (List UInt8) → Int → Option R
  | 0 => (fun _ _ _ _ _ _ _ _ _ => none)
  | n + 1 => (fun v8 Ai Aj Ak Al Am An Ao Ap => qbb v0 v7 v8 Ai Aj Ak Al Am An Ao Ap (qcb v0 v7 kx0 kr n) kx0 kr)
def qcd {R : Type} := hull (qcb (R := R))
theorem qea {R : Type} : qcd (R := R) = qcb := qk _
def qbc {R : Type} (KK : AV → Mem → Option R) : AC R :=
  .seq (.reg [ao 9 (.bin .lss 8 7)]) (.seq (.cond 9 (.skip) (.seq (.view [.sel [] [0]]) (.exit 0))) (.seq (.block 1 (.seq (.reg [ao 10 (.mv 8),
 ao 5 (.mv 10)]) (.seq (.reg [ao 11 (.mv 1),
 ao 12 (.mv 0),
 ao 13 (.mv 5),
 ao 14 (.ia 8 12 13),
 .st (.etac 14 qa),
 ao 15 (.load true 8 14),
 .st (.sel [0, 1, 5, 7, 8, 11, 15] [0]),
 .callr (po 16 (.callv 11 [15])) 91 qyl]) (.cond 16 (.seq (.reg [ao 17 (.mv 5),
 ao 4 (.mv 17)]) (.seq (.view [.sel [4] [0]]) (.ret))) (.skip))))) (.seq (.reg [ao 18 (.bin .add 8 (.c (.int .i64 1))),
 ao 8 (.mv 18)]) (.view [.sel [0, 1, 7, 8] [0]]))))
theorem qij {R : Type} (KK : AV → Mem → Option R) : AC.ok Try.prog (TIof Try.prog) 19 1 (qm [.t 4] KK) (qbc KK) := qo (zA qbad trivial)
theorem qhy {R : Type} (KK : AV → Mem → Option R) (v0 : List AV) (v7 v8 : Int) (Ai : Bool) (Aj Ak Al Am : Int) (An Ao : List UInt8) (Ap : Int) (K : Ex → Env → Mem → Option R) : den 1 (qm [.t 4] KK) (qbc KK) (qcz v0 v7 v8 Ai Aj Ak Al Am An Ao Ap) (qc0 v0 v7 v8 Ai Aj Ak Al Am An Ao Ap) K = qbb v0 v7 v8 Ai Aj Ak Al Am An Ao Ap (fun z_v8 z_b0_0 z_b0_1 z_b0_2 z_b0_3 z_b0_4 z_b0_5 z_b0_6 z_b0_7 => K .norm (qcz v0 v7 z_v8 z_b0_0 z_b0_1 z_b0_2 z_b0_3 z_b0_4 z_b0_5 z_b0_6 z_b0_7) (qc0 v0 v7 z_v8 z_b0_0 z_b0_1 z_b0_2 z_b0_3 z_b0_4 z_b0_5 z_b0_6 z_b0_7)) (qb0 K) (qb7 KK) := by kernel_rfl
theorem qiy {R : Type} (KK : AV → Mem → Option R) (v0 : List AV) (v7 : Int) (K : Ex → Env → Mem → Option R) : ∀ (n : Nat) (v8 : Int) (Ai : Bool) (Aj Ak Al Am : Int) (An Ao : List UInt8) (Ap : Int), qg4 (den 1 (qm [.t 4] KK) (qbc KK)) n (qcz v0 v7 v8 Ai Aj Ak Al Am An Ao Ap) (qc0 v0 v7 v8 Ai Aj Ak Al Am An Ao Ap) K = qcd v0 v7 (qb0 K) (qb7 KK) n v8 Ai Aj Ak Al Am An Ao Ap := by
  rw [qea]
  intro n
  induction n with
  | zero => intros; rfl
  | succ n ih =>
 intro v8 Ai Aj Ak Al Am An Ao Ap
 exact (qhy KK v0 v7 v8 Ai Aj Ak Al Am An Ao Ap (itK (den 1 (qm [.t 4] KK) (qbc KK)) n K)).trans (congrArg (fun q => qbb v0 v7 v8 Ai Aj Ak Al Am An Ao Ap q (qb0 K) (qb7 KK)) (funext fun v8 => funext fun Ai => funext fun Aj => funext fun Ak => funext fun Al => funext fun Am => funext fun An => funext fun Ao => funext fun Ap => ih v8 Ai Aj Ak Al Am An Ao Ap))
def qeq {R : Type} (KK : AV → Mem → Option R) := subE (R := R) qhx fun t m K => qe (bxC (m.s 0)) (qcd (gL [t 0] 0) (gI [t 7] 0) (qb0 K) (qb7 KK) FU (gI [t 8] 0))
theorem qiz {R : Type} (KK : AV → Mem → Option R) : qdh Try.prog (TIof Try.prog) 19 1 (qm [.t 4] KK) (.loop (scOf (qbc KK))) (qeq KK) :=
  qie tabOk follows (qij KK) (qbh (by kernel_rfl)) fun t m K => qiy KK _ _ K FU _ _ _ _ _ _ _ _ _
def qja : Shp := ⟨[(0, .one (.l (.sl 8))), (1, .one (.fn 91 [(0, 0)]))], [.box true (lk qa)]⟩
def qeu {R : Type} (KK : AV → Mem → Option R) := (fun v4 Ai Aj Ak Al Am An Ao Ap => KK (.int .i64 v4) (qh [(some (.box true [(.bool Ai), (.int .u64 Aj), (.int .u64 Ak), (.int .i64 Al), (.int .i64 Am), (.str An), (.str Ao), (.int .i64 Ap)]))]))
def qdd {R : Type}  (v0 : List AV) (Ai : Bool) (Aj Ak Al Am : Int) (An Ao : List UInt8) (Ap : Int) (kr : Int → Bool → Int → Int → Int → Int → (List UInt8) → (List UInt8) → Int → Option R) : Option R :=
  (qcd v0 (v0.length : Int) (fun b0_0q1 b0_1q2 b0_2q3 b0_3q4 b0_4q5 b0_5q6 b0_6q7 b0_7q8 => (kr (-1 : Int) b0_0q1 b0_1q2 b0_2q3 b0_3q4 b0_4q5 b0_5q6 b0_6q7 b0_7q8)) kr FU (0 : Int) Ai Aj Ak Al Am An Ao Ap)
def qbo {R : Type} := hull (qdd (R := R))
theorem qev {R : Type} : qbo (R := R) = qdd := qk _
def qbi {R : Type} (KK : AV → Mem → Option R) : AC R :=
  .seq (.reg [ao 4 (.mv (.c (.int .i64 0)))]) (.seq (.seq (.reg [ao 6 (.mv 0),
 ao 7 (.len false 6),
 ao 8 (.mv (.c (.int .i64 0)))]) (.block 0 (.seq (.view [.sel [0, 1, 7, 8] [0]]) (.sub (.loop (scOf (qbc KK))) (qeq KK))))) (.seq (.reg [ao 4 (.mv (.c (.int .i64 (-1))))]) (.seq (.view [.sel [4] [0]]) (.ret))))
theorem qjm {R : Type} (KK : AV → Mem → Option R) : AC.ok Try.prog (TIof Try.prog) 19 1 (qm [.t 4] KK) (qbi KK) := qo (zA (qiz KK) trivial)
theorem qjx {R : Type} (KK : AV → Mem → Option R) (v0 : List AV) (Ai : Bool) (Aj Ak Al Am : Int) (An Ao : List UInt8) (Ap : Int) : den 1 (qm [.t 4] KK) (qbi KK) (qj [(0, (.sl 8 v0)), (1, (.func 91 [(.ptr 0 0)]))]) (qh [(some (.box true (qb Ai Aj Ak Al Am An Ao Ap)))]) (kend (qm [.t 4] KK)) = qbo v0 Ai Aj Ak Al Am An Ao Ap (qeu KK) := by
  rw [qev]; kernel_rfl
theorem qjy : cFn (TIof Try.prog) Try.f88 = some ⟨19, [.t 4], scOf (qbi (R := Unit) (fun _ _ => none))⟩ := by kernel_rfl
theorem qjz {R : Type} (KK : AV → Mem → Option R) : (qbi KK).er = some (scOf (qbi (R := Unit) (fun _ _ => none))) := by kernel_rfl
def qe0 {R : Type} : List AV → Mem → (AV → Mem → Option R) → Option R := refE qja fun xs m KK => qe (bxC (m.s 0)) (qbo (gL [(ql xs) 0] 0)) (qeu KK)
theorem qj0 {R : Type} : qfe Try.prog 88 (qe0 (R := R)) :=
  qkf (ac := fun KK => qbi KK) tabOk follows Try.func88 (by kernel_rfl) qjy (fun KK => qjm KK) (fun KK => qjz KK) rfl fun xs m KK => qjx KK _ _ _ _ _ _ _ _ _
def q7q {R : Type} (vs : List AV) (m : Mem) (K : AV → Mem → Option R) : Option R := q12 8 80 vs m K
theorem qbkt {R : Type} : qfe Try.prog 92 (q7q (R := R)) := qbpp (ρ := q85 92 102 103 0 3 4 22 34) tabOk (qboi follows "slices.Insert[[]ddi/api.Block,ddi/api.Block]" (by kernel_rfl) (by kernel_rfl) Try.func102 (by kernel_rfl) (by kernel_rfl) (by kernel_rfl) (by kernel_rfl) (by kernel_rfl) (by kernel_rfl) (by kernel_rfl) (by kernel_rfl) (by kernel_rfl) (by kernel_rfl) (by kernel_rfl) (by kernel_rfl) (by kernel_rfl) (by kernel_rfl) (by kernel_rfl) (by kernel_rfl) (by kernel_rfl)) (by kernel_rfl) (by kernel_rfl) (by decide) (by decide)
def qu8  (v0 : List AV) (Ai : Bool) (Aj Ak Al Am : Int) (An Ao : List UInt8) (Ap : Int) (K : Ex → Env → Mem → Option (List AV)) := (fun z_v5 => K .norm (qj [(0, (.sl 8 v0)), (3, (.ptr 0 0)), (5, (.int .i64 z_v5))]) (qh [(some (.box true (qb Ai Aj Ak Al Am An Ao Ap)))]))
def q4l : Shp := ⟨[(0, .one (.l (.sl 8))), (3, .one (.ptr 0 0)), (5, .one (.l (.i .i64)))], [.box true (lk qa)]⟩
def qp8  (v0 : List AV) (v5 : Int) (Ai : Bool) (Aj Ak Al Am : Int) (An Ao : List UInt8) (Ap : Int) (kn : Int → Option (List AV)) : Option (List AV) :=
  (bif (decide (v5 < (0 : Int))) then (kn (v0.length : Int)) else (kn v5))
def qnx := hull (qp8)
theorem qu9 : qnx = qp8 := qk _
def qmc : AC (List AV) :=
  .seq (.reg [ao 9 (.mv 5),
 ao 10 (.bin .lss 9 (.c (.int .i64 0)))]) (.cond 10 (.seq (.reg [ao 11 (.mv 0),
 ao 12 (.len false 11),
 ao 5 (.mv 12)]) (.view [.sel [0, 3, 5] [0]])) (.seq (.skip) (.view [.sel [0, 3, 5] [0]])))
theorem q6n : AC.ok Try.prog (TIof Try.prog) 19 0 (kret [.t 4] (decF true 8)) qmc := qo trivial
theorem q7r (v0 : List AV) (v5 : Int) (Ai : Bool) (Aj Ak Al Am : Int) (An Ao : List UInt8) (Ap : Int) (K : Ex → Env → Mem → Option (List AV)) : den 0 (kret [.t 4] (decF true 8)) qmc (qj [(0, (.sl 8 v0)), (3, (.ptr 0 0)), (5, (.int .i64 v5))]) (qh [(some (.box true (qb Ai Aj Ak Al Am An Ao Ap)))]) K = qnx v0 v5 Ai Aj Ak Al Am An Ao Ap (qu8 v0 Ai Aj Ak Al Am An Ao Ap K) := by
  rw [qu9]; kernel_rfl
def qw0 := subE (R := (List AV)) q4l fun t m K => qe (bxC (m.s 0)) (qnx (gL [t 0] 0) (gI [t 5] 0)) (qu8 (gL [t 0] 0) (gB (bxC (m.s 0)) 0) (gI (bxC (m.s 0)) 1) (gI (bxC (m.s 0)) 2) (gI (bxC (m.s 0)) 3) (gI (bxC (m.s 0)) 4) (gS (bxC (m.s 0)) 5) (gS (bxC (m.s 0)) 6) (gI (bxC (m.s 0)) 7) K)
theorem q7s : qdh Try.prog (TIof Try.prog) 19 0 (kret [.t 4] (decF true 8)) (scOf qmc) (qw0) :=
  qke tabOk follows (q6n) (qbh (by kernel_rfl)) fun t m K => q7r _ _ _ _ _ _ _ _ _ _ K
def qbae : Shp := ⟨[(0, .one (.l (.sl 8))), (1, .st (lk qa))], []⟩
def qtx (v0 : List AV) (Aq : Bool) (Ar As At Ay : Int) (Az A0 : List UInt8) (A1 : Int) : Option (List AV) :=
  (qbo v0 Aq Ar As At Ay Az A0 A1 fun v4q1 b0_0q2 b0_1q3 b0_2q4 b0_3q5 b0_4q6 b0_5q7 b0_6q8 b0_7q9 => (qnx v0 v4q1 b0_0q2 b0_1q3 b0_2q4 b0_3q5 b0_4q6 b0_5q7 b0_6q8 b0_7q9 (fun v5q10 => (oB (qbv v0) fun r11 => (bif hd r11 r11.length then (bif hd ([(.agg [(.bool b0_0q2), (.int .u64 b0_1q3), (.int .u64 b0_2q4), (.int .i64 b0_3q5), (.int .i64 b0_4q6), (.str b0_5q7), (.str b0_6q8), (.int .i64 b0_7q9)])] : List AV) (([(.agg [(.bool b0_0q2), (.int .u64 b0_1q3), (.int .u64 b0_2q4), (.int .i64 b0_3q5), (.int .i64 b0_4q6), (.str b0_5q7), (.str b0_6q8), (.int .i64 b0_7q9)])] : List AV).length) then (oB (qv7 80 r11 v5q10 ([(.agg [(.bool b0_0q2), (.int .u64 b0_1q3), (.int .u64 b0_2q4), (.int .i64 b0_3q5), (.int .i64 b0_4q6), (.str b0_5q7), (.str b0_6q8), (.int .i64 b0_7q9)])] : List AV)) fun r12 => (bif hd r12 r12.length then (some r12) else none)) else none) else none)))))
def qgk := hull qtx
theorem qz1 : qgk = qtx := qk _
def qty : AC (List AV) :=
  .seq (.reg [ao 3 (.box 1),
 ao 4 (.mv (.c .nils))]) (.seq (.reg [ao 6 (.mv 0),
 ao 7 (.mkf 91 [3]),
 .st (.sel [0, 3, 6, 7] [0]),
 .callr (po 8 (.call 88 [6, 7])) 88 qe0,
 ao 5 (.mv 8)]) (.seq (.seq (.view [.sel [0, 3, 5] [0]]) (.sub (scOf qmc) qw0)) (.seq (.draw3 [] [14, 17] [ao 13 (.mv 0),
 .call (po 14 (.call 93 [13])) 93 qe7,
 ao 15 (.mv 5),
 ao 16 (.load true 8 3),
 ao 17 (.bsl 8 [16])] [.callr (po 18 (.call 92 [14, 15, 17])) 92 q7q,
 ao 4 (.mv 18)]) (.ret))))
theorem qbcm : AC.ok Try.prog (TIof Try.prog) 19 0 (kret [.t 4] (decF true 8)) qty := qo (zA qj0 (zA q7s (zA (qd.ok qj9) (zA qbkt (zA rfl trivial)))))
theorem qbea (v0 : List AV) (Aq : Bool) (Ar As At Ay : Int) (Az A0 : List UInt8) (A1 : Int) : den 0 (kret [.t 4] (decF true 8)) qty (qj [(0, (.sl 8 v0)), (1, .agg (qb Aq Ar As At Ay Az A0 A1))]) (qh []) (kend (kret [.t 4] (decF true 8))) = qgk v0 Aq Ar As At Ay Az A0 A1 := by
  rw [qz1]; kernel_rfl
theorem qbeb : cFn (TIof Try.prog) Try.f53 = some ⟨19, [.t 4], scOf qty⟩ := by kernel_rfl
def qbec (xs : List AV) : Option (List AV) := qe ((ql xs) 1).cells (qgk (gL [(ql xs) 0] 0))
def qk5 {R : Type} : List AV → (AV → Option R) → Option R := entF qbae qbec (AV.fr true 8)
theorem qpc {R : Type} : qd Try.prog 53 (qk5 (R := R)) :=
  qch tabOk follows Try.func53 (by kernel_rfl) qbeb hdeF qbcm (qbh (by kernel_rfl)) fun xs => qbea _ _ _ _ _ _ _ _ _
def qlo (z : AV) : Option ((List AV) × Int) := cond (qnm [(.one (.sl 8)), (.one (.i .i64))] z) (some (aL (gC (tpL z) 0), aI (gC (tpL z) 1))) none
def qbg6 (r : (List AV) × Int) : AV := .tup [.sl 8 r.1, .int .i64 r.2]
def qym  (v0 : List AV) (Ai : Bool) (Aj Ak Al Am : Int) (An Ao : List UInt8) (Ap : Int) (K : Ex → Env → Mem → Option ((List AV) × Int)) := (fun z_v25 => K .norm (qj [(0, (.sl 8 v0)), (3, (.ptr 0 0)), (25, (.bool z_v25))]) (qh [(some (.box true (qb Ai Aj Ak Al Am An Ao Ap)))]))
def q7t : Shp := ⟨[(0, .one (.l (.sl 8))), (3, .one (.ptr 0 0))], [.box true (lk qa)]⟩
def qso  (v0 : List AV) (Ai : Bool) (Aj Ak Al Am : Int) (An Ao : List UInt8) (Ap : Int) (kn : Bool → Option ((List AV) × Int)) : Option ((List AV) × Int) :=
  (oB (qgm v0 Ai Aj Ak Al Am An Ao Ap) fun r1 => (bif r1 then (kn true) else (oB (qhw v0 Ai Aj Ak Al) fun r2 => (kn r2))))
def qqo := hull (qso)
theorem qyn : qqo = qso := qk _
def qny : AC ((List AV) × Int) :=
  .seq (.reg [ao 17 (.mv 0),
 ao 18 (.load true 8 3),
 .call (po 19 (.call 44 [17, 18])) 44 qnt,
 ao 20 (.mv 19),
 ag 21 20 false (.mv 0),
 ag 22 20 false (.fa 0 3),
 ag 23 20 false (.load true 4 22),
 .call (pg 24 20 false (.call 52 [21, 23])) 52 qlz,
 ao 25 (.pick 20 (.c (.bool true)) 24)]) (.view [.sel [0, 3, 25] [0]])
theorem qbaf : AC.ok Try.prog (TIof Try.prog) 32 0 (kret [.t 4, .t 5] qlo) qny := qo (zA (qd.ok qwu) (zA (qd.ok qq4) trivial))
theorem qbcn (v0 : List AV) (Ai : Bool) (Aj Ak Al Am : Int) (An Ao : List UInt8) (Ap : Int) (K : Ex → Env → Mem → Option ((List AV) × Int)) : den 0 (kret [.t 4, .t 5] qlo) qny (qj [(0, (.sl 8 v0)), (3, (.ptr 0 0))]) (qh [(some (.box true (qb Ai Aj Ak Al Am An Ao Ap)))]) K = qqo v0 Ai Aj Ak Al Am An Ao Ap (qym v0 Ai Aj Ak Al Am An Ao Ap K) := by
  rw [qyn]; kernel_rfl
def qz2 := subE (R := (List AV) × Int) q7t fun t m K => qe (bxC (m.s 0)) (qqo (gL [t 0] 0)) (qym (gL [t 0] 0) (gB (bxC (m.s 0)) 0) (gI (bxC (m.s 0)) 1) (gI (bxC (m.s 0)) 2) (gI (bxC (m.s 0)) 3) (gI (bxC (m.s 0)) 4) (gS (bxC (m.s 0)) 5) (gS (bxC (m.s 0)) 6) (gI (bxC (m.s 0)) 7) K)
theorem qbco : qdh Try.prog (TIof Try.prog) 32 0 (kret [.t 4, .t 5] qlo) (scOf qny) (qz2) :=
  qke tabOk follows (qbaf) (qbh (by kernel_rfl)) fun t m K => qbcn _ _ _ _ _ _ _ _ _ K
def qbg7 : Shp := ⟨[(0, .one (.l (.sl 8))), (1, .st (lk qa))], []⟩
def qz3 (v0 : List AV) (Aq : Bool) (Ar As At Ay : Int) (Az A0 : List UInt8) (A1 : Int) : Option ((List AV) × Int) :=
  (oB (qlr Aq Ar As At Ay Az A0 A1) fun r1 => (bif (r1 != (0 : Int)) then (some (([] : List AV), r1)) else (oB (qfk v0 Aq Ar As At) fun r2 => (bif (decide (r2 ≥ (0 : Int))) then (some (([] : List AV), (12 : Int))) else (qqo v0 Aq Ar As At Ay Az A0 A1 (fun v25q3 => (bif v25q3 then (some (([] : List AV), (24 : Int))) else (bif (decide ((v0.length : Int) ≥ (512 : Int))) then (some (([] : List AV), (9 : Int))) else (oB (qgk v0 Aq Ar As At Ay Az A0 A1) fun r4 => (some (r4, (0 : Int))))))))))))
def qqp := hull qz3
theorem q50 : qqp = qz3 := qk _
def qz4 : AC ((List AV) × Int) :=
  .seq (.reg [ao 3 (.box 1),
 ao 4 (.mv (.c .nils)),
 ao 5 (.mv (.c (.int .i64 0)))]) (.seq (.seq (.reg [ao 7 (.load true 8 3),
 .call (po 8 (.call 43 [7])) 43 qsh,
 ao 6 (.mv 8)]) (.seq (.reg [ao 9 (.mv 6),
 ao 10 (.bin .neq 9 (.c (.int .i64 0)))]) (.cond 10 (.seq (.reg [ao 11 (.mv 6),
 ao 4 (.mv (.c .nils)),
 ao 5 (.mv 11)]) (.seq (.view [.eta 4 (.one (.sl 8))]) (.ret))) (.skip)))) (.seq (.seq (.reg [ao 12 (.mv 0),
 ao 13 (.fa 0 3),
 ao 14 (.load true 4 13),
 .call (po 15 (.call 51 [12, 14])) 51 qfl,
 ao 16 (.bin .geq 15 (.c (.int .i64 0)))]) (.cond 16 (.seq (.reg [ao 4 (.mv (.c .nils)),
 ao 5 (.mv (.c (.int .i64 12)))]) (.seq (.view [.eta 4 (.one (.sl 8))]) (.ret))) (.skip))) (.seq (.seq (.seq (.view [.sel [0, 3] [0]]) (.sub (scOf qny) qz2)) (.cond 25 (.seq (.reg [ao 4 (.mv (.c .nils)),
 ao 5 (.mv (.c (.int .i64 24)))]) (.seq (.view [.eta 4 (.one (.sl 8))]) (.ret))) (.skip))) (.seq (.seq (.reg [ao 26 (.mv 0),
 ao 27 (.len false 26),
 ao 28 (.bin .geq 27 (.c (.int .i64 512)))]) (.cond 28 (.seq (.reg [ao 4 (.mv (.c .nils)),
 ao 5 (.mv (.c (.int .i64 9)))]) (.seq (.view [.eta 4 (.one (.sl 8))]) (.ret))) (.skip))) (.seq (.reg [ao 29 (.mv 0),
 ao 30 (.load true 8 3),
 .callc (po 31 (.call 53 [29, 30])) 53 qk5,
 ao 4 (.mv 31),
 ao 5 (.mv (.c (.int .i64 0)))]) (.ret))))))
theorem qbjq : AC.ok Try.prog (TIof Try.prog) 32 0 (kret [.t 4, .t 5] qlo) qz4 := qo (zA (qd.ok q2r) (zA (qd.ok qjl) (zA qbco (zA (qd.ok qpc) trivial))))
theorem qbku (v0 : List AV) (Aq : Bool) (Ar As At Ay : Int) (Az A0 : List UInt8) (A1 : Int) : den 0 (kret [.t 4, .t 5] qlo) qz4 (qj [(0, (.sl 8 v0)), (1, .agg (qb Aq Ar As At Ay Az A0 A1))]) (qh []) (kend (kret [.t 4, .t 5] qlo)) = qqp v0 Aq Ar As At Ay Az A0 A1 := by
  rw [q50]; kernel_rfl
theorem qbkv : cFn (TIof Try.prog) Try.f15 = some ⟨32, [.t 4, .t 5], scOf qz4⟩ := by kernel_rfl
def qbkw (xs : List AV) : Option ((List AV) × Int) := qe ((ql xs) 1).cells (qqp (gL [(ql xs) 0] 0))
def q20 {R : Type} : List AV → (AV → Option R) → Option R := entF qbg7 qbkw qbg6
theorem qbkx {R : Type} : qd Try.prog 15 (q20 (R := R)) :=
  qch tabOk follows Try.func15 (by kernel_rfl) qbkv (fun z r h => by
 obtain ⟨h1, h2⟩ := qn h
 cases h2
 exact (qkd h1).symm) qbjq (qbh (by kernel_rfl)) fun xs => qbku _ _ _ _ _ _ _ _ _
end
end Go.Proofs.Ytmjdngnagiloeaa.Dn
