import Derived.Test.YtmoedhehjonnhaaGreatDoorProg
import Derived.Test.YtmoedhehjonnhaaGreatDoorRyLibD
import Derived.Test.YtmoedhehjonnhaaGreatDoorRyPl22
import Derived.Test.YtmoedhehjonnhaaGreatDoorRyLy22
set_option linter.all false
namespace Go.Proofs.YtmoedhehjonnhaaGreatDoor.Dn
open Go Go.Pev
set_option linter.unusedVariables false
set_option linter.unusedSimpArgs false
set_option maxRecDepth 100000
set_option maxHeartbeats 4000000
theorem zT : True := True.intro
theorem zA {a b : Prop} (x : a) (y : b) : a ∧ b := ⟨x, y⟩
theorem tabOk : Tab.ok (TIof Tryz.prog) Tryz.prog := fun _ _ h => h
theorem follows : Tryz.prog.follows .mixedOrders = true := by kernel_rfl
def qc : List LT := [.s, .b, (.i .i64), (.i .i64), (.i .i64), (.i .i64), (.i .i64)]
def S0_ : Shp := ⟨[(0, .one (.l (.sl 7))), (3, .one (.own 0)), (4, .one (.l (.i .i64)))], [.arr true 7]⟩
def S1_ : Shp := ⟨[(0, .one (.l (.sl 7)))], []⟩
def ql4  (K : Ex → Env → Mem → Option (List AV)) := (fun z_a0 => K (.exit 0) (ql [(3, (.own 0 z_a0.length))]) (qd [(some (.arr true 7 z_a0))]))
noncomputable section
def qfe  (v0 : List AV) (v4 : Int) (a0 : List AV) (next : Int → (List AV) → Option (List AV)) (kx0 : (List AV) → Option (List AV)) : Option (List AV) :=
  (bif ((decide (v4 < (v0.length : Int))) && (decide (v4 < (20 : Int)))) then (oB (ixB v0 v4) fun y1 => (bif fitC qc y1.cells then (oB (cutI (gS y1.cells 0) none (some (if (300 : Int) < ((gS y1.cells 0).length : Int) then (300 : Int) else ((gS y1.cells 0).length : Int)))) fun s2 => (bif hd a0 a0.length then (bif hd ([(.agg [(.str s2), (.bool (gB y1.cells 1)), (.int .i64 (gI y1.cells 2)), (.int .i64 (gI y1.cells 3)), (.int .i64 (gI y1.cells 4)), (.int .i64 (gI y1.cells 5)), (.int .i64 (gI y1.cells 6))])] : List AV) (([(.agg [(.str s2), (.bool (gB y1.cells 1)), (.int .i64 (gI y1.cells 2)), (.int .i64 (gI y1.cells 3)), (.int .i64 (gI y1.cells 4)), (.int .i64 (gI y1.cells 5)), (.int .i64 (gI y1.cells 6))])] : List AV).length) then (bif decide ((a0.length + ([(.agg [(.str s2), (.bool (gB y1.cells 1)), (.int .i64 (gI y1.cells 2)), (.int .i64 (gI y1.cells 3)), (.int .i64 (gI y1.cells 4)), (.int .i64 (gI y1.cells 5)), (.int .i64 (gI y1.cells 6))])] : List AV).length) * 64 ≤ 140737488355328) then (next (IntKind.i64.wrap (v4 + (1 : Int))) (a0 ++ ([(.agg [(.str s2), (.bool (gB y1.cells 1)), (.int .i64 (gI y1.cells 2)), (.int .i64 (gI y1.cells 3)), (.int .i64 (gI y1.cells 4)), (.int .i64 (gI y1.cells 5)), (.int .i64 (gI y1.cells 6))])] : List AV))) else none) else none) else none)) else none)) else (kx0 a0))
def qd8  (v0 : List AV) (kx0 : (List AV) → Option (List AV)) : Nat → Int → (List AV) → Option (List AV)
  | 0 => (fun _ _ => none)
  | n + 1 => (fun v4 a0 => qfe v0 v4 a0 (qd8 v0 kx0 n) kx0)
def qp2 := hull (qd8)
theorem qu4 : qp2 = qd8 := qb _
def qxd : SubB Tryz.prog (TIof Tryz.prog) 36 0 (kret [.t 2] (decF true 7)) := lpB tabOk follows Tryz.f9 75 (.s (.s (.r [(5, .g 2)] []) (.s .z (.v [.sel [3] [0]]))) (.s (.b (.s (.r [(2, .p (.etac 18 qc))] []) .z)) (.v [.sel [0, 3, 4] [0]]))) S0_ (qd8) (fun f v K n => f (v.l 0 0) (ql4 K) n) (fun v f K => qfe (v.l 0 0) (v.i 16 0) (v.r 0) f (ql4 K)) (fun f v => f (v.i 16 0) (v.r 0)) (fun k v => (fun z0 z1 => k ((v.ui 16 0 z0).ur 0 z1))) (by kernel_rfl) (fun _ _ => (by kernel_rfl)) (fun _ _ _ => (by kernel_rfl)) (fun _ _ _ => (by kernel_rfl)) (fun _ _ => (by kernel_rfl)) (fun _ _ _ _ _ => (by kernel_rfl))
def qi8 (v0 : List AV) : Option (List AV) :=
  (bif (hd ([] : List AV) (([] : List AV).length) && true) then (qp2 v0 (fun a0q1 => (bif hd a0q1 a0q1.length then (some a0q1) else none)) FU (0 : Int) ([] : List AV)) else none)
def qot := hull qi8
theorem qzn : qot = qi8 := qb _
def q1j {R : Type} : EntF Tryz.prog R := entB (nt := 36) (dec := (decF true 7)) (enc := (AV.fr true 7)) tabOk follows Tryz.func9 [.t 2] hdeF (.s .z (.s .z (.s (.s .z (.b (.sub [.own 3 7, .sel [0, 3, 4] [0]] qxd []))) .z))) S1_ qi8 (fun f v => f (v.l 0 0)) (by kernel_rfl) (by kernel_rfl) (by kernel_rfl) fun _ => (by kernel_rfl)
def S2_ : Shp := ⟨[(0, .st (lk qc))], []⟩
def qkc (Aa : List UInt8) (Ab : Bool) (Ac Ad Ae Af Ag : Int) : Option AV :=
  (some (.agg [(.int .i64 Ad), (.int .i64 Ae), (.int .i64 Af), (.int .i64 Ag)]))
def qet := hull qkc
theorem qxe : qet = qkc := qb _
def qkd {R : Type} : EntF Tryz.prog R := entB (nt := 12) (dec := (decT [(.i .i64), (.i .i64), (.i .i64), (.i .i64)])) (enc := (qof (.st [(.i .i64), (.i .i64), (.i .i64), (.i .i64)]))) tabOk follows Tryz.func35 [(.cell 2 true 4)] hdeT (.z) S2_ qkc (fun f v => f (v.s 1 0) (v.b 1 1) (v.i 1 2) (v.i 1 3) (v.i 1 4) (v.i 1 5) (v.i 1 6)) (by kernel_rfl) (by kernel_rfl) (by kernel_rfl) fun _ => (by kernel_rfl)
def qww : List LT := [(.i .i64), (.i .i64), (.i .i64), (.i .i64)]
def qzo (x0 x1 x2 x3 : Int) : List AV := [.int .i64 x0, .int .i64 x1, .int .i64 x2, .int .i64 x3]
def S3_ : Shp := ⟨[(1, .one (.l (.i .i64))), (6, .one (.l (.i .i64))), (7, .one (.l .b)), (11, .one (.l (.i .i64))), (12, .one (.l (.sl 7))), (13, .one (.l (.i .i64))), (14, .one (.l (.i .i64))), (19, .st (lk qww)), (20, .one (.l (.i .i64)))], []⟩
def S4_ : Shp := ⟨[(1, .one (.l (.i .i64))), (6, .one (.l (.i .i64))), (7, .one (.l .b)), (12, .one (.l (.sl 7))), (13, .one (.l (.i .i64))), (14, .one (.l (.i .i64))), (19, .st (lk qww)), (20, .one (.l (.i .i64)))], []⟩
def S5_ : Shp := ⟨[(1, .one (.l (.i .i64))), (6, .one (.l (.i .i64))), (7, .one (.l .b)), (12, .one (.l (.sl 7))), (13, .one (.l (.i .i64))), (14, .one (.l (.i .i64)))], []⟩
def S6_ : Shp := ⟨[(0, .one (.l (.sl 7))), (1, .one (.l (.i .i64)))], []⟩
def qgv : AV → Option (Int × Bool) := decN [(.one (.i .i64)), (.one .b)] fun z => (aI (gC (tpL z) 0), aB (gC (tpL z) 1))
def qsl  (v1 v6 : Int) (v7 : Bool) (v11 : Int) (v12 : List AV) (v13 v14 Ah Ai Aj Ak v20 : Int) (K : Ex → Env → Mem → Option (Int × Bool)) := (fun z_v34 => K .norm (ql [(1, (.int .i64 v1)), (6, (.int .i64 v6)), (7, (.bool v7)), (11, (.int .i64 v11)), (12, (.sl 7 v12)), (13, (.int .i64 v13)), (14, (.int .i64 v14)), (19, .agg (qzo Ah Ai Aj Ak)), (20, (.int .i64 v20)), (34, (.bool z_v34))]) (qd []))
def qfy  (v1 v6 : Int) (v7 : Bool) (v11 : Int) (v12 : List AV) (v13 v14 Ah Ai Aj Ak v20 : Int) (kn : Bool → Option (Int × Bool)) : Option (Int × Bool) :=
  (bif (decide (v11 > v1)) then (bif (!v7) then (kn true) else (kn (decide (v11 < v6)))) else (kn false))
def qnp := hull (qfy)
theorem qsm : qnp = qfy := qb _
def quk : SubB Tryz.prog (TIof Tryz.prog) 40 0 (kret [.t 4, .t 5] qgv) := jnB tabOk follows Tryz.f17 1363147 (.v [.sel [1, 6, 7, 11, 12, 13, 14, 19, 20, 34] []]) S3_ (qfy) (fun f v K => f (v.i 4 0) (v.i 24 0) (v.b 28 0) (v.i 44 0) (v.l 48 0) (v.i 52 0) (v.i 56 0) (v.i 77 0) (v.i 77 1) (v.i 77 2) (v.i 77 3) (v.i 80 0) (qsl (v.i 4 0) (v.i 24 0) (v.b 28 0) (v.i 44 0) (v.l 48 0) (v.i 52 0) (v.i 56 0) (v.i 77 0) (v.i 77 1) (v.i 77 2) (v.i 77 3) (v.i 80 0) K)) (by kernel_rfl) (fun _ _ => (by kernel_rfl))
def qkm  (v1 : Int) (v12 : List AV) (v13 v14 : Int) (K : Ex → Env → Mem → Option (Int × Bool)) := (fun z_v6 z_v7 => K (.exit 2) (ql [(1, (.int .i64 v1)), (6, (.int .i64 z_v6)), (7, (.bool z_v7)), (12, (.sl 7 v12)), (13, (.int .i64 v13)), (14, (.int .i64 v14))]) (qd []))
def qei  (v1 v6 : Int) (v7 : Bool) (v12 : List AV) (v13 v14 Ah Ai Aj Ak v20 : Int) (next : Int → Bool → Int → Option (Int × Bool)) (kx2 : Int → Bool → Option (Int × Bool)) : Option (Int × Bool) :=
  (bif (decide (v20 < (4 : Int))) then (oI (vixa false 4 1 (.agg [(.int .i64 Ah), (.int .i64 Ai), (.int .i64 Aj), (.int .i64 Ak)]) (.int .i64 v20)) fun q1 => (bif fitV (.one (.i .i64)) q1 then (qnp v1 v6 v7 (aI q1) v12 v13 v14 Ah Ai Aj Ak v20 (fun v34q2 => (bif v34q2 then (next (aI q1) true (IntKind.i64.wrap (v20 + (1 : Int)))) else (next v6 v7 (IntKind.i64.wrap (v20 + (1 : Int))))))) else none)) else (kx2 v6 v7))
def qej  (v1 : Int) (v12 : List AV) (v13 v14 Ah Ai Aj Ak : Int) (kx2 : Int → Bool → Option (Int × Bool)) : Nat → Int → Bool → Int → Option (Int × Bool)
  | 0 => (fun _ _ _ => none)
  | n + 1 => (fun v6 v7 v20 => qei v1 v6 v7 v12 v13 v14 Ah Ai Aj Ak v20 (qej v1 v12 v13 v14 Ah Ai Aj Ak kx2 n) kx2)
def qjn := hull (qej)
theorem qsn : qjn = qej := qb _
def qul : SubB Tryz.prog (TIof Tryz.prog) 40 0 (kret [.t 4, .t 5] qgv) := lpB tabOk follows Tryz.f17 19659 (.s .z (.s (.s .z (.v [.sel [1, 6, 7, 12, 13, 14] []])) (.s (.b (.s (.r [(0, .p (.eta 22 (.one (.i .i64))))] []) (.s (.sub [.sel [1, 6, 7, 11, 12, 13, 14, 19, 20] []] quk []) .z))) (.v [.sel [1, 6, 7, 12, 13, 14, 19, 20] []])))) S4_ (qej) (fun f v K n => f (v.i 4 0) (v.l 48 0) (v.i 52 0) (v.i 56 0) (v.i 77 0) (v.i 77 1) (v.i 77 2) (v.i 77 3) (qkm (v.i 4 0) (v.l 48 0) (v.i 52 0) (v.i 56 0) K) n) (fun v f K => qei (v.i 4 0) (v.i 24 0) (v.b 28 0) (v.l 48 0) (v.i 52 0) (v.i 56 0) (v.i 77 0) (v.i 77 1) (v.i 77 2) (v.i 77 3) (v.i 80 0) f (qkm (v.i 4 0) (v.l 48 0) (v.i 52 0) (v.i 56 0) K)) (fun f v => f (v.i 24 0) (v.b 28 0) (v.i 80 0)) (fun k v => (fun z0 z1 z2 => k (((v.ui 24 0 z0).ub 28 0 z1).ui 80 0 z2))) (by kernel_rfl) (fun _ _ => (by kernel_rfl)) (fun _ _ _ => (by kernel_rfl)) (fun _ _ _ => (by kernel_rfl)) (fun _ _ => (by kernel_rfl)) (fun _ _ _ _ _ => (by kernel_rfl))
def qk2  (K : Ex → Env → Mem → Option (Int × Bool)) := (fun z_v6 z_v7 => K (.exit 0) (ql [(6, (.int .i64 z_v6)), (7, (.bool z_v7))]) (qd []))
def qe5  (v1 v6 : Int) (v7 : Bool) (v12 : List AV) (v13 v14 : Int) (next : Int → Bool → Int → Option (Int × Bool)) (kx0 : Int → Bool → Option (Int × Bool)) : Option (Int × Bool) :=
  (bif (decide (v14 < v13)) then (oB (ixB v12 v14) fun y1 => (bif fitC qc y1.cells then (oB (qet (gS y1.cells 0) (gB y1.cells 1) (gI y1.cells 2) (gI y1.cells 3) (gI y1.cells 4) (gI y1.cells 5) (gI y1.cells 6)) fun r2 => (qjn v1 v12 v13 v14 (gI r2.cells 0) (gI r2.cells 1) (gI r2.cells 2) (gI r2.cells 3) (fun v6q3 v7q4 => (next v6q3 v7q4 (IntKind.i64.wrap (v14 + (1 : Int))))) FU v6 v7 (0 : Int))) else none)) else (kx0 v6 v7))
def qe6  (v1 : Int) (v12 : List AV) (v13 : Int) (kx0 : Int → Bool → Option (Int × Bool)) : Nat → Int → Bool → Int → Option (Int × Bool)
  | 0 => (fun _ _ _ => none)
  | n + 1 => (fun v6 v7 v14 => qe5 v1 v6 v7 v12 v13 v14 (qe6 v1 v12 v13 kx0 n) kx0)
def qou := hull (qe6)
theorem qum : qou = qe6 := qb _
def qu5 : SubB Tryz.prog (TIof Tryz.prog) 40 0 (kret [.t 4, .t 5] qgv) := lpB tabOk follows Tryz.f17 75 (.s .z (.s (.s .z (.v [.sel [6, 7] []])) (.s (.b (.s (.r [(0, .p (.etac 16 qc))] []) (.s (.r [(1, .c qkd.b)] []) (.b (.sub [.sel [1, 6, 7, 12, 13, 14, 19, 20] []] qul []))))) (.v [.sel [1, 6, 7, 12, 13, 14] []])))) S5_ (qe6) (fun f v K n => f (v.i 4 0) (v.l 48 0) (v.i 52 0) (qk2 K) n) (fun v f K => qe5 (v.i 4 0) (v.i 24 0) (v.b 28 0) (v.l 48 0) (v.i 52 0) (v.i 56 0) f (qk2 K)) (fun f v => f (v.i 24 0) (v.b 28 0) (v.i 56 0)) (fun k v => (fun z0 z1 z2 => k (((v.ui 24 0 z0).ub 28 0 z1).ui 56 0 z2))) (by kernel_rfl) (fun _ _ => (by kernel_rfl)) (fun _ _ _ => (by kernel_rfl)) (fun _ _ _ => (by kernel_rfl)) (fun _ _ => (by kernel_rfl)) (fun _ _ _ _ _ => (by kernel_rfl))
def qif (v0 : List AV) (v1 : Int) : Option (Int × Bool) :=
  (qou v1 v0 (v0.length : Int) (fun v6q1 v7q2 => (some (v6q1, v7q2))) FU (0 : Int) false (0 : Int))
def qf9 := hull qif
theorem qyp : qf9 = qif := qb _
def qp3 {R : Type} : EntF Tryz.prog R := entB (nt := 40) (dec := qgv) (enc := (fun r => .tup [.int .i64 r.1, .bool r.2])) tabOk follows Tryz.func17 [.t 4, .t 5] (hdeN fun _ => rfl) (.s .z (.s .z (.s (.s .z (.b (.sub [.sel [1, 6, 7, 12, 13, 14] []] qu5 []))) .z))) S6_ qif (fun f v => f (v.l 0 0) (v.i 4 0)) (by kernel_rfl) (by kernel_rfl) (by kernel_rfl) fun _ => (by kernel_rfl)
def S9_ : Shp := ⟨[(0, .one (.l .s)), (1, .one (.l .s))], []⟩
def qed (v0 v1 : List UInt8) : Option Bool :=
  (bif (decide ((v0.length : Int) ≥ (v1.length : Int))) then (oB (cutI v0 (some (IntKind.i64.wrap ((v0.length : Int) - (v1.length : Int)))) none) fun s1 => (some (s1 == v1))) else (some false))
def qkn := hull qed
theorem qov : qkn = qed := qb _
def qpr {R : Type} : EntF Tryz.prog R := entB (nt := 21) (dec := decB) (enc := AV.bool) tabOk follows Tryz.func97 [.t 4] hdeB (.z) S9_ qed (fun f v => f (v.s 0 0) (v.s 4 0)) (by kernel_rfl) (by kernel_rfl) (by kernel_rfl) fun _ => (by kernel_rfl)
def qfz (v0 v1 : List UInt8) : Option Bool :=
  (oB (qkn v0 v1) fun r1 => (some r1))
def qjo := hull qfz
theorem qso : qjo = qfz := qb _
def qun {R : Type} : EntF Tryz.prog R := entB (nt := 8) (dec := decB) (enc := AV.bool) tabOk follows Tryz.func67 [.t 4] hdeB (.s .z (.s (.r [(2, .c qpr.b)] []) .z)) S9_ qfz (fun f v => f (v.s 0 0) (v.s 4 0)) (by kernel_rfl) (by kernel_rfl) (by kernel_rfl) fun _ => (by kernel_rfl)
theorem q4m {R : Type} : qh1 Tryz.prog 146 (qmp (R := R)) := q65 Tryz.func146 (by kernel_rfl) (by kernel_rfl) (by kernel_rfl) (by kernel_rfl)
theorem q4n {R : Type} : qh1 Tryz.prog 165 (qmq (R := R)) := q66 Tryz.func165 (by kernel_rfl) (by kernel_rfl) (by kernel_rfl) (by kernel_rfl)
def S10_ : Shp := ⟨[(0, .one (.l .s)), (1, .one (.l (.i .u8)))], []⟩
def qee (v0 : List UInt8) (v1 : Int) : Option Int :=
  (oB (qok v0 v1) fun r1 => (some r1))
def qko := hull qee
theorem qow : qko = qee := qb _
def qps {R : Type} : EntF Tryz.prog R := entB (nt := 8) (dec := (decI .i64)) (enc := (AV.int .i64)) tabOk follows Tryz.func157 [.t 4] hdeI (.s .z (.s (.r [(2, .c (eK q4n))] []) .z)) S10_ qee (fun f v => f (v.s 0 0) (v.i 4 0)) (by kernel_rfl) (by kernel_rfl) (by kernel_rfl) fun _ => (by kernel_rfl)
def qf0 (v0 v1 : List UInt8) : Option Int :=
  (bif (((v1.length : Int) == (0 : Int)) || (v1 == v0)) then (some (0 : Int)) else (bif ((v1.length : Int) == (1 : Int)) then (oB (ixB v1 (0 : Int)) fun c1 => (oB (qko v0 (c1.toNat : Int)) fun r2 => (some r2))) else (bif (decide ((v1.length : Int) ≥ (v0.length : Int))) then (some (-1 : Int)) else none)))
def qnq := hull qf0
theorem qsp : qnq = qf0 := qb _
def qup {R : Type} : EntF Tryz.prog R := entB (nt := 143) (dec := (decI .i64)) (enc := (AV.int .i64)) tabOk follows Tryz.func147 [.t 4] hdeI (.s .z (.s .z (.s (.b (.s (.r [(3, .g 3)] []) (.s .z (.s .z (.s (.s (.r [(3, .c qps.b)] []) .z) .z))))) (.s .z (.s .z (.s .z (.s .z (.s .z (.s (.b .x) .z))))))))) S9_ qf0 (fun f v => f (v.s 0 0) (v.s 4 0)) (by kernel_rfl) (by kernel_rfl) (by kernel_rfl) fun _ => (by kernel_rfl)
def qig (v0 v1 : List UInt8) : Option Int :=
  (oB (qnq v0 v1) fun r1 => (some r1))
def qjz := hull qig
theorem qyq : qjz = qig := qb _
def qp4 {R : Type} : EntF Tryz.prog R := entB (nt := 8) (dec := (decI .i64)) (enc := (AV.int .i64)) tabOk follows Tryz.func131 [.t 4] hdeI (.s .z (.s (.r [(2, .c qup.b)] []) .z)) S9_ qig (fun f v => f (v.s 0 0) (v.s 4 0)) (by kernel_rfl) (by kernel_rfl) (by kernel_rfl) fun _ => (by kernel_rfl)
def S11_ : Shp := ⟨[(0, .one (.l .s)), (1, .one (.l .s)), (5, .one (.l (.i .i64)))], []⟩
def ql5  (v0 v1 : List UInt8) (v5 : Int) (next : (List UInt8) → Int → Option Int) : Option Int :=
  (oB (qjz v0 v1) fun r1 => (bif (r1 == (-1 : Int)) then (some v5) else (oB (cutI v0 (some (IntKind.i64.wrap (r1 + (v1.length : Int)))) none) fun s2 => (next s2 (IntKind.i64.wrap (v5 + (1 : Int)))))))
def qib  (v1 : List UInt8) : Nat → (List UInt8) → Int → Option Int
  | 0 => (fun _ _ => none)
  | n + 1 => (fun v0 v5 => ql5 v0 v1 v5 (qib v1 n))
def qxf := hull (qib)
def quq : SubB Tryz.prog (TIof Tryz.prog) 34 0 (kret [.t 4] (decI .i64)) := lpB tabOk follows Tryz.f130 79 (.b (.s (.r [(2, .c qp4.b)] []) (.s .z (.s .z (.v [.sel [0, 1, 5] []]))))) S11_ (qib) (fun f v K n => f (v.s 4 0) n) (fun v f K => ql5 (v.s 0 0) (v.s 4 0) (v.i 20 0) f) (fun f v => f (v.s 0 0) (v.i 20 0)) (fun k v => (fun z0 z1 => k ((v.us 0 0 z0).ui 20 0 z1))) (by kernel_rfl) (fun _ _ => (by kernel_rfl)) (fun _ _ _ => (by kernel_rfl)) (fun _ _ _ => (by kernel_rfl)) (fun _ _ => (by kernel_rfl)) (fun _ _ _ _ _ => (by kernel_rfl))
def qih (v0 v1 : List UInt8) : Option Int :=
  (bif ((v1.length : Int) == (0 : Int)) then none else (bif ((v1.length : Int) == (1 : Int)) then (oB (ixB v1 (0 : Int)) fun c1 => (oB (qoj v0 (c1.toNat : Int)) fun r2 => (some r2))) else (qxf v1 FU v0 (0 : Int))))
def qni := hull qih
theorem qyr : qni = qih := qb _
def qzp {R : Type} : EntF Tryz.prog R := entB (nt := 34) (dec := (decI .i64)) (enc := (AV.int .i64)) tabOk follows Tryz.func130 [.t 4] hdeI (.s .z (.s (.s .z (.s (.s (.r [(1, .c (eK (q58 (f := 144))))] []) .z) .z)) (.s (.s .z (.s (.s (.r [(3, .c (eK q4m))] []) .z) .z)) (.s .z (.b (.sub [.sel [0, 1, 5] []] quq [])))))) S9_ qih (fun f v => f (v.s 0 0) (v.s 4 0)) (by kernel_rfl) (by kernel_rfl) (by kernel_rfl) fun _ => (by kernel_rfl)
def S12_ : Shp := ⟨[(0, .one (.l .s)), (1, .one (.l .s)), (2, .one (.l (.i .i64))), (3, .one (.l (.i .i64)))], []⟩
def S13_ : Shp := ⟨[(0, .one (.l .s)), (1, .one (.l .s)), (2, .one (.l (.i .i64))), (3, .one (.l (.i .i64))), (9, .one (.own 0)), (10, .one (.l (.i .i64)))], [.arr true 1]⟩
def qpt  (v0 v1 : List UInt8) (v2 : Int) (K : Ex → Env → Mem → Option (List AV)) := (fun z_v3 => K .norm (ql [(0, (.str v0)), (1, (.str v1)), (2, (.int .i64 v2)), (3, (.int .i64 z_v3))]) (qd []))
def qey  (v0 v1 : List UInt8) (v2 v3 : Int) (kn : Int → Option (List AV)) : Option (List AV) :=
  (bif (decide (v3 < (0 : Int))) then (oB (qni v0 v1) fun r1 => (kn (IntKind.i64.wrap (r1 + (1 : Int))))) else (kn v3))
def qk3 := hull (qey)
theorem qpu : qk3 = qey := qb _
def qq0 : SubB Tryz.prog (TIof Tryz.prog) 66 0 (kret [.t 8] (decX (.one (.sl 1)) fun z => aL z)) := jnB tabOk follows Tryz.f98 23 (.s .z (.s (.r [(2, .c qzp.b)] [.sel [0, 1, 2, 3] []]) (.v [.sel [0, 1, 2, 3] []]))) S12_ (qey) (fun f v K => f (v.s 0 0) (v.s 4 0) (v.i 8 0) (v.i 12 0) (qpt (v.s 0 0) (v.s 4 0) (v.i 8 0) K)) (by kernel_rfl) (fun _ _ => (by kernel_rfl))
def qir  (K : Ex → Env → Mem → Option (List AV)) := (fun z_v0 z_v10 z_a0 => K (.exit 0) (ql [(0, (.str z_v0)), (9, (.own 0 z_a0.length)), (10, (.int .i64 z_v10))]) (qd [(some (.arr true 1 z_a0))]))
def qcw  (v0 v1 : List UInt8) (v2 v3 v10 : Int) (a0 : List AV) (next : (List UInt8) → Int → (List AV) → Option (List AV)) (kx0 : (List UInt8) → Int → (List AV) → Option (List AV)) : Option (List AV) :=
  (bif (decide (v10 < v3)) then (oB (qjz v0 v1) fun r1 => (bif (decide (r1 < (0 : Int))) then (kx0 v0 v10 a0) else (oB (cutI v0 none (some (IntKind.i64.wrap (r1 + v2)))) fun s2 => (bif hd a0 a0.length then (bif decide (0 ≤ v10 ∧ v10 < a0.length) then (bif hd a0 a0.length then (oB (a0[v10.toNat]?) fun y3 => (oB (putE y3 0 1 [(.str s2)]) fun z4 => (oB (cutI v0 (some (IntKind.i64.wrap (r1 + (v1.length : Int)))) none) fun s5 => (bif hd (a0.set v10.toNat z4) a0.length then (next s5 (IntKind.i64.wrap (v10 + (1 : Int))) (a0.set v10.toNat z4)) else none)))) else none) else none) else none)))) else (kx0 v0 v10 a0))
def qb0  (v1 : List UInt8) (v2 v3 : Int) (kx0 : (List UInt8) → Int → (List AV) → Option (List AV)) : Nat → (List UInt8) → Int → (List AV) → Option (List AV)
  | 0 => (fun _ _ _ => none)
  | n + 1 => (fun v0 v10 a0 => qcw v0 v1 v2 v3 v10 a0 (qb0 v1 v2 v3 kx0 n) kx0)
def qk4 := hull (qb0)
theorem qpv : qk4 = qb0 := qb _
def qq1 : SubB Tryz.prog (TIof Tryz.prog) 66 0 (kret [.t 8] (decX (.one (.sl 1)) fun z => aL z)) := lpB tabOk follows Tryz.f98 2303 (.s (.s .z (.s .z (.v [.sel [0, 9, 10] [0]]))) (.b (.s (.r [(2, .c qp4.b)] []) (.s (.s .z (.s (.v [.sel [0, 9, 10] [0]]) .z)) (.s .z (.s .z (.v [.hd 9, .sel [0, 1, 2, 3, 9, 10] [0]]))))))) S13_ (qb0) (fun f v K n => f (v.s 4 0) (v.i 8 0) (v.i 12 0) (qir K) n) (fun v f K => qcw (v.s 0 0) (v.s 4 0) (v.i 8 0) (v.i 12 0) (v.i 40 0) (v.r 0) f (qir K)) (fun f v => f (v.s 0 0) (v.i 40 0) (v.r 0)) (fun k v => (fun z0 z1 z2 => k (((v.us 0 0 z0).ui 40 0 z1).ur 0 z2))) (by kernel_rfl) (fun _ _ => (by kernel_rfl)) (fun _ _ _ => (by kernel_rfl)) (fun _ _ _ => (by kernel_rfl)) (fun _ _ => (by kernel_rfl)) (fun _ _ _ _ _ => (by kernel_rfl))
def qgb (v0 v1 : List UInt8) (v2 v3 : Int) : Option (List AV) :=
  (bif (v3 == (0 : Int)) then (some ([] : List AV)) else (bif (v1 == ([] : List UInt8)) then none else (qk3 v0 v1 v2 v3 (fun v3q1 => (bif decide (0 ≤ (if (IntKind.i64.wrap ((v0.length : Int) + (1 : Int))) < v3q1 then (IntKind.i64.wrap ((v0.length : Int) + (1 : Int))) else v3q1) ∧ (if (IntKind.i64.wrap ((v0.length : Int) + (1 : Int))) < v3q1 then (IntKind.i64.wrap ((v0.length : Int) + (1 : Int))) else v3q1) ≤ (if (IntKind.i64.wrap ((v0.length : Int) + (1 : Int))) < v3q1 then (IntKind.i64.wrap ((v0.length : Int) + (1 : Int))) else v3q1) ∧ (if (IntKind.i64.wrap ((v0.length : Int) + (1 : Int))) < v3q1 then (IntKind.i64.wrap ((v0.length : Int) + (1 : Int))) else v3q1) * 16 ≤ 281474976710656) then (bif (hd (List.replicate (if (IntKind.i64.wrap ((v0.length : Int) + (1 : Int))) < v3q1 then (IntKind.i64.wrap ((v0.length : Int) + (1 : Int))) else v3q1).toNat ((.str ([] : List UInt8)) : AV)) ((List.replicate (if (IntKind.i64.wrap ((v0.length : Int) + (1 : Int))) < v3q1 then (IntKind.i64.wrap ((v0.length : Int) + (1 : Int))) else v3q1).toNat ((.str ([] : List UInt8)) : AV)).length) && true) then (qk4 v1 v2 (IntKind.i64.wrap ((if (IntKind.i64.wrap ((v0.length : Int) + (1 : Int))) < v3q1 then (IntKind.i64.wrap ((v0.length : Int) + (1 : Int))) else v3q1) - (1 : Int))) (fun v0q2 v10q3 a0q4 => (bif hd a0q4 a0q4.length then (bif decide (0 ≤ v10q3 ∧ v10q3 < a0q4.length) then (bif hd a0q4 a0q4.length then (oB (a0q4[v10q3.toNat]?) fun y5 => (oB (putE y5 0 1 [(.str v0q2)]) fun z6 => (bif hd (a0q4.set v10q3.toNat z6) a0q4.length then (oB (cutI (a0q4.set v10q3.toNat z6) none (some (IntKind.i64.wrap (v10q3 + (1 : Int))))) fun s7 => (some s7)) else none))) else none) else none) else none)) FU v0 (0 : Int) (List.replicate (if (IntKind.i64.wrap ((v0.length : Int) + (1 : Int))) < v3q1 then (IntKind.i64.wrap ((v0.length : Int) + (1 : Int))) else v3q1).toNat ((.str ([] : List UInt8)) : AV))) else none) else none)))))
def qox := hull qgb
theorem qur : qox = qgb := qb _
def qu6 {R : Type} : EntF Tryz.prog R := entB (nt := 66) (dec := (decX (.one (.sl 1)) fun z => aL z)) (enc := (fun r => .sl 1 r)) tabOk follows Tryz.func98 [.t 8] (hdeX fun _ => rfl) (.s .z (.s (.s .z (.s (.s .z (.v [.eta 8 (.one (.sl 1))])) .z)) (.s (.s .z (.s (.s (.r [(2, .c (eK (q58 (f := 129))))] []) .z) .z)) (.s (.sub [.sel [0, 1, 2, 3] []] qq0 []) (.s .z (.s .z (.s .z (.s .z (.s (.b (.sub [.sel [0, 1, 2, 3, 9, 10] [0]] qq1 [])) .z))))))))) S12_ qgb (fun f v => f (v.s 0 0) (v.s 4 0) (v.i 8 0) (v.i 12 0)) (by kernel_rfl) (by kernel_rfl) (by kernel_rfl) fun _ => (by kernel_rfl)
def qii (v0 v1 : List UInt8) : Option (List AV) :=
  (oB (qox v0 v1 (0 : Int) (-1 : Int)) fun r1 => (some r1))
def qj0 := hull qii
theorem qys : qj0 = qii := qb _
def qp5 {R : Type} : EntF Tryz.prog R := entB (nt := 8) (dec := (decX (.one (.sl 1)) fun z => aL z)) (enc := (fun r => .sl 1 r)) tabOk follows Tryz.func68 [.t 4] (hdeX fun _ => rfl) (.s .z (.s (.r [(2, .k qu6.b)] []) .z)) S9_ qii (fun f v => f (v.s 0 0) (v.s 4 0)) (by kernel_rfl) (by kernel_rfl) (by kernel_rfl) fun _ => (by kernel_rfl)
def S14_ : Shp := ⟨[(0, .one (.l .s)), (4, .one (.l (.i .u8))), (13, .one (.l (.i .i64))), (14, .one (.l (.i .i64)))], []⟩
def S15_ : Shp := ⟨[(0, .one (.l .s)), (13, .one (.l (.i .i64))), (14, .one (.l (.i .i64)))], []⟩
def S16_ : Shp := ⟨[(0, .one (.l .s))], []⟩
def qrf  (v0 : List UInt8) (v13 v14 : Int) (K : Ex → Env → Mem → Option Bool) := (fun z_v41 => K .norm (ql [(0, (.str v0)), (13, (.int .i64 v13)), (14, (.int .i64 v14)), (41, (.bool z_v41))]) (qd []))
def qfh  (v0 : List UInt8) (v4 v13 v14 : Int) (kn : Bool → Option Bool) : Option Bool :=
  (bif ((decide (v4 < (97 : Int))) || (decide (v4 > (122 : Int)))) then (bif (decide (v4 < (48 : Int))) then (kn ((v4 != (45 : Int)) && (v4 != (95 : Int)))) else (kn (((decide (v4 > (57 : Int))) && (v4 != (45 : Int))) && (v4 != (95 : Int))))) else (kn false))
def qis := hull (qfh)
theorem qrg : qis = qfh := qb _
def qsq : SubB Tryz.prog (TIof Tryz.prog) 43 0 (kret [.t 2] decB) := jnB tabOk follows Tryz.f69 11467 (.r [(3, .g 2), (15, .g 2), (19, .g 2)] [.sel [0, 13, 14, 41] []]) S14_ (qfh) (fun f v K => f (v.s 0 0) (v.i 16 0) (v.i 52 0) (v.i 56 0) (qrf (v.s 0 0) (v.i 52 0) (v.i 56 0) K)) (by kernel_rfl) (fun _ _ => (by kernel_rfl))
def qjv  (K : Ex → Env → Mem → Option Bool) := (fun (_ : Unit) => K (.exit 0) (ql []) (qd []))
def qdy  (v0 : List UInt8) (v13 v14 : Int) (next : Int → Option Bool) (kx0 : Unit → Option Bool) : Option Bool :=
  (bif (decide (v14 < v13)) then (oB (ixB v0 v14) fun c1 => (qis v0 (c1.toNat : Int) v13 v14 (fun v41q2 => (bif v41q2 then (some false) else (next (IntKind.i64.wrap (v14 + (1 : Int)))))))) else (kx0 ()))
def qdz  (v0 : List UInt8) (v13 : Int) (kx0 : Unit → Option Bool) : Nat → Int → Option Bool
  | 0 => (fun _ => none)
  | n + 1 => (fun v14 => qdy v0 v13 v14 (qdz v0 v13 kx0 n) kx0)
def qm3 := hull (qdz)
theorem qrh : qm3 = qdz := qb _
def qsr : SubB Tryz.prog (TIof Tryz.prog) 43 0 (kret [.t 2] decB) := lpB tabOk follows Tryz.f69 75 (.s .z (.s (.s .z (.v [.sel [] []])) (.s (.b (.s .z (.s .z (.s (.sub [.sel [0, 4, 13, 14] []] qsq []) .z)))) (.v [.sel [0, 13, 14] []])))) S15_ (qdz) (fun f v K n => f (v.s 0 0) (v.i 52 0) (qjv K) n) (fun v f K => qdy (v.s 0 0) (v.i 52 0) (v.i 56 0) f (qjv K)) (fun f v => f (v.i 56 0)) (fun k v => (fun z0 => k (v.ui 56 0 z0))) (by kernel_rfl) (fun _ _ => (by kernel_rfl)) (fun _ _ _ => (by kernel_rfl)) (fun _ _ _ => (by kernel_rfl)) (fun _ _ => (by kernel_rfl)) (fun _ _ _ _ _ => (by kernel_rfl))
def qhj (v0 : List UInt8) : Option Bool :=
  (bif ((v0 == ([] : List UInt8)) || (decide ((v0.length : Int) > (63 : Int)))) then (some false) else (qm3 v0 (v0.length : Int) (fun (_ : Unit) => (some true)) FU (0 : Int)))
def qma := hull qhj
theorem qxg : qma = qhj := qb _
def qyt {R : Type} : EntF Tryz.prog R := entB (nt := 43) (dec := decB) (enc := AV.bool) tabOk follows Tryz.func69 [.t 2] hdeB (.s .z (.s (.s (.r [(3, .g 3)] []) .z) (.s (.s .z (.b (.sub [.sel [0, 13, 14] []] qsr []))) .z))) S16_ qhj (fun f v => f (v.s 0 0)) (by kernel_rfl) (by kernel_rfl) (by kernel_rfl) fun _ => (by kernel_rfl)
def S17_ : Shp := ⟨[(3, .one (.l (.i .i64))), (4, .one (.l .s)), (20, .one (.l (.sl 1))), (21, .one (.l (.i .i64))), (22, .one (.l (.i .i64)))], []⟩
def S18_ : Shp := ⟨[(20, .one (.l (.sl 1))), (21, .one (.l (.i .i64))), (22, .one (.l (.i .i64)))], []⟩
def qu7  (v0 : List UInt8) (K : Ex → Env → Mem → Option Bool) := (fun z_v14 => K .norm (ql [(0, (.str v0)), (14, (.bool z_v14))]) (qd []))
def qgw  (v0 : List UInt8) (kn : Bool → Option Bool) : Option Bool :=
  (bif (decide ((v0.length : Int) ≥ (255 : Int))) then (kn true) else (oB (qjo v0 ([46] : List UInt8)) fun r1 => (kn (!r1))))
def qp6 := hull (qgw)
theorem qu8 : qp6 = qgw := qb _
def qxh : SubB Tryz.prog (TIof Tryz.prog) 39 0 (kret [.t 2] decB) := jnB tabOk follows Tryz.f52 19 (.r [(5, .c qun.b)] [.sel [0, 14] []]) S16_ (qgw) (fun f v K => f (v.s 0 0) (qu7 (v.s 0 0) K)) (by kernel_rfl) (fun _ _ => (by kernel_rfl))
def qu9  (v20 : List AV) (v21 v22 : Int) (K : Ex → Env → Mem → Option Bool) := (fun z_v37 => K .norm (ql [(20, (.sl 1 v20)), (21, (.int .i64 v21)), (22, (.int .i64 v22)), (37, (.bool z_v37))]) (qd []))
def qgx  (v3 : Int) (v4 : List UInt8) (v20 : List AV) (v21 v22 : Int) (kn : Bool → Option Bool) : Option Bool :=
  (oB (qma v4) fun r1 => (bif (!r1) then (bif (decide (v3 > (0 : Int))) then (kn true) else (kn (!(v4 == ([42] : List UInt8))))) else (kn false)))
def qp7 := hull (qgx)
theorem qva : qp7 = qgx := qb _
def qxi : SubB Tryz.prog (TIof Tryz.prog) 39 0 (kret [.t 2] decB) := jnB tabOk follows Tryz.f52 10647 (.r [(1, .c qyt.b)] [.sel [20, 21, 22, 37] []]) S17_ (qgx) (fun f v K => f (v.i 12 0) (v.s 16 0) (v.l 80 0) (v.i 84 0) (v.i 88 0) (qu9 (v.l 80 0) (v.i 84 0) (v.i 88 0) K)) (by kernel_rfl) (fun _ _ => (by kernel_rfl))
def ql6  (K : Ex → Env → Mem → Option Bool) := (fun (_ : Unit) => K (.exit 0) (ql []) (qd []))
def qff  (v20 : List AV) (v21 v22 : Int) (next : Int → Option Bool) (kx0 : Unit → Option Bool) : Option Bool :=
  (bif (decide (v22 < v21)) then (oB (ixB v20 v22) fun y1 => (bif fitC [.s] y1.cells then (qp7 v22 (gS y1.cells 0) v20 v21 v22 (fun v37q2 => (bif v37q2 then (some false) else (next (IntKind.i64.wrap (v22 + (1 : Int))))))) else none)) else (kx0 ()))
def qfg  (v20 : List AV) (v21 : Int) (kx0 : Unit → Option Bool) : Nat → Int → Option Bool
  | 0 => (fun _ => none)
  | n + 1 => (fun v22 => qff v20 v21 v22 (qfg v20 v21 kx0 n) kx0)
def qk5 := hull (qfg)
theorem qvb : qk5 = qfg := qb _
def qxj : SubB Tryz.prog (TIof Tryz.prog) 39 0 (kret [.t 2] decB) := lpB tabOk follows Tryz.f52 151 (.s .z (.s (.s .z (.v [.sel [] []])) (.s (.b (.s (.r [(1, .p (.etac 25 [.s]))] []) (.s (.sub [.sel [3, 4, 20, 21, 22] []] qxi []) .z))) (.v [.sel [20, 21, 22] []])))) S18_ (qfg) (fun f v K n => f (v.l 80 0) (v.i 84 0) (ql6 K) n) (fun v f K => qff (v.l 80 0) (v.i 84 0) (v.i 88 0) f (ql6 K)) (fun f v => f (v.i 88 0)) (fun k v => (fun z0 => k (v.ui 88 0 z0))) (by kernel_rfl) (fun _ _ => (by kernel_rfl)) (fun _ _ _ => (by kernel_rfl)) (fun _ _ _ => (by kernel_rfl)) (fun _ _ => (by kernel_rfl)) (fun _ _ _ _ _ => (by kernel_rfl))
def qj1 (v0 : List UInt8) : Option Bool :=
  (bif (v0 == ([46] : List UInt8)) then (some true) else (qp6 v0 (fun v14q1 => (bif v14q1 then (some false) else (oB (cutI v0 none (some (IntKind.i64.wrap ((v0.length : Int) - (1 : Int))))) fun s2 => (oB (qj0 s2 ([46] : List UInt8)) fun r3 => (qk5 r3 (r3.length : Int) (fun (_ : Unit) => (some true)) FU (0 : Int))))))))
def qgs := hull qj1
theorem q1k : qgs = qj1 := qb _
def qj2 {R : Type} : EntF Tryz.prog R := entB (nt := 39) (dec := decB) (enc := AV.bool) tabOk follows Tryz.func52 [.t 2] hdeB (.s .z (.s .z (.s (.s (.sub [.sel [0] []] qxh []) .z) (.s (.s (.r [(5, .k qp5.b)] []) (.b (.sub [.sel [20, 21, 22] []] qxj []))) .z)))) S16_ qj1 (fun f v => f (v.s 0 0)) (by kernel_rfl) (by kernel_rfl) (by kernel_rfl) fun _ => (by kernel_rfl)
theorem qbcz {R : Type} : qlw Tryz.prog 54 (qws (R := R)) := qbe3 Tryz.laysItoa (List.mem_singleton.2 rfl)
def S19_ : Shp := ⟨[(0, .one (.l (.i .u64))), (3, .one (.own 0)), (7, .one (.l (.i .i64))), (8, .one (.l (.i .i64)))], [.arr true 1]⟩
def S20_ : Shp := ⟨[(0, .one (.l (.i .u64)))], []⟩
def qm4  (K : Ex → Env → Mem → Option (List UInt8)) := (fun z_a0 => K (.exit 0) (ql [(3, (.own 0 z_a0.length))]) (qd [(some (.arr true 1 z_a0))]))
def qfs  (v0 v7 v8 : Int) (a0 : List AV) (next : Int → (List AV) → Option (List UInt8)) (kx0 : (List AV) → Option (List UInt8)) : Option (List UInt8) :=
  (bif (decide (v8 < v7)) then (bif decide ((IntKind.u64.wrap (IntKind.i64.wrap ((8 : Int) * v8))) < 0) then none else (bif hd a0 a0.length then (bif decide (0 ≤ (IntKind.i64.wrap ((7 : Int) - v8)) ∧ (IntKind.i64.wrap ((7 : Int) - v8)) < a0.length) then (bif hd a0 a0.length then (oB (a0[(IntKind.i64.wrap ((7 : Int) - v8)).toNat]?) fun y1 => (oB (putE y1 0 1 [(.int .u8 (IntKind.u8.wrap (v0.fdiv (2 ^ min (IntKind.u64.wrap (IntKind.i64.wrap ((8 : Int) * v8))).toNat IntKind.u64.bits))))]) fun z2 => (bif hd (a0.set ((IntKind.i64.wrap ((7 : Int) - v8)).toNat) z2) a0.length then (next (IntKind.i64.wrap (v8 + (1 : Int))) (a0.set ((IntKind.i64.wrap ((7 : Int) - v8)).toNat) z2)) else none))) else none) else none) else none)) else (kx0 a0))
def qft  (v0 v7 : Int) (kx0 : (List AV) → Option (List UInt8)) : Nat → Int → (List AV) → Option (List UInt8)
  | 0 => (fun _ _ => none)
  | n + 1 => (fun v8 a0 => qfs v0 v7 v8 a0 (qft v0 v7 kx0 n) kx0)
def qri := hull (qft)
theorem qxk : qri = qft := qb _
def qyu : SubB Tryz.prog (TIof Tryz.prog) 24 0 (kret [.t 2] decS) := lpB tabOk follows Tryz.f70 75 (.s .z (.s (.s .z (.v [.sel [3] [0]])) (.s .z (.v [.hd 3, .sel [0, 3, 7, 8] [0]])))) S19_ (qft) (fun f v K n => f (v.i 0 0) (v.i 28 0) (qm4 K) n) (fun v f K => qfs (v.i 0 0) (v.i 28 0) (v.i 32 0) (v.r 0) f (qm4 K)) (fun f v => f (v.i 32 0) (v.r 0)) (fun k v => (fun z0 z1 => k ((v.ui 32 0 z0).ur 0 z1))) (by kernel_rfl) (fun _ _ => (by kernel_rfl)) (fun _ _ _ => (by kernel_rfl)) (fun _ _ _ => (by kernel_rfl)) (fun _ _ => (by kernel_rfl)) (fun _ _ _ _ _ => (by kernel_rfl))
def qj3 (v0 : Int) : Option (List UInt8) :=
  (bif decide (0 ≤ (8 : Int) ∧ (8 : Int) ≤ (8 : Int) ∧ (8 : Int) * 1 ≤ 281474976710656) then (bif (hd (List.replicate (8 : Int).toNat ((.int .u8 (0 : Int)) : AV)) ((List.replicate (8 : Int).toNat ((.int .u8 (0 : Int)) : AV)).length) && true) then (qri v0 (((List.replicate (8 : Int).toNat ((.int .u8 (0 : Int)) : AV)).length) : Int) (fun a0q1 => (bif hd a0q1 a0q1.length then (oB (qb2 a0q1) fun s2 => (some s2)) else none)) FU (0 : Int) (List.replicate (8 : Int).toNat ((.int .u8 (0 : Int)) : AV))) else none) else none)
def qmr := hull qj3
theorem q1l : qmr = qj3 := qb _
def qt8 {R : Type} : EntF Tryz.prog R := entB (nt := 24) (dec := decS) (enc := AV.str) tabOk follows Tryz.func70 [.t 2] hdeS (.s .z (.s .z (.s (.s .z (.b (.sub [.sel [0, 3, 7, 8] [0]] qyu []))) .z))) S20_ qj3 (fun f v => f (v.i 0 0)) (by kernel_rfl) (by kernel_rfl) (by kernel_rfl) fun _ => (by kernel_rfl)
def S21_ : Shp := ⟨[(0, .one (.l .s)), (3, .one (.l (.i .u64))), (4, .one (.l (.i .i64)))], []⟩
def S22_ : Shp := ⟨[(3, .one (.l (.i .u64))), (18, .one (.l (.i .i64)))], []⟩
def qnr  (K : Ex → Env → Mem → Option Int) := (fun z_v3 => K (.exit 0) (ql [(3, (.int .u64 z_v3))]) (qd []))
def qgc  (v0 : List UInt8) (v3 v4 : Int) (next : Int → Int → Option Int) (kx0 : Int → Option Int) : Option Int :=
  (bif (decide (v4 < (v0.length : Int))) then (oB (ixB v0 v4) fun c1 => (next (IntKind.u64.wrap ((qeg .xor .u64 v3 (IntKind.u64.wrap (c1.toNat : Int))) * (1099511628211 : Int))) (IntKind.i64.wrap (v4 + (1 : Int))))) else (kx0 v3))
def qgd  (v0 : List UInt8) (kx0 : Int → Option Int) : Nat → Int → Int → Option Int
  | 0 => (fun _ _ => none)
  | n + 1 => (fun v3 v4 => qgc v0 v3 v4 (qgd v0 kx0 n) kx0)
def qt9 := hull (qgd)
theorem qyv : qt9 = qgd := qb _
def qzq : SubB Tryz.prog (TIof Tryz.prog) 27 0 (kret [.t 2] (decI .u64)) := lpB tabOk follows Tryz.f71 75 (.s (.s .z (.s .z (.v [.sel [3] []]))) (.s .z (.v [.sel [0, 3, 4] []]))) S21_ (qgd) (fun f v K n => f (v.s 0 0) (qnr K) n) (fun v f K => qgc (v.s 0 0) (v.i 12 0) (v.i 16 0) f (qnr K)) (fun f v => f (v.i 12 0) (v.i 16 0)) (fun k v => (fun z0 z1 => k ((v.ui 12 0 z0).ui 16 0 z1))) (by kernel_rfl) (fun _ _ => (by kernel_rfl)) (fun _ _ _ => (by kernel_rfl)) (fun _ _ _ => (by kernel_rfl)) (fun _ _ => (by kernel_rfl)) (fun _ _ _ _ _ => (by kernel_rfl))
def qm5  (K : Ex → Env → Mem → Option Int) := (fun z_v3 => K (.exit 2) (ql [(3, (.int .u64 z_v3))]) (qd []))
def qeu  (v3 v18 : Int) (next : Int → Int → Option Int) (kx2 : Int → Option Int) : Option Int :=
  (bif (decide (v18 < (3 : Int))) then (next (IntKind.u64.wrap ((qeg .xor .u64 v3 (v3.fdiv (2 ^ min (32 : Int).toNat IntKind.u64.bits))) * (11400714819323198485 : Int))) (IntKind.i64.wrap (v18 + (1 : Int)))) else (kx2 v3))
def qdc  (kx2 : Int → Option Int) : Nat → Int → Int → Option Int
  | 0 => (fun _ _ => none)
  | n + 1 => (fun v3 v18 => qeu v3 v18 (qdc kx2 n) kx2)
def qg9 := hull (qdc)
theorem qxl : qg9 = qdc := qb _
def qyw : SubB Tryz.prog (TIof Tryz.prog) 27 0 (kret [.t 2] (decI .u64)) := lpB tabOk follows Tryz.f71 151 (.s .z (.s (.s .z (.v [.sel [3] []])) (.s .z (.v [.sel [3, 18] []])))) S22_ (qdc) (fun f v K n => f (qm5 K) n) (fun v f K => qeu (v.i 12 0) (v.i 72 0) f (qm5 K)) (fun f v => f (v.i 12 0) (v.i 72 0)) (fun k v => (fun z0 z1 => k ((v.ui 12 0 z0).ui 72 0 z1))) (by kernel_rfl) (fun _ _ => (by kernel_rfl)) (fun _ _ _ => (by kernel_rfl)) (fun _ _ _ => (by kernel_rfl)) (fun _ _ => (by kernel_rfl)) (fun _ _ _ _ _ => (by kernel_rfl))
def qk6 (v0 : List UInt8) : Option Int :=
  (qt9 v0 (fun v3q1 => (qg9 (fun v3q2 => (some v3q2)) FU v3q1 (0 : Int))) FU (14695981039346656037 : Int) (0 : Int))
def qss := hull qk6
theorem q3m : qss = qk6 := qb _
def q4o {R : Type} : EntF Tryz.prog R := entB (nt := 27) (dec := (decI .u64)) (enc := (AV.int .u64)) tabOk follows Tryz.func71 [.t 2] hdeI (.s .z (.s .z (.s (.s .z (.b (.sub [.sel [0, 3, 4] []] qzq []))) (.s (.s .z (.b (.sub [.sel [3, 18] []] qyw []))) .z)))) S16_ qk6 (fun f v => f (v.s 0 0)) (by kernel_rfl) (by kernel_rfl) (by kernel_rfl) fun _ => (by kernel_rfl)
def qk7 (v0 v1 : List UInt8) : Option (List UInt8) :=
  (oB (qmr (IntKind.u64.wrap (v0.length : Int))) fun r1 => (bif decide (r1.length + v0.length ≤ 9223372036854775807) then (bif decide ((r1 ++ v0).length + v1.length ≤ 9223372036854775807) then (oB (qss ((r1 ++ v0) ++ v1)) fun r2 => (oB (qmr r2) fun r3 => (some r3))) else none) else none))
def qst := hull qk7
theorem q3n : qst = qk7 := qb _
def q4p {R : Type} : EntF Tryz.prog R := entB (nt := 15) (dec := decS) (enc := AV.str) tabOk follows Tryz.func53 [.t 4] hdeS (.s .z (.s (.r [(3, .c qt8.b), (8, .c q4o.b), (9, .c qt8.b)] []) .z)) S9_ qk7 (fun f v => f (v.s 0 0) (v.s 4 0)) (by kernel_rfl) (by kernel_rfl) (by kernel_rfl) fun _ => (by kernel_rfl)
def qb8 : List LT := [.s, .b, (.i .i64)]
def qit (x0 : List UInt8) (x1 : Bool) (x2 : Int) : List AV := [.str x0, .bool x1, .int .i64 x2]
def qez : List LT := [.b, (.i .u64), (.i .u64), .s, .s, .s, (.i .i64), (.i .i64), (.i .i64), (.i .i64), (.i .i64), (.i .i64), (.i .u64)]
def qfa (x0 : Bool) (x1 x2 : Int) (x3 x4 x5 : List UInt8) (x6 x7 x8 x9 x10 x11 x12 : Int) : List AV := [.bool x0, .int .u64 x1, .int .u64 x2, .str x3, .str x4, .str x5, .int .i64 x6, .int .i64 x7, .int .i64 x8, .int .i64 x9, .int .i64 x10, .int .i64 x11, .int .u64 x12]
def S23_ : Shp := ⟨[(1, .one (.ptr 0 0)), (2, .one (.ptr 1 0))], [.box true (lk qb8), .box true (lk qez)]⟩
def S24_ : Shp := ⟨[(1, .one (.ptr 0 0)), (2, .one (.ptr 1 0)), (4, .one (.l (.i .i64))), (5, .one (.l .s))], [.box true (lk qb8), .box true (lk qez)]⟩
def S25_ : Shp := ⟨[(0, .st (lk qb8))], []⟩
def qk8 : AV → Option (AV × Int) := decN [(.st [.b, (.i .u64), (.i .u64), .s, .s, .s, (.i .i64), (.i .i64), (.i .i64), (.i .i64), (.i .i64), (.i .i64), (.i .u64)]), (.one (.i .i64))] fun z => ((gC (tpL z) 0), aI (gC (tpL z) 1))
def qxm  (Al : List UInt8) (Am : Bool) (An : Int) (Ao : Bool) (Ap Aq : Int) (Ar As At : List UInt8) (Au Av Aw Ax Ay Az A0 : Int) (K : Ex → Env → Mem → Option (AV × Int)) := (fun z_v15 => K .norm (ql [(1, (.ptr 0 0)), (2, (.ptr 1 0)), (15, (.bool z_v15))]) (qd [(some (.box true (qit Al Am An))), (some (.box true (qfa Ao Ap Aq Ar As At Au Av Aw Ax Ay Az A0)))]))
def qhk  (Al : List UInt8) (Am : Bool) (An : Int) (Ao : Bool) (Ap Aq : Int) (Ar As At : List UInt8) (Au Av Aw Ax Ay Az A0 : Int) (kn : Bool → Option (AV × Int)) : Option (AV × Int) :=
  (oB (qgs Al) fun r1 => (bif (!r1) then (kn true) else (oB (ixB Al (0 : Int)) fun c2 => (kn ((c2.toNat : Int) == (42 : Int))))))
def qrj := hull (qhk)
theorem qxn : qrj = qhk := qb _
def qyx : SubB Tryz.prog (TIof Tryz.prog) 38 0 (kret [(.cell 2 true 13), .t 3] qk8) := jnB tabOk follows Tryz.f32 9 (.r [(2, .c qj2.b)] [.sel [1, 2, 15] [0, 1]]) S23_ (qhk) (fun f v K => f (v.s 3 0) (v.b 3 1) (v.i 3 2) (v.b 7 0) (v.i 7 1) (v.i 7 2) (v.s 7 3) (v.s 7 4) (v.s 7 5) (v.i 7 6) (v.i 7 7) (v.i 7 8) (v.i 7 9) (v.i 7 10) (v.i 7 11) (v.i 7 12) (qxm (v.s 3 0) (v.b 3 1) (v.i 3 2) (v.b 7 0) (v.i 7 1) (v.i 7 2) (v.s 7 3) (v.s 7 4) (v.s 7 5) (v.i 7 6) (v.i 7 7) (v.i 7 8) (v.i 7 9) (v.i 7 10) (v.i 7 11) (v.i 7 12) K)) (by kernel_rfl) (fun _ _ => (by kernel_rfl))
def qvc  (Al : List UInt8) (Am : Bool) (An : Int) (Ao : Bool) (Ap Aq : Int) (Ar As At : List UInt8) (Au Av Aw Ax Ay Az A0 : Int) (K : Ex → Env → Mem → Option (AV × Int)) := (fun z_v4 z_v5 => K .norm (ql [(1, (.ptr 0 0)), (2, (.ptr 1 0)), (4, (.int .i64 z_v4)), (5, (.str z_v5))]) (qd [(some (.box true (qit Al Am An))), (some (.box true (qfa Ao Ap Aq Ar As At Au Av Aw Ax Ay Az A0)))]))
def qgy  (v4 : Int) (v5 Al : List UInt8) (Am : Bool) (An : Int) (Ao : Bool) (Ap Aq : Int) (Ar As At : List UInt8) (Au Av Aw Ax Ay Az A0 : Int) (kn : Int → (List UInt8) → Option (AV × Int)) : Option (AV × Int) :=
  (bif Am then (kn (257 : Int) ([75] : List UInt8)) else (kn v4 v5))
def qp8 := hull (qgy)
theorem qvd : qp8 = qgy := qb _
def qxo : SubB Tryz.prog (TIof Tryz.prog) 38 0 (kret [(.cell 2 true 13), .t 3] qk8) := jnB tabOk follows Tryz.f32 47 (.s .z (.s (.v [.sel [1, 2, 4, 5] [0, 1]]) (.v [.sel [1, 2, 4, 5] [0, 1]]))) S24_ (qgy) (fun f v K => f (v.i 16 0) (v.s 20 0) (v.s 3 0) (v.b 3 1) (v.i 3 2) (v.b 7 0) (v.i 7 1) (v.i 7 2) (v.s 7 3) (v.s 7 4) (v.s 7 5) (v.i 7 6) (v.i 7 7) (v.i 7 8) (v.i 7 9) (v.i 7 10) (v.i 7 11) (v.i 7 12) (qvc (v.s 3 0) (v.b 3 1) (v.i 3 2) (v.b 7 0) (v.i 7 1) (v.i 7 2) (v.s 7 3) (v.s 7 4) (v.s 7 5) (v.i 7 6) (v.i 7 7) (v.i 7 8) (v.i 7 9) (v.i 7 10) (v.i 7 11) (v.i 7 12) K)) (by kernel_rfl) (fun _ _ => (by kernel_rfl))
def qj4 (Aa : List UInt8) (Ab : Bool) (Ac : Int) : Option (AV × Int) :=
  (qrj Aa Ab Ac false (0 : Int) (0 : Int) ([] : List UInt8) ([] : List UInt8) ([] : List UInt8) (0 : Int) (0 : Int) (0 : Int) (0 : Int) (0 : Int) (0 : Int) (0 : Int) (fun v15q1 => (bif v15q1 then (some ((.agg [(.bool false), (.int .u64 (0 : Int)), (.int .u64 (0 : Int)), (.str ([] : List UInt8)), (.str ([] : List UInt8)), (.str ([] : List UInt8)), (.int .i64 (0 : Int)), (.int .i64 (0 : Int)), (.int .i64 (0 : Int)), (.int .i64 (0 : Int)), (.int .i64 (0 : Int)), (.int .i64 (0 : Int)), (.int .u64 (0 : Int))]), (2 : Int))) else (bif ((decide (Ac < (0 : Int))) || (decide (Ac ≥ (2147483648 : Int)))) then (some ((.agg [(.bool false), (.int .u64 (0 : Int)), (.int .u64 (0 : Int)), (.str ([] : List UInt8)), (.str ([] : List UInt8)), (.str ([] : List UInt8)), (.int .i64 (0 : Int)), (.int .i64 (0 : Int)), (.int .i64 (0 : Int)), (.int .i64 (0 : Int)), (.int .i64 (0 : Int)), (.int .i64 (0 : Int)), (.int .u64 (0 : Int))]), (1 : Int))) else (qp8 (256 : Int) ([90] : List UInt8) Aa Ab Ac false (0 : Int) (0 : Int) ([] : List UInt8) ([] : List UInt8) ([] : List UInt8) (0 : Int) (0 : Int) (0 : Int) (0 : Int) (0 : Int) (0 : Int) (0 : Int) (fun v4q2 v5q3 => (oB (q1a Ac) fun r4 => (bif decide (v5q3.length + r4.length ≤ 9223372036854775807) then (oB (qst Aa (v5q3 ++ r4)) fun r5 => (some ((.agg [(.bool false), (.int .u64 (0 : Int)), (.int .u64 (0 : Int)), (.str ([] : List UInt8)), (.str ([] : List UInt8)), (.str r5), (.int .i64 v4q2), (.int .i64 (3 : Int)), (.int .i64 (253 : Int)), (.int .i64 (0 : Int)), (.int .i64 (0 : Int)), (.int .i64 (0 : Int)), (.int .u64 (0 : Int))]), (0 : Int)))) else none))))))))
def qq2 := hull qj4
theorem q1m : qq2 = qj4 := qb _
def q3o {R : Type} : EntF Tryz.prog R := entB (nt := 38) (dec := qk8) (enc := (fun r => .tup [qof (.st [.b, (.i .u64), (.i .u64), .s, .s, .s, (.i .i64), (.i .i64), (.i .i64), (.i .i64), (.i .i64), (.i .i64), (.i .u64)]) r.1, .int .i64 r.2])) tabOk follows Tryz.func32 [(.cell 2 true 13), .t 3] (hdeN fun _ => rfl) (.s .z (.s (.s (.sub [.sel [1, 2] [0, 1]] qyx []) .z) (.s (.s (.r [(4, .g 3)] []) .z) (.s .z (.s (.sub [.sel [1, 2, 4, 5] [0, 1]] qxo []) (.s (.d [] [(6, .c (eB qbcz)), (8, .c q4p.b)] [] []) .z)))))) S25_ qj4 (fun f v => f (v.s 1 0) (v.b 1 1) (v.i 1 2)) (by kernel_rfl) (by kernel_rfl) (by kernel_rfl) fun _ => (by kernel_rfl)
def qnj : Option (List AV) :=
  (bif hd ([(.agg [(.int .i64 (1 : Int)), (.str ([65] : List UInt8)), (.str ([52] : List UInt8))]), (.agg [(.int .i64 (2 : Int)), (.str ([78, 83] : List UInt8)), (.str ([104] : List UInt8))]), (.agg [(.int .i64 (5 : Int)), (.str ([67, 78, 65, 77, 69] : List UInt8)), (.str ([104] : List UInt8))]), (.agg [(.int .i64 (6 : Int)), (.str ([83, 79, 65] : List UInt8)), (.str ([104, 109, 118, 119, 120, 121, 122] : List UInt8))]), (.agg [(.int .i64 (12 : Int)), (.str ([80, 84, 82] : List UInt8)), (.str ([104] : List UInt8))]), (.agg [(.int .i64 (15 : Int)), (.str ([77, 88] : List UInt8)), (.str ([65, 104] : List UInt8))]), (.agg [(.int .i64 (16 : Int)), (.str ([84, 88, 84] : List UInt8)), (.str ([116] : List UInt8))]), (.agg [(.int .i64 (28 : Int)), (.str ([65, 65, 65, 65] : List UInt8)), (.str ([54] : List UInt8))]), (.agg [(.int .i64 (33 : Int)), (.str ([83, 82, 86] : List UInt8)), (.str ([65, 66, 67, 104] : List UInt8))]), (.agg [(.int .i64 (39 : Int)), (.str ([68, 78, 65, 77, 69] : List UInt8)), (.str ([104] : List UInt8))]), (.agg [(.int .i64 (43 : Int)), (.str ([68, 83] : List UInt8)), (.str ([65, 98, 99, 114] : List UInt8))]), (.agg [(.int .i64 (46 : Int)), (.str ([82, 82, 83, 73, 71] : List UInt8)), (.str ([65, 115, 98, 120, 121, 122, 70, 104, 114] : List UInt8))]), (.agg [(.int .i64 (47 : Int)), (.str ([78, 83, 69, 67] : List UInt8)), (.str ([104, 110] : List UInt8))]), (.agg [(.int .i64 (48 : Int)), (.str ([68, 78, 83, 75, 69, 89] : List UInt8)), (.str ([65, 98, 99, 114] : List UInt8))])] : List AV) (([(.agg [(.int .i64 (1 : Int)), (.str ([65] : List UInt8)), (.str ([52] : List UInt8))]), (.agg [(.int .i64 (2 : Int)), (.str ([78, 83] : List UInt8)), (.str ([104] : List UInt8))]), (.agg [(.int .i64 (5 : Int)), (.str ([67, 78, 65, 77, 69] : List UInt8)), (.str ([104] : List UInt8))]), (.agg [(.int .i64 (6 : Int)), (.str ([83, 79, 65] : List UInt8)), (.str ([104, 109, 118, 119, 120, 121, 122] : List UInt8))]), (.agg [(.int .i64 (12 : Int)), (.str ([80, 84, 82] : List UInt8)), (.str ([104] : List UInt8))]), (.agg [(.int .i64 (15 : Int)), (.str ([77, 88] : List UInt8)), (.str ([65, 104] : List UInt8))]), (.agg [(.int .i64 (16 : Int)), (.str ([84, 88, 84] : List UInt8)), (.str ([116] : List UInt8))]), (.agg [(.int .i64 (28 : Int)), (.str ([65, 65, 65, 65] : List UInt8)), (.str ([54] : List UInt8))]), (.agg [(.int .i64 (33 : Int)), (.str ([83, 82, 86] : List UInt8)), (.str ([65, 66, 67, 104] : List UInt8))]), (.agg [(.int .i64 (39 : Int)), (.str ([68, 78, 65, 77, 69] : List UInt8)), (.str ([104] : List UInt8))]), (.agg [(.int .i64 (43 : Int)), (.str ([68, 83] : List UInt8)), (.str ([65, 98, 99, 114] : List UInt8))]), (.agg [(.int .i64 (46 : Int)), (.str ([82, 82, 83, 73, 71] : List UInt8)), (.str ([65, 115, 98, 120, 121, 122, 70, 104, 114] : List UInt8))]), (.agg [(.int .i64 (47 : Int)), (.str ([78, 83, 69, 67] : List UInt8)), (.str ([104, 110] : List UInt8))]), (.agg [(.int .i64 (48 : Int)), (.str ([68, 78, 83, 75, 69, 89] : List UInt8)), (.str ([65, 98, 99, 114] : List UInt8))])] : List AV).length) then (some ([(.agg [(.int .i64 (1 : Int)), (.str ([65] : List UInt8)), (.str ([52] : List UInt8))]), (.agg [(.int .i64 (2 : Int)), (.str ([78, 83] : List UInt8)), (.str ([104] : List UInt8))]), (.agg [(.int .i64 (5 : Int)), (.str ([67, 78, 65, 77, 69] : List UInt8)), (.str ([104] : List UInt8))]), (.agg [(.int .i64 (6 : Int)), (.str ([83, 79, 65] : List UInt8)), (.str ([104, 109, 118, 119, 120, 121, 122] : List UInt8))]), (.agg [(.int .i64 (12 : Int)), (.str ([80, 84, 82] : List UInt8)), (.str ([104] : List UInt8))]), (.agg [(.int .i64 (15 : Int)), (.str ([77, 88] : List UInt8)), (.str ([65, 104] : List UInt8))]), (.agg [(.int .i64 (16 : Int)), (.str ([84, 88, 84] : List UInt8)), (.str ([116] : List UInt8))]), (.agg [(.int .i64 (28 : Int)), (.str ([65, 65, 65, 65] : List UInt8)), (.str ([54] : List UInt8))]), (.agg [(.int .i64 (33 : Int)), (.str ([83, 82, 86] : List UInt8)), (.str ([65, 66, 67, 104] : List UInt8))]), (.agg [(.int .i64 (39 : Int)), (.str ([68, 78, 65, 77, 69] : List UInt8)), (.str ([104] : List UInt8))]), (.agg [(.int .i64 (43 : Int)), (.str ([68, 83] : List UInt8)), (.str ([65, 98, 99, 114] : List UInt8))]), (.agg [(.int .i64 (46 : Int)), (.str ([82, 82, 83, 73, 71] : List UInt8)), (.str ([65, 115, 98, 120, 121, 122, 70, 104, 114] : List UInt8))]), (.agg [(.int .i64 (47 : Int)), (.str ([78, 83, 69, 67] : List UInt8)), (.str ([104, 110] : List UInt8))]), (.agg [(.int .i64 (48 : Int)), (.str ([68, 78, 83, 75, 69, 89] : List UInt8)), (.str ([65, 98, 99, 114] : List UInt8))])] : List AV)) else none)
def qq3 := hull qnj
theorem q1n : qq3 = qnj := qb _
def qua {R : Type} : EntF Tryz.prog R := entB (nt := 16) (dec := (decF true 3)) (enc := (AV.fr true 3)) tabOk follows Tryz.func100 [.t 0] hdeF (.z) (⟨[], []⟩ : Shp) qnj (fun f v => f) (by kernel_rfl) (by kernel_rfl) (by kernel_rfl) fun _ => (by kernel_rfl)
def qfu : List LT := [(.i .i64), .s, .s]
def qk9 (x0 : Int) (x1 x2 : List UInt8) : List AV := [.int .i64 x0, .str x1, .str x2]
def S26_ : Shp := ⟨[(0, .one (.l (.i .i64))), (2, .one (.ptr 0 0)), (6, .one (.l (.sl 3))), (7, .one (.l (.i .i64))), (8, .one (.l (.i .i64)))], [.box true (lk qfu)]⟩
def S27_ : Shp := ⟨[(0, .one (.l (.i .i64)))], []⟩
def qrk : AV → Option (AV × Bool) := decN [(.st [(.i .i64), .s, .s]), (.one .b)] fun z => ((gC (tpL z) 0), aB (gC (tpL z) 1))
def qns  (Al : Int) (Am An : List UInt8) (K : Ex → Env → Mem → Option (AV × Bool)) := (fun (_ : Unit) => K (.exit 0) (ql [(2, (.ptr 0 0))]) (qd [(some (.box true (qk9 Al Am An)))]))
def qp9  (v0 : Int) (v6 : List AV) (v7 v8 Al : Int) (Am An : List UInt8) (next : Int → Option (AV × Bool)) (kx0 : Unit → Option (AV × Bool)) : Option (AV × Bool) :=
  (bif (decide (v8 < v7)) then (oB (ixB v6 v8) fun y1 => (bif fitC qfu y1.cells then (bif ((gI y1.cells 0) == v0) then (some ((.agg [(.int .i64 (gI y1.cells 0)), (.str (gS y1.cells 1)), (.str (gS y1.cells 2))]), true)) else (next (IntKind.i64.wrap (v8 + (1 : Int))))) else none)) else (kx0 ()))
def qij  (v0 : Int) (v6 : List AV) (v7 Al : Int) (Am An : List UInt8) (kx0 : Unit → Option (AV × Bool)) : Nat → Int → Option (AV × Bool)
  | 0 => (fun _ => none)
  | n + 1 => (fun v8 => qp9 v0 v6 v7 v8 Al Am An (qij v0 v6 v7 Al Am An kx0 n) kx0)
def qub := hull (qij)
theorem qyy : qub = qij := qb _
def qzr : SubB Tryz.prog (TIof Tryz.prog) 19 0 (kret [(.cell 2 true 3), .t 3] qrk) := lpB tabOk follows Tryz.f73 37 (.s .z (.s (.s .z (.v [.sel [2] [0]])) (.s (.b (.s (.r [(0, .p (.etac 10 qfu))] []) .z)) (.v [.sel [0, 2, 6, 7, 8] [0]])))) S26_ (qij) (fun f v K n => f (v.i 0 0) (v.l 24 0) (v.i 28 0) (v.i 3 0) (v.s 3 1) (v.s 3 2) (qns (v.i 3 0) (v.s 3 1) (v.s 3 2) K) n) (fun v f K => qp9 (v.i 0 0) (v.l 24 0) (v.i 28 0) (v.i 32 0) (v.i 3 0) (v.s 3 1) (v.s 3 2) f (qns (v.i 3 0) (v.s 3 1) (v.s 3 2) K)) (fun f v => f (v.i 32 0)) (fun k v => (fun z0 => k (v.ui 32 0 z0))) (by kernel_rfl) (fun _ _ => (by kernel_rfl)) (fun _ _ _ => (by kernel_rfl)) (fun _ _ _ => (by kernel_rfl)) (fun _ _ => (by kernel_rfl)) (fun _ _ _ _ _ => (by kernel_rfl))
def qla (v0 : Int) : Option (AV × Bool) :=
  (oB (qq3) fun r1 => (qub v0 r1 (r1.length : Int) (0 : Int) ([] : List UInt8) ([] : List UInt8) (fun (_ : Unit) => (some ((.agg [(.int .i64 (0 : Int)), (.str ([] : List UInt8)), (.str ([] : List UInt8))]), false))) FU (0 : Int)))
def qn2 := hull qla
theorem q3p : qn2 = qla := qb _
def qve {R : Type} : EntF Tryz.prog R := entB (nt := 19) (dec := qrk) (enc := (fun r => .tup [qof (.st [(.i .i64), .s, .s]) r.1, .bool r.2])) tabOk follows Tryz.func73 [(.cell 2 true 3), .t 3] (hdeN fun _ => rfl) (.s .z (.s (.s (.r [(0, .k qua.b)] []) (.b (.sub [.sel [0, 2, 6, 7, 8] [0]] qzr []))) .z)) S27_ qla (fun f v => f (v.i 0 0)) (by kernel_rfl) (by kernel_rfl) (by kernel_rfl) fun _ => (by kernel_rfl)
def q7y : List LT := [.b, (.i .u64), (.i .u64)]
def S28_ : Shp := ⟨[(0, .st (lk q7y))], []⟩
def qvf (Aa : Bool) (Ab Ac : Int) : Option Bool :=
  (bif Aa then (some true) else (bif (Ab == (0 : Int)) then (some (decide (Ac ≤ (4294967295 : Int)))) else (some false)))
def qzs := hull qvf
def qvg {R : Type} : EntF Tryz.prog R := entB (nt := 15) (dec := decB) (enc := AV.bool) tabOk follows Tryz.func101 [.t 2] hdeB (.z) S28_ qvf (fun f v => f (v.b 1 0) (v.i 1 1) (v.i 1 2)) (by kernel_rfl) (by kernel_rfl) (by kernel_rfl) fun _ => (by kernel_rfl)
def qjk (v0 v1 : List UInt8) : Option Bool :=
  (bif (decide ((v0.length : Int) ≥ (v1.length : Int))) then (oB (cutI v0 none (some (v1.length : Int))) fun s1 => (some (s1 == v1))) else (some false))
def qrl := hull qjk
def qpw {R : Type} : EntF Tryz.prog R := entB (nt := 18) (dec := decB) (enc := AV.bool) tabOk follows Tryz.func152 [.t 4] hdeB (.z) S9_ qjk (fun f v => f (v.s 0 0) (v.s 4 0)) (by kernel_rfl) (by kernel_rfl) (by kernel_rfl) fun _ => (by kernel_rfl)
def ql7 (v0 v1 : List UInt8) : Option Bool :=
  (oB (qrl v0 v1) fun r1 => (some r1))
def qxp := hull ql7
def qus {R : Type} : EntF Tryz.prog R := entB (nt := 8) (dec := decB) (enc := AV.bool) tabOk follows Tryz.func136 [.t 4] hdeB (.s .z (.s (.r [(2, .c qpw.b)] []) .z)) S9_ ql7 (fun f v => f (v.s 0 0) (v.s 4 0)) (by kernel_rfl) (by kernel_rfl) (by kernel_rfl) fun _ => (by kernel_rfl)
def qvh (v0 : List UInt8) : Option Bool :=
  (oB (qgs v0) fun r1 => (bif r1 then (oB (qxp v0 ([42] : List UInt8)) fun r2 => (some (!r2))) else (some false)))
def qi9 := hull qvh
def qha {R : Type} : EntF Tryz.prog R := entB (nt := 10) (dec := decB) (enc := AV.bool) tabOk follows Tryz.func102 [.t 2] hdeB (.s .z (.s (.r [(1, .c qj2.b), (4, .c qus.b)] []) .z)) S16_ qvh (fun f v => f (v.s 0 0)) (by kernel_rfl) (by kernel_rfl) (by kernel_rfl) fun _ => (by kernel_rfl)
def qrm (v0 : Int) : Option Bool :=
  (some ((decide (v0 ≥ (0 : Int))) && (decide (v0 < (4294967296 : Int)))))
def q4q := hull qrm
def q1o {R : Type} : EntF Tryz.prog R := entB (nt := 9) (dec := decB) (enc := AV.bool) tabOk follows Tryz.func103 [.t 2] hdeB (.s .z (.s (.r [(3, .g 2)] []) .z)) S27_ qrm (fun f v => f (v.i 0 0)) (by kernel_rfl) (by kernel_rfl) (by kernel_rfl) fun _ => (by kernel_rfl)
def S29_ : Shp := ⟨[(0, .one (.l (.i .i64))), (1, .one (.l (.i .i64)))], []⟩
def qmb (v0 v1 : Int) : Option Bool :=
  (some ((decide (v0 ≥ (0 : Int))) && (decide (v0 ≤ v1))))
def qx := hull qmb
theorem qzt : qx = qmb := qb _
def qy {R : Type} : EntF Tryz.prog R := entB (nt := 12) (dec := decB) (enc := AV.bool) tabOk follows Tryz.func104 [.t 4] hdeB (.s .z (.s (.r [(3, .g 3)] []) .z)) S29_ qmb (fun f v => f (v.i 0 0) (v.i 4 0)) (by kernel_rfl) (by kernel_rfl) (by kernel_rfl) fun _ => (by kernel_rfl)
def qlb (v0 : List UInt8) : Option Bool :=
  (some ((decide ((v0.length : Int) ≥ (1 : Int))) && (decide ((v0.length : Int) ≤ (255 : Int)))))
def qlc := hull qlb
theorem q3q : qlc = qlb := qb _
def qoy {R : Type} : EntF Tryz.prog R := entB (nt := 11) (dec := decB) (enc := AV.bool) tabOk follows Tryz.func105 [.t 2] hdeB (.s .z (.s (.r [(4, .g 3)] []) .z)) S16_ qlb (fun f v => f (v.s 0 0)) (by kernel_rfl) (by kernel_rfl) (by kernel_rfl) fun _ => (by kernel_rfl)
def quc (v0 : Int) : Option Bool :=
  (oB (qn2 v0) fun r1 => (some r1.2))
def q6l := hull quc
def q3r {R : Type} : EntF Tryz.prog R := entB (nt := 11) (dec := decB) (enc := AV.bool) tabOk follows Tryz.func106 [.t 2] hdeB (.s .z (.s (.r [(1, .c qve.b)] []) .z)) S27_ quc (fun f v => f (v.i 0 0)) (by kernel_rfl) (by kernel_rfl) (by kernel_rfl) fun _ => (by kernel_rfl)
def S30_ : Shp := ⟨[(1, .one (.l (.i .u64))), (4, .one (.l (.sl 3))), (5, .one (.l (.i .i64))), (6, .one (.l (.i .i64)))], []⟩
def qoz  (K : Ex → Env → Mem → Option Int) := (fun z_v1 => K (.exit 0) (ql [(1, (.int .u64 z_v1))]) (qd []))
def qrn  (v1 : Int) (v4 : List AV) (v5 v6 : Int) (next : Int → Int → Option Int) (kx0 : Int → Option Int) : Option Int :=
  (bif (decide (v6 < v5)) then (oB (ixB v4 v6) fun y1 => (bif fitC qfu y1.cells then (bif decide ((gI y1.cells 0) < 0) then none else (next (qeg .or .u64 v1 (IntKind.u64.wrap ((1 : Int) * 2 ^ min (gI y1.cells 0).toNat IntKind.u64.bits))) (IntKind.i64.wrap (v6 + (1 : Int))))) else none)) else (kx0 v1))
def qmc  (v4 : List AV) (v5 : Int) (kx0 : Int → Option Int) : Nat → Int → Int → Option Int
  | 0 => (fun _ _ => none)
  | n + 1 => (fun v1 v6 => qrn v1 v4 v5 v6 (qmc v4 v5 kx0 n) kx0)
def q4r := hull (qmc)
def q1p : SubB Tryz.prog (TIof Tryz.prog) 17 0 (kret [.t 0] (decI .u64)) := lpB tabOk follows Tryz.f107 75 (.s .z (.s (.s .z (.v [.sel [1] []])) (.s (.b (.s (.r [(0, .p (.etac 8 qfu))] []) .z)) (.v [.sel [1, 4, 5, 6] []])))) S30_ (qmc) (fun f v K n => f (v.l 16 0) (v.i 20 0) (qoz K) n) (fun v f K => qrn (v.i 4 0) (v.l 16 0) (v.i 20 0) (v.i 24 0) f (qoz K)) (fun f v => f (v.i 4 0) (v.i 24 0)) (fun k v => (fun z0 z1 => k ((v.ui 4 0 z0).ui 24 0 z1))) (by kernel_rfl) (fun _ _ => (by kernel_rfl)) (fun _ _ _ => (by kernel_rfl)) (fun _ _ _ => (by kernel_rfl)) (fun _ _ => (by kernel_rfl)) (fun _ _ _ _ _ => (by kernel_rfl))
def qx7 : Option Int :=
  (oB (qq3) fun r1 => (q4r r1 (r1.length : Int) (fun v1q2 => (some v1q2)) FU (0 : Int) (0 : Int)))
def q8u := hull qx7
def q6m {R : Type} : EntF Tryz.prog R := entB (nt := 17) (dec := (decI .u64)) (enc := (AV.int .u64)) tabOk follows Tryz.func107 [.t 0] hdeI (.s .z (.s .z (.s (.s (.r [(0, .k qua.b)] []) (.b (.sub [.sel [1, 4, 5, 6] []] q1p []))) .z))) (⟨[], []⟩ : Shp) qx7 (fun f v => f) (by kernel_rfl) (by kernel_rfl) (by kernel_rfl) fun _ => (by kernel_rfl)
def S31_ : Shp := ⟨[(0, .one (.l (.i .i64))), (3, .one (.ptr 0 0)), (5, .one (.l (.i .i64)))], [.box true (lk qez)]⟩
def S32_ : Shp := ⟨[(3, .one (.ptr 0 0)), (5, .one (.l (.i .i64)))], [.box true (lk qez)]⟩
def S33_ : Shp := ⟨[(3, .one (.ptr 0 0))], [.box true (lk qez)]⟩
def S34_ : Shp := ⟨[(0, .one (.l (.i .i64))), (1, .st (lk qez))], []⟩
def qxq  (v0 v5 : Int) (Al : Bool) (Am An : Int) (A1 A2 A3 : List UInt8) (A4 A5 A6 A7 A8 A9 Ba : Int) (K : Ex → Env → Mem → Option Bool) := (fun z_v6 => K .norm (ql [(0, (.int .i64 v0)), (3, (.ptr 0 0)), (5, (.int .i64 v5)), (6, (.bool z_v6))]) (qd [(some (.box true (qfa Al Am An A1 A2 A3 A4 A5 A6 A7 A8 A9 Ba)))]))
def qhl  (v0 v5 : Int) (Al : Bool) (Am An : Int) (A1 A2 A3 : List UInt8) (A4 A5 A6 A7 A8 A9 Ba : Int) (kn : Bool → Option Bool) : Option Bool :=
  (bif (v5 == (1 : Int)) then (kn true) else (kn (v5 == (28 : Int))))
def qro := hull (qhl)
theorem qxr : qro = qhl := qb _
def qyz : SubB Tryz.prog (TIof Tryz.prog) 324 0 (kret [.t 4] decB) := jnB tabOk follows Tryz.f74 37 (.s .z (.s (.v [.sel [0, 3, 5, 6] [0]]) (.v [.sel [0, 3, 5, 6] [0]]))) S31_ (qhl) (fun f v K => f (v.i 0 0) (v.i 20 0) (v.b 3 0) (v.i 3 1) (v.i 3 2) (v.s 3 3) (v.s 3 4) (v.s 3 5) (v.i 3 6) (v.i 3 7) (v.i 3 8) (v.i 3 9) (v.i 3 10) (v.i 3 11) (v.i 3 12) (qxq (v.i 0 0) (v.i 20 0) (v.b 3 0) (v.i 3 1) (v.i 3 2) (v.s 3 3) (v.s 3 4) (v.s 3 5) (v.i 3 6) (v.i 3 7) (v.i 3 8) (v.i 3 9) (v.i 3 10) (v.i 3 11) (v.i 3 12) K)) (by kernel_rfl) (fun _ _ => (by kernel_rfl))
def qvi  (v5 : Int) (Al : Bool) (Am An : Int) (A1 A2 A3 : List UInt8) (A4 A5 A6 A7 A8 A9 Ba : Int) (K : Ex → Env → Mem → Option Bool) := (fun z_v27 => K .norm (ql [(3, (.ptr 0 0)), (5, (.int .i64 v5)), (27, (.bool z_v27))]) (qd [(some (.box true (qfa Al Am An A1 A2 A3 A4 A5 A6 A7 A8 A9 Ba)))]))
def qgz  (v5 : Int) (Al : Bool) (Am An : Int) (A1 A2 A3 : List UInt8) (A4 A5 A6 A7 A8 A9 Ba : Int) (kn : Bool → Option Bool) : Option Bool :=
  (bif (v5 == (2 : Int)) then (kn true) else (bif (v5 == (5 : Int)) then (kn true) else (bif (v5 == (12 : Int)) then (kn true) else (kn (v5 == (39 : Int))))))
def qqa := hull (qgz)
theorem qvj : qqa = qgz := qb _
def qxs : SubB Tryz.prog (TIof Tryz.prog) 324 0 (kret [.t 4] decB) := jnB tabOk follows Tryz.f74 181 (.s .z (.s (.v [.sel [3, 5, 27] [0]]) (.s .z (.s (.v [.sel [3, 5, 27] [0]]) (.s .z (.s (.v [.sel [3, 5, 27] [0]]) (.v [.sel [3, 5, 27] [0]]))))))) S32_ (qgz) (fun f v K => f (v.i 20 0) (v.b 3 0) (v.i 3 1) (v.i 3 2) (v.s 3 3) (v.s 3 4) (v.s 3 5) (v.i 3 6) (v.i 3 7) (v.i 3 8) (v.i 3 9) (v.i 3 10) (v.i 3 11) (v.i 3 12) (qvi (v.i 20 0) (v.b 3 0) (v.i 3 1) (v.i 3 2) (v.s 3 3) (v.s 3 4) (v.s 3 5) (v.i 3 6) (v.i 3 7) (v.i 3 8) (v.i 3 9) (v.i 3 10) (v.i 3 11) (v.i 3 12) K)) (by kernel_rfl) (fun _ _ => (by kernel_rfl))
def qvk  (K : Ex → Env → Mem → Option Bool) := (fun z_v4 => K .norm (ql [(4, (.bool z_v4))]) (qd []))
def qnt  (Al : Bool) (Am An : Int) (A1 A2 A3 : List UInt8) (A4 A5 A6 A7 A8 A9 Ba : Int) (kn : Bool → Option Bool) : Option Bool :=
  (bif ((Al == false) && ((Am == (0 : Int)) && ((An == (0 : Int)) && ((A1 == A1) && ((A2 == A2) && ((A3 == ([] : List UInt8)) && ((A4 == A4) && ((A5 == A5) && ((A6 == A6) && ((A7 == A7) && ((A8 == A8) && ((A9 == (0 : Int)) && ((Ba == (0 : Int)) && true))))))))))))) then (oB (qi9 A1) fun r1 => (bif r1 then (oB (qi9 A2) fun r2 => (bif r2 then (oB (q4q A4) fun r3 => (bif r3 then (oB (qx A5 (2147483647 : Int)) fun r4 => (bif r4 then (oB (qx A6 (2147483647 : Int)) fun r5 => (bif r5 then (oB (qx A7 (2147483647 : Int)) fun r6 => (bif r6 then (oB (qx A8 (2147483647 : Int)) fun r7 => (kn r7)) else (kn false))) else (kn false))) else (kn false))) else (kn false))) else (kn false))) else (kn false))) else (kn false))
def qzu := hull (qnt)
def qxt : SubB Tryz.prog (TIof Tryz.prog) 324 0 (kret [.t 4] decB) := jnB tabOk follows Tryz.f74 2549 (.r [(20, .c qha.b), (25, .c qha.b), (30, .c q1o.b), (35, .c qy.b), (40, .c qy.b), (45, .c qy.b), (50, .c qy.b)] [.sel [4] []]) S33_ (qnt) (fun f v K => f (v.b 3 0) (v.i 3 1) (v.i 3 2) (v.s 3 3) (v.s 3 4) (v.s 3 5) (v.i 3 6) (v.i 3 7) (v.i 3 8) (v.i 3 9) (v.i 3 10) (v.i 3 11) (v.i 3 12) (qvk K)) (by kernel_rfl) (fun _ _ => (by kernel_rfl))
def qvl  (K : Ex → Env → Mem → Option Bool) := (fun z_v4 => K .norm (ql [(4, (.bool z_v4))]) (qd []))
def qnu  (Al : Bool) (Am An : Int) (A1 A2 A3 : List UInt8) (A4 A5 A6 A7 A8 A9 Ba : Int) (kn : Bool → Option Bool) : Option Bool :=
  (bif ((Al == false) && ((Am == (0 : Int)) && ((An == (0 : Int)) && ((A1 == A1) && ((A2 == ([] : List UInt8)) && ((A3 == A3) && ((A4 == A4) && ((A5 == A5) && ((A6 == A6) && ((A7 == A7) && ((A8 == A8) && ((A9 == A9) && ((Ba == (0 : Int)) && true))))))))))))) then (oB (qlc A3) fun r1 => (bif r1 then (oB (qi9 A1) fun r2 => (bif r2 then (oB (q6l A4) fun r3 => (bif (r3 && (A4 != (46 : Int))) then (oB (qx A5 (127 : Int)) fun r4 => (bif r4 then (oB (qx A6 (2147483647 : Int)) fun r5 => (bif r5 then (oB (qx A7 (4294967295 : Int)) fun r6 => (bif r6 then (oB (qx A8 (4294967295 : Int)) fun r7 => (bif r7 then (oB (qx A9 (65535 : Int)) fun r8 => (kn r8)) else (kn false))) else (kn false))) else (kn false))) else (kn false))) else (kn false))) else (kn false))) else (kn false))) else (kn false))
def qzv := hull (qnu)
def qxu : SubB Tryz.prog (TIof Tryz.prog) 324 0 (kret [.t 4] decB) := jnB tabOk follows Tryz.f74 2621429 (.r [(22, .c qoy.b), (27, .c qha.b), (32, .c q3r.b), (35, .g 3), (42, .c qy.b), (47, .c qy.b), (52, .c qy.b), (57, .c qy.b), (62, .c qy.b)] [.sel [4] []]) S33_ (qnu) (fun f v K => f (v.b 3 0) (v.i 3 1) (v.i 3 2) (v.s 3 3) (v.s 3 4) (v.s 3 5) (v.i 3 6) (v.i 3 7) (v.i 3 8) (v.i 3 9) (v.i 3 10) (v.i 3 11) (v.i 3 12) (qvl K)) (by kernel_rfl) (fun _ _ => (by kernel_rfl))
def qvm  (K : Ex → Env → Mem → Option Bool) := (fun z_v4 => K .norm (ql [(4, (.bool z_v4))]) (qd []))
def qg0  (Al : Bool) (Am An : Int) (A1 A2 A3 : List UInt8) (A4 A5 A6 A7 A8 A9 Ba : Int) (kn : Bool → Option Bool) : Option Bool :=
  (bif ((Al == false) && ((Am == (0 : Int)) && ((An == (0 : Int)) && ((A1 == ([] : List UInt8)) && ((A2 == ([] : List UInt8)) && ((A3 == A3) && ((A4 == A4) && ((A5 == A5) && ((A6 == A6) && ((A7 == (0 : Int)) && ((A8 == (0 : Int)) && ((A9 == (0 : Int)) && ((Ba == (0 : Int)) && true))))))))))))) then (oB (qlc A3) fun r1 => (bif r1 then (bif (A4 == (256 : Int)) then (bif (A5 == (3 : Int)) then (oB (qx A6 (255 : Int)) fun r2 => (kn r2)) else (kn false)) else (bif ((A4 == (257 : Int)) && (A5 == (3 : Int))) then (oB (qx A6 (255 : Int)) fun r3 => (kn r3)) else (kn false))) else (kn false))) else (kn false))
def qqb := hull (qg0)
theorem qvn : qqb = qg0 := qb _
def qxv : SubB Tryz.prog (TIof Tryz.prog) 324 0 (kret [.t 4] decB) := jnB tabOk follows Tryz.f74 41943029 (.r [(14, .c qoy.b), (27, .g 3), (34, .c qy.b)] [.sel [4] []]) S33_ (qg0) (fun f v K => f (v.b 3 0) (v.i 3 1) (v.i 3 2) (v.s 3 3) (v.s 3 4) (v.s 3 5) (v.i 3 6) (v.i 3 7) (v.i 3 8) (v.i 3 9) (v.i 3 10) (v.i 3 11) (v.i 3 12) (qvm K)) (by kernel_rfl) (fun _ _ => (by kernel_rfl))
def qj5 (v0 : Int) (Bb : Bool) (Bc Bd : Int) (Be Bf Bg : List UInt8) (Bh Bi Bj Bl Bm Bn Bo : Int) : Option Bool :=
  (qro v0 v0 Bb Bc Bd Be Bf Bg Bh Bi Bj Bl Bm Bn Bo (fun v6q1 => (bif v6q1 then (bif ((Bb == Bb) && ((Bc == Bc) && ((Bd == Bd) && ((Be == ([] : List UInt8)) && ((Bf == ([] : List UInt8)) && ((Bg == ([] : List UInt8)) && ((Bh == (0 : Int)) && ((Bi == (0 : Int)) && ((Bj == (0 : Int)) && ((Bl == (0 : Int)) && ((Bm == (0 : Int)) && ((Bn == (0 : Int)) && ((Bo == (0 : Int)) && true))))))))))))) then (oB (qzs Bb Bc Bd) fun r2 => (some (r2 && ((Bb == (v0 == (28 : Int))) && true)))) else (some false)) else (qqa v0 Bb Bc Bd Be Bf Bg Bh Bi Bj Bl Bm Bn Bo (fun v27q3 => (bif v27q3 then (bif ((Bb == false) && ((Bc == (0 : Int)) && ((Bd == (0 : Int)) && ((Be == Be) && ((Bf == ([] : List UInt8)) && ((Bg == ([] : List UInt8)) && ((Bh == (0 : Int)) && ((Bi == (0 : Int)) && ((Bj == (0 : Int)) && ((Bl == (0 : Int)) && ((Bm == (0 : Int)) && ((Bn == (0 : Int)) && ((Bo == (0 : Int)) && true))))))))))))) then (oB (qi9 Be) fun r4 => (some r4)) else (some false)) else (bif (v0 == (6 : Int)) then (qzu Bb Bc Bd Be Bf Bg Bh Bi Bj Bl Bm Bn Bo (fun v4q5 => (some v4q5))) else (bif (v0 == (15 : Int)) then (bif ((Bb == false) && ((Bc == (0 : Int)) && ((Bd == (0 : Int)) && ((Be == Be) && ((Bf == ([] : List UInt8)) && ((Bg == ([] : List UInt8)) && ((Bh == Bh) && ((Bi == (0 : Int)) && ((Bj == (0 : Int)) && ((Bl == (0 : Int)) && ((Bm == (0 : Int)) && ((Bn == (0 : Int)) && ((Bo == (0 : Int)) && true))))))))))))) then (oB (qi9 Be) fun r6 => (bif r6 then (oB (qx Bh (65535 : Int)) fun r7 => (some r7)) else (some false))) else (some false)) else (bif (v0 == (16 : Int)) then (some (((Bb == false) && ((Bc == (0 : Int)) && ((Bd == (0 : Int)) && ((Be == ([] : List UInt8)) && ((Bf == ([] : List UInt8)) && ((Bg == Bg) && ((Bh == (0 : Int)) && ((Bi == (0 : Int)) && ((Bj == (0 : Int)) && ((Bl == (0 : Int)) && ((Bm == (0 : Int)) && ((Bn == (0 : Int)) && ((Bo == (0 : Int)) && true))))))))))))) && (decide ((Bg.length : Int) ≤ (255 : Int))))) else (bif (v0 == (33 : Int)) then (bif ((Bb == false) && ((Bc == (0 : Int)) && ((Bd == (0 : Int)) && ((Be == Be) && ((Bf == ([] : List UInt8)) && ((Bg == ([] : List UInt8)) && ((Bh == Bh) && ((Bi == Bi) && ((Bj == Bj) && ((Bl == (0 : Int)) && ((Bm == (0 : Int)) && ((Bn == (0 : Int)) && ((Bo == (0 : Int)) && true))))))))))))) then (oB (qi9 Be) fun r8 => (bif r8 then (oB (qx Bh (65535 : Int)) fun r9 => (bif r9 then (oB (qx Bi (65535 : Int)) fun r10 => (bif r10 then (oB (qx Bj (65535 : Int)) fun r11 => (some r11)) else (some false))) else (some false))) else (some false))) else (some false)) else (bif (v0 == (43 : Int)) then (bif ((Bb == false) && ((Bc == (0 : Int)) && ((Bd == (0 : Int)) && ((Be == ([] : List UInt8)) && ((Bf == ([] : List UInt8)) && ((Bg == Bg) && ((Bh == Bh) && ((Bi == Bi) && ((Bj == Bj) && ((Bl == (0 : Int)) && ((Bm == (0 : Int)) && ((Bn == (0 : Int)) && ((Bo == (0 : Int)) && true))))))))))))) then (oB (qlc Bg) fun r12 => (bif r12 then (oB (qx Bh (65535 : Int)) fun r13 => (bif r13 then (oB (qx Bi (255 : Int)) fun r14 => (bif r14 then (oB (qx Bj (255 : Int)) fun r15 => (some r15)) else (some false))) else (some false))) else (some false))) else (some false)) else (bif (v0 == (46 : Int)) then (qzv Bb Bc Bd Be Bf Bg Bh Bi Bj Bl Bm Bn Bo (fun v4q16 => (some v4q16))) else (bif (v0 == (47 : Int)) then (bif ((Bb == false) && ((Bc == (0 : Int)) && ((Bd == (0 : Int)) && ((Be == Be) && ((Bf == ([] : List UInt8)) && ((Bg == ([] : List UInt8)) && ((Bh == (0 : Int)) && ((Bi == (0 : Int)) && ((Bj == (0 : Int)) && ((Bl == (0 : Int)) && ((Bm == (0 : Int)) && ((Bn == (0 : Int)) && ((Bo == Bo) && true))))))))))))) then (oB (qgs Be) fun r17 => (bif r17 then (bif (Bo != (0 : Int)) then (oB (q8u) fun r18 => (some ((qeg .andNot .u64 Bo r18) == (0 : Int)))) else (some false)) else (some false))) else (some false)) else (bif (v0 == (48 : Int)) then (qqb Bb Bc Bd Be Bf Bg Bh Bi Bj Bl Bm Bn Bo (fun v4q19 => (some v4q19))) else (some false)))))))))))))))
def qq4 := hull qj5
theorem q1q : qq4 = qj5 := qb _
def q3s {R : Type} : EntF Tryz.prog R := entB (nt := 324) (dec := decB) (enc := AV.bool) tabOk follows Tryz.func74 [.t 4] hdeB (.s .z (.s (.s .z (.b (.s (.sub [.sel [0, 3, 5] [0]] qyz []) (.s (.s (.r [(8, .c qvg.b), (11, .g 6)] []) .z) (.s (.sub [.sel [3, 5] [0]] qxs []) (.s (.s (.r [(8, .c qha.b)] []) .z) (.s .z (.s (.s (.sub [.sel [3] [0]] qxt []) .z) (.s .z (.s (.s (.r [(10, .c qha.b), (15, .c qy.b)] []) .z) (.s .z (.s (.s (.r [(6, .g 4)] []) .z) (.s .z (.s (.s (.r [(14, .c qha.b), (19, .c qy.b), (24, .c qy.b), (29, .c qy.b)] []) .z) (.s .z (.s (.s (.r [(14, .c qoy.b), (19, .c qy.b), (24, .c qy.b), (29, .c qy.b)] []) .z) (.s .z (.s (.s (.sub [.sel [3] [0]] qxu []) .z) (.s .z (.s (.s (.d [] [(10, .c qj2.b), (20, .c q6m.b)] [] []) .z) (.s .z (.s (.s (.sub [.sel [3] [0]] qxv []) .z) .z)))))))))))))))))))))) .z)) S34_ qj5 (fun f v => f (v.i 0 0) (v.b 5 0) (v.i 5 1) (v.i 5 2) (v.s 5 3) (v.s 5 4) (v.s 5 5) (v.i 5 6) (v.i 5 7) (v.i 5 8) (v.i 5 9) (v.i 5 10) (v.i 5 11) (v.i 5 12)) (by kernel_rfl) (by kernel_rfl) (by kernel_rfl) fun _ => (by kernel_rfl)
def qvo  (v0 : List UInt8) (K : Ex → Env → Mem → Option (List AV)) := (fun z_v9 => K .norm (ql [(0, (.str v0)), (9, (.bool z_v9))]) (qd []))
def qnv  (v0 : List UInt8) (kn : Bool → Option (List AV)) : Option (List AV) :=
  (bif (v0 == ([46] : List UInt8)) then (kn true) else (oB (qgs v0) fun r1 => (kn (!r1))))
def qzw := hull (qnv)
def qxw : SubB Tryz.prog (TIof Tryz.prog) 16 0 (kret [.t 2] (decX (.one (.sl 1)) fun z => aL z)) := jnB tabOk follows Tryz.f108 9 (.r [(4, .c qj2.b)] [.sel [0, 9] []]) S16_ (qnv) (fun f v K => f (v.s 0 0) (qvo (v.s 0 0) K)) (by kernel_rfl) (fun _ _ => (by kernel_rfl))
def qrp (v0 : List UInt8) : Option (List AV) :=
  (qzw v0 (fun v9q1 => (bif v9q1 then (some ([] : List AV)) else (oB (cutI v0 none (some (IntKind.i64.wrap ((v0.length : Int) - (1 : Int))))) fun s2 => (oB (qj0 s2 ([46] : List UInt8)) fun r3 => (some r3))))))
def q4s := hull qrp
def q1r {R : Type} : EntF Tryz.prog R := entB (nt := 16) (dec := (decX (.one (.sl 1)) fun z => aL z)) (enc := (fun r => .sl 1 r)) tabOk follows Tryz.func108 [.t 2] (hdeX fun _ => rfl) (.s .z (.s (.s (.sub [.sel [0] []] qxw []) (.s (.s .z (.v [.eta 2 (.one (.sl 1))])) .z)) (.s (.r [(5, .k qp5.b)] []) .z))) S16_ qrp (fun f v => f (v.s 0 0)) (by kernel_rfl) (by kernel_rfl) (by kernel_rfl) fun _ => (by kernel_rfl)
def S35_ : Shp := ⟨[(3, .one (.l .s)), (7, .one (.l (.sl 1))), (8, .one (.l (.i .i64))), (9, .one (.l (.i .i64)))], []⟩
def qnw  (K : Ex → Env → Mem → Option (List UInt8)) := (fun z_v3 => K (.exit 0) (ql [(3, (.str z_v3))]) (qd []))
def qqc  (v3 : List UInt8) (v7 : List AV) (v8 v9 : Int) (next : (List UInt8) → Int → Option (List UInt8)) (kx0 : (List UInt8) → Option (List UInt8)) : Option (List UInt8) :=
  (bif (decide (v9 < v8)) then (oB (ixB v7 v9) fun y1 => (bif fitC [.s] y1.cells then (bif hd ([(.int .u8 (IntKind.u8.wrap ((gS y1.cells 0).length : Int)))] : List AV) (([(.int .u8 (IntKind.u8.wrap ((gS y1.cells 0).length : Int)))] : List AV).length) then (oB (qb2 ([(.int .u8 (IntKind.u8.wrap ((gS y1.cells 0).length : Int)))] : List AV)) fun s2 => (bif decide (s2.length + (gS y1.cells 0).length ≤ 9223372036854775807) then (bif decide (v3.length + (s2 ++ (gS y1.cells 0)).length ≤ 9223372036854775807) then (next (v3 ++ (s2 ++ (gS y1.cells 0))) (IntKind.i64.wrap (v9 + (1 : Int)))) else none) else none)) else none) else none)) else (kx0 v3))
def qld  (v7 : List AV) (v8 : Int) (kx0 : (List UInt8) → Option (List UInt8)) : Nat → (List UInt8) → Int → Option (List UInt8)
  | 0 => (fun _ _ => none)
  | n + 1 => (fun v3 v9 => qqc v3 v7 v8 v9 (qld v7 v8 kx0 n) kx0)
def q3t := hull (qld)
def qzx : SubB Tryz.prog (TIof Tryz.prog) 25 0 (kret [.t 2] decS) := lpB tabOk follows Tryz.f75 75 (.s .z (.s (.s .z (.v [.sel [3] []])) (.s (.b (.s (.r [(0, .p (.etac 11 [.s]))] []) .z)) (.v [.sel [3, 7, 8, 9] []])))) S35_ (qld) (fun f v K n => f (v.l 28 0) (v.i 32 0) (qnw K) n) (fun v f K => qqc (v.s 12 0) (v.l 28 0) (v.i 32 0) (v.i 36 0) f (qnw K)) (fun f v => f (v.s 12 0) (v.i 36 0)) (fun k v => (fun z0 z1 => k ((v.us 12 0 z0).ui 36 0 z1))) (by kernel_rfl) (fun _ _ => (by kernel_rfl)) (fun _ _ _ => (by kernel_rfl)) (fun _ _ _ => (by kernel_rfl)) (fun _ _ => (by kernel_rfl)) (fun _ _ _ _ _ => (by kernel_rfl))
def qvp (v0 : List UInt8) : Option (List UInt8) :=
  (oB (q4s v0) fun r1 => (q3t r1 (r1.length : Int) (fun v3q2 => (bif decide (v3q2.length + ([0] : List UInt8).length ≤ 9223372036854775807) then (some (v3q2 ++ ([0] : List UInt8))) else none)) FU ([] : List UInt8) (0 : Int)))
def qzy := hull qvp
def qvq {R : Type} : EntF Tryz.prog R := entB (nt := 25) (dec := decS) (enc := AV.str) tabOk follows Tryz.func75 [.t 2] hdeS (.s .z (.s .z (.s (.s (.r [(1, .k q1r.b)] []) (.b (.sub [.sel [3, 7, 8, 9] []] qzx []))) .z))) S16_ qvp (fun f v => f (v.s 0 0)) (by kernel_rfl) (by kernel_rfl) (by kernel_rfl) fun _ => (by kernel_rfl)
def qnx  (K : Ex → Env → Mem → Option (List AV)) := (fun z_a0 => K (.exit 0) (ql [(3, (.own 0 z_a0.length))]) (qd [(some (.arr true 1 z_a0))]))
def qqd  (v0 v7 v8 : Int) (a0 : List AV) (next : Int → (List AV) → Option (List AV)) (kx0 : (List AV) → Option (List AV)) : Option (List AV) :=
  (bif (decide (v8 < v7)) then (bif decide ((IntKind.i64.wrap ((56 : Int) - (IntKind.i64.wrap ((8 : Int) * v8)))) < 0) then none else (bif hd a0 a0.length then (bif decide (0 ≤ v8 ∧ v8 < a0.length) then (bif hd a0 a0.length then (oB (a0[v8.toNat]?) fun y1 => (oB (putE y1 0 1 [(.int .u8 (IntKind.u8.wrap (v0.fdiv (2 ^ min (IntKind.i64.wrap ((56 : Int) - (IntKind.i64.wrap ((8 : Int) * v8)))).toNat IntKind.u64.bits))))]) fun z2 => (bif hd (a0.set v8.toNat z2) a0.length then (next (IntKind.i64.wrap (v8 + (1 : Int))) (a0.set v8.toNat z2)) else none))) else none) else none) else none)) else (kx0 a0))
def qle  (v0 v7 : Int) (kx0 : (List AV) → Option (List AV)) : Nat → Int → (List AV) → Option (List AV)
  | 0 => (fun _ _ => none)
  | n + 1 => (fun v8 a0 => qqd v0 v7 v8 a0 (qle v0 v7 kx0 n) kx0)
def q3u := hull (qle)
def qzz : SubB Tryz.prog (TIof Tryz.prog) 22 0 (kret [.t 2] (decF true 1)) := lpB tabOk follows Tryz.f109 75 (.s .z (.s (.s .z (.v [.sel [3] [0]])) (.s .z (.v [.hd 3, .sel [0, 3, 7, 8] [0]])))) S19_ (qle) (fun f v K n => f (v.i 0 0) (v.i 28 0) (qnx K) n) (fun v f K => qqd (v.i 0 0) (v.i 28 0) (v.i 32 0) (v.r 0) f (qnx K)) (fun f v => f (v.i 32 0) (v.r 0)) (fun k v => (fun z0 z1 => k ((v.ui 32 0 z0).ur 0 z1))) (by kernel_rfl) (fun _ _ => (by kernel_rfl)) (fun _ _ _ => (by kernel_rfl)) (fun _ _ _ => (by kernel_rfl)) (fun _ _ => (by kernel_rfl)) (fun _ _ _ _ _ => (by kernel_rfl))
def qvr (v0 : Int) : Option (List AV) :=
  (bif decide (0 ≤ (8 : Int) ∧ (8 : Int) ≤ (8 : Int) ∧ (8 : Int) * 1 ≤ 281474976710656) then (bif (hd (List.replicate (8 : Int).toNat ((.int .u8 (0 : Int)) : AV)) ((List.replicate (8 : Int).toNat ((.int .u8 (0 : Int)) : AV)).length) && true) then (q3u v0 (((List.replicate (8 : Int).toNat ((.int .u8 (0 : Int)) : AV)).length) : Int) (fun a0q1 => (bif hd a0q1 a0q1.length then (some a0q1) else none)) FU (0 : Int) (List.replicate (8 : Int).toNat ((.int .u8 (0 : Int)) : AV))) else none) else none)
def qsu := hull qvr
def qo0 {R : Type} : EntF Tryz.prog R := entB (nt := 22) (dec := (decF true 1)) (enc := (AV.fr true 1)) tabOk follows Tryz.func109 [.t 2] hdeF (.s .z (.s .z (.s (.s .z (.b (.sub [.sel [0, 3, 7, 8] [0]] qzz []))) .z))) S20_ qvr (fun f v => f (v.i 0 0)) (by kernel_rfl) (by kernel_rfl) (by kernel_rfl) fun _ => (by kernel_rfl)
def q3v : AV → Option ((List UInt8) × Int) := decN [(.one .s), (.one (.i .i64))] fun z => (aS (gC (tpL z) 0), aI (gC (tpL z) 1))
def qx8 (Aa : Bool) (Ab Ac : Int) : Option ((List UInt8) × Int) :=
  (oB (qzs Aa Ab Ac) fun r1 => (bif (!r1) then (some (([] : List UInt8), (3 : Int))) else (bif (!Aa) then (oB (qsu Ac) fun r2 => (oB (cutI r2 (some (4 : Int)) none) fun s3 => (oB (qb2 s3) fun s4 => (some (s4, (0 : Int)))))) else (oB (qsu Ab) fun r5 => (oB (qb2 r5) fun s6 => (oB (qsu Ac) fun r7 => (oB (qb2 r7) fun s8 => (bif decide (s6.length + s8.length ≤ 9223372036854775807) then (some ((s6 ++ s8), (0 : Int))) else none))))))))
def q8v := hull qx8
def q6n {R : Type} : EntF Tryz.prog R := entB (nt := 26) (dec := q3v) (enc := (fun r => .tup [.str r.1, .int .i64 r.2])) tabOk follows Tryz.func76 [.t 2, .t 3] (hdeN fun _ => rfl) (.s .z (.s (.b (.s (.r [(1, .c qvg.b)] []) (.s .z (.s .z (.s (.s (.r [(2, .k qo0.b)] []) .z) .z))))) (.s (.d [] [(2, .c qo0.b), (6, .c qo0.b)] [] []) .z))) S28_ qx8 (fun f v => f (v.b 1 0) (v.i 1 1) (v.i 1 2)) (by kernel_rfl) (by kernel_rfl) (by kernel_rfl) fun _ => (by kernel_rfl)
def q8w {R : Type} (vs : List AV) (m : Mem) (K : AV → Mem → Option R) : Option R := qzj vs m K
theorem q8x {R : Type} : qj9 Tryz.prog 78 (q8w (R := R)) := qbb0
def S36_ : Shp := ⟨[(0, .one (.l (.i .i64))), (5, .one (.own 0)), (6, .one (.l (.i .i64)))], [.arr true 1]⟩
def ql8  (K : Ex → Env → Mem → Option (List UInt8)) := (fun z_a0 => K (.exit 0) (ql [(5, (.own 0 z_a0.length))]) (qd [(some (.arr true 1 z_a0))]))
def qny  (v0 v6 : Int) (a0 : List AV) (next : Int → Int → (List AV) → Option (List UInt8)) (kx0 : (List AV) → Option (List UInt8)) : Option (List UInt8) :=
  (bif (decide (v6 ≥ (0 : Int))) then (bif hd a0 a0.length then (bif decide (0 ≤ v6 ∧ v6 < a0.length) then (bif hd a0 a0.length then (oB (a0[v6.toNat]?) fun y1 => (oB (putE y1 0 1 [(.int .u8 (IntKind.u8.wrap v0))]) fun z2 => (bif hd (a0.set v6.toNat z2) a0.length then (next (v0.fdiv (2 ^ min (8 : Int).toNat IntKind.i64.bits)) (IntKind.i64.wrap (v6 - (1 : Int))) (a0.set v6.toNat z2)) else none))) else none) else none) else none) else (kx0 a0))
def qg1  (kx0 : (List AV) → Option (List UInt8)) : Nat → Int → Int → (List AV) → Option (List UInt8)
  | 0 => (fun _ _ _ => none)
  | n + 1 => (fun v0 v6 a0 => qny v0 v6 a0 (qg1 kx0 n) kx0)
def qqe := hull (qg1)
theorem qiu : qqe = qg1 := qb _
def qxx : SubB Tryz.prog (TIof Tryz.prog) 24 0 (kret [.t 4] decS) := lpB tabOk follows Tryz.f79 75 (.s (.s .z (.s .z (.v [.sel [5] [0]]))) (.s .z (.v [.hd 5, .sel [0, 5, 6] [0]]))) S36_ (qg1) (fun f v K n => f (ql8 K) n) (fun v f K => qny (v.i 0 0) (v.i 24 0) (v.r 0) f (ql8 K)) (fun f v => f (v.i 0 0) (v.i 24 0) (v.r 0)) (fun k v => (fun z0 z1 z2 => k (((v.ui 0 0 z0).ui 24 0 z1).ur 0 z2))) (by kernel_rfl) (fun _ _ => (by kernel_rfl)) (fun _ _ _ => (by kernel_rfl)) (fun _ _ _ => (by kernel_rfl)) (fun _ _ => (by kernel_rfl)) (fun _ _ _ _ _ => (by kernel_rfl))
def qfp (v0 v1 : Int) : Option (List UInt8) :=
  (bif decide (0 ≤ v1 ∧ v1 ≤ v1 ∧ v1 * 1 ≤ 281474976710656) then (bif (hd (List.replicate v1.toNat ((.int .u8 (0 : Int)) : AV)) ((List.replicate v1.toNat ((.int .u8 (0 : Int)) : AV)).length) && true) then (qqe (fun a0q1 => (bif hd a0q1 a0q1.length then (oB (qb2 a0q1) fun s2 => (some s2)) else none)) FU v0 (IntKind.i64.wrap (v1 - (1 : Int))) (List.replicate v1.toNat ((.int .u8 (0 : Int)) : AV))) else none) else none)
def qw := hull qfp
theorem qlf : qw = qfp := qb _
def q1s {R : Type} : EntF Tryz.prog R := entB (nt := 24) (dec := decS) (enc := AV.str) tabOk follows Tryz.func79 [.t 4] hdeS (.s .z (.s .z (.s (.s .z (.b (.sub [.sel [0, 5, 6] [0]] qxx []))) .z))) S29_ qfp (fun f v => f (v.i 0 0) (v.i 4 0)) (by kernel_rfl) (by kernel_rfl) (by kernel_rfl) fun _ => (by kernel_rfl)
def S37_ : Shp := ⟨[(3, .one (.ptr 0 0)), (6, .one (.ptr 1 0)), (8, .one (.l .s)), (10, .one (.l (.i .u8))), (31, .one (.l (.i .i64))), (32, .one (.l (.i .i64))), (39, .one (.l (.i .u8)))], [.box true (lk qez), .box true (lk qfu)]⟩
def S38_ : Shp := ⟨[(3, .one (.ptr 0 0)), (6, .one (.ptr 1 0)), (8, .one (.l .s)), (31, .one (.l (.i .i64))), (32, .one (.l (.i .i64)))], [.box true (lk qez), .box true (lk qfu)]⟩
def qja : AV → Option ((List UInt8) × Int) := decN [(.one .s), (.one (.i .i64))] fun z => (aS (gC (tpL z) 0), aI (gC (tpL z) 1))
def qxy  (v8 : List UInt8) (v10 v31 v32 v39 : Int) (Al : Bool) (Am An : Int) (A1 A2 A3 : List UInt8) (A4 A5 A6 A7 A8 A9 Ba Ao : Int) (Ap Aq : List UInt8) (K : Ex → Env → Mem → Option ((List UInt8) × Int)) := (fun z_v66 => K .norm (ql [(3, (.ptr 0 0)), (6, (.ptr 1 0)), (8, (.str v8)), (10, (.int .u8 v10)), (31, (.int .i64 v31)), (32, (.int .i64 v32)), (39, (.int .u8 v39)), (66, (.bool z_v66))]) (qd [(some (.box true (qfa Al Am An A1 A2 A3 A4 A5 A6 A7 A8 A9 Ba))), (some (.box true (qk9 Ao Ap Aq)))]))
def qdd  (v8 : List UInt8) (v10 v31 v32 v39 : Int) (Al : Bool) (Am An : Int) (A1 A2 A3 : List UInt8) (A4 A5 A6 A7 A8 A9 Ba Ao : Int) (Ap Aq : List UInt8) (kn : Bool → Option ((List UInt8) × Int)) : Option ((List UInt8) × Int) :=
  (bif (v39 == (52 : Int)) then (kn true) else (kn (v39 == (54 : Int))))
def qrq := hull (qdd)
theorem qg2 : qrq = qdd := qb _
def qy0 : SubB Tryz.prog (TIof Tryz.prog) 118 0 (kret [.t 4, .t 5] qja) := jnB tabOk follows Tryz.f55 3109679 (.s .z (.s (.v [.sel [3, 6, 8, 10, 31, 32, 39, 66] [0, 1]]) (.v [.sel [3, 6, 8, 10, 31, 32, 39, 66] [0, 1]]))) S37_ (qdd) (fun f v K => f (v.s 32 0) (v.i 40 0) (v.i 124 0) (v.i 128 0) (v.i 156 0) (v.b 3 0) (v.i 3 1) (v.i 3 2) (v.s 3 3) (v.s 3 4) (v.s 3 5) (v.i 3 6) (v.i 3 7) (v.i 3 8) (v.i 3 9) (v.i 3 10) (v.i 3 11) (v.i 3 12) (v.i 7 0) (v.s 7 1) (v.s 7 2) (qxy (v.s 32 0) (v.i 40 0) (v.i 124 0) (v.i 128 0) (v.i 156 0) (v.b 3 0) (v.i 3 1) (v.i 3 2) (v.s 3 3) (v.s 3 4) (v.s 3 5) (v.i 3 6) (v.i 3 7) (v.i 3 8) (v.i 3 9) (v.i 3 10) (v.i 3 11) (v.i 3 12) (v.i 7 0) (v.s 7 1) (v.s 7 2) K)) (by kernel_rfl) (fun _ _ => (by kernel_rfl))
def qxz  (v31 v32 : Int) (Al : Bool) (Am An : Int) (A1 A2 A3 : List UInt8) (A4 A5 A6 A7 A8 A9 Ba Ao : Int) (Ap Aq : List UInt8) (K : Ex → Env → Mem → Option ((List UInt8) × Int)) := (fun z_v8 => K .norm (ql [(3, (.ptr 0 0)), (6, (.ptr 1 0)), (8, (.str z_v8)), (31, (.int .i64 v31)), (32, (.int .i64 v32))]) (qd [(some (.box true (qfa Al Am An A1 A2 A3 A4 A5 A6 A7 A8 A9 Ba))), (some (.box true (qk9 Ao Ap Aq)))]))
def qhm  (v8 : List UInt8) (v31 v32 : Int) (Al : Bool) (Am An : Int) (A1 A2 A3 : List UInt8) (A4 A5 A6 A7 A8 A9 Ba Ao : Int) (Ap Aq : List UInt8) (kn : (List UInt8) → Option ((List UInt8) × Int)) : Option ((List UInt8) × Int) :=
  (oB (ixB Aq v32) fun c1 => (bif ((c1.toNat : Int) == (104 : Int)) then (oB (qzy A1) fun r2 => (bif decide (v8.length + r2.length ≤ 9223372036854775807) then (kn (v8 ++ r2)) else none)) else (bif ((c1.toNat : Int) == (109 : Int)) then (oB (qzy A2) fun r3 => (bif decide (v8.length + r3.length ≤ 9223372036854775807) then (kn (v8 ++ r3)) else none)) else (qrq v8 (c1.toNat : Int) v31 v32 (c1.toNat : Int) Al Am An A1 A2 A3 A4 A5 A6 A7 A8 A9 Ba Ao Ap Aq (fun v66q4 => (bif v66q4 then (oB (q8v Al Am An) fun r5 => (bif decide (v8.length + r5.1.length ≤ 9223372036854775807) then (kn (v8 ++ r5.1)) else none)) else (bif ((c1.toNat : Int) == (116 : Int)) then (bif hd ([(.int .u8 (IntKind.u8.wrap (A3.length : Int)))] : List AV) (([(.int .u8 (IntKind.u8.wrap (A3.length : Int)))] : List AV).length) then (oB (qb2 ([(.int .u8 (IntKind.u8.wrap (A3.length : Int)))] : List AV)) fun s6 => (bif decide (s6.length + A3.length ≤ 9223372036854775807) then (bif decide (v8.length + (s6 ++ A3).length ≤ 9223372036854775807) then (kn (v8 ++ (s6 ++ A3))) else none) else none)) else none) else (bif ((c1.toNat : Int) == (114 : Int)) then (bif decide (v8.length + A3.length ≤ 9223372036854775807) then (kn (v8 ++ A3)) else none) else (bif ((c1.toNat : Int) == (115 : Int)) then (bif decide (v8.length + ([253] : List UInt8).length ≤ 9223372036854775807) then (kn (v8 ++ ([253] : List UInt8))) else none) else (bif ((c1.toNat : Int) == (110 : Int)) then none else (bif ((c1.toNat : Int) == (65 : Int)) then (oB (qw A4 (2 : Int)) fun r23 => (bif decide (v8.length + r23.length ≤ 9223372036854775807) then (kn (v8 ++ r23)) else none)) else (bif ((c1.toNat : Int) == (66 : Int)) then (oB (qw A5 (2 : Int)) fun r22 => (bif decide (v8.length + r22.length ≤ 9223372036854775807) then (kn (v8 ++ r22)) else none)) else (bif ((c1.toNat : Int) == (67 : Int)) then (oB (qw A6 (2 : Int)) fun r21 => (bif decide (v8.length + r21.length ≤ 9223372036854775807) then (kn (v8 ++ r21)) else none)) else (bif ((c1.toNat : Int) == (68 : Int)) then (oB (qw A7 (2 : Int)) fun r20 => (bif decide (v8.length + r20.length ≤ 9223372036854775807) then (kn (v8 ++ r20)) else none)) else (bif ((c1.toNat : Int) == (69 : Int)) then (oB (qw A8 (2 : Int)) fun r19 => (bif decide (v8.length + r19.length ≤ 9223372036854775807) then (kn (v8 ++ r19)) else none)) else (bif ((c1.toNat : Int) == (70 : Int)) then (oB (qw A9 (2 : Int)) fun r18 => (bif decide (v8.length + r18.length ≤ 9223372036854775807) then (kn (v8 ++ r18)) else none)) else (bif ((c1.toNat : Int) == (97 : Int)) then (oB (qw A4 (1 : Int)) fun r17 => (bif decide (v8.length + r17.length ≤ 9223372036854775807) then (kn (v8 ++ r17)) else none)) else (bif ((c1.toNat : Int) == (98 : Int)) then (oB (qw A5 (1 : Int)) fun r16 => (bif decide (v8.length + r16.length ≤ 9223372036854775807) then (kn (v8 ++ r16)) else none)) else (bif ((c1.toNat : Int) == (99 : Int)) then (oB (qw A6 (1 : Int)) fun r15 => (bif decide (v8.length + r15.length ≤ 9223372036854775807) then (kn (v8 ++ r15)) else none)) else (bif ((c1.toNat : Int) == (100 : Int)) then (oB (qw A7 (1 : Int)) fun r14 => (bif decide (v8.length + r14.length ≤ 9223372036854775807) then (kn (v8 ++ r14)) else none)) else (bif ((c1.toNat : Int) == (101 : Int)) then (oB (qw A8 (1 : Int)) fun r13 => (bif decide (v8.length + r13.length ≤ 9223372036854775807) then (kn (v8 ++ r13)) else none)) else (bif ((c1.toNat : Int) == (102 : Int)) then (oB (qw A9 (1 : Int)) fun r12 => (bif decide (v8.length + r12.length ≤ 9223372036854775807) then (kn (v8 ++ r12)) else none)) else (bif ((c1.toNat : Int) == (118 : Int)) then (oB (qw A4 (4 : Int)) fun r11 => (bif decide (v8.length + r11.length ≤ 9223372036854775807) then (kn (v8 ++ r11)) else none)) else (bif ((c1.toNat : Int) == (119 : Int)) then (oB (qw A5 (4 : Int)) fun r10 => (bif decide (v8.length + r10.length ≤ 9223372036854775807) then (kn (v8 ++ r10)) else none)) else (bif ((c1.toNat : Int) == (120 : Int)) then (oB (qw A6 (4 : Int)) fun r9 => (bif decide (v8.length + r9.length ≤ 9223372036854775807) then (kn (v8 ++ r9)) else none)) else (bif ((c1.toNat : Int) == (121 : Int)) then (oB (qw A7 (4 : Int)) fun r8 => (bif decide (v8.length + r8.length ≤ 9223372036854775807) then (kn (v8 ++ r8)) else none)) else (bif ((c1.toNat : Int) == (122 : Int)) then (oB (qw A8 (4 : Int)) fun r7 => (bif decide (v8.length + r7.length ≤ 9223372036854775807) then (kn (v8 ++ r7)) else none)) else none)))))))))))))))))))))))))))
def qmd := hull (qhm)
theorem qx0 : qmd = qhm := qb _
def qy1 : SubB Tryz.prog (TIof Tryz.prog) 118 0 (kret [.t 4, .t 5] qja) := jnB tabOk follows Tryz.f55 2863 (.b (.s .z (.s .z (.s .z (.b (.s .z (.s (.r [(3, .c qvq.b)] [.sel [3, 6, 8, 31, 32] [0, 1]]) (.s .z (.s (.r [(3, .c qvq.b)] [.sel [3, 6, 8, 31, 32] [0, 1]]) (.s (.sub [.sel [3, 6, 8, 10, 31, 32, 39] [0, 1]] qy0 []) (.s (.s (.r [(2, .c q6n.b)] []) (.v [.sel [3, 6, 8, 31, 32] [0, 1]])) (.s .z (.s (.v [.sel [3, 6, 8, 31, 32] [0, 1]]) (.s .z (.s (.v [.sel [3, 6, 8, 31, 32] [0, 1]]) (.s .z (.s (.v [.sel [3, 6, 8, 31, 32] [0, 1]]) (.s .z (.s (.s (.r [(2, .c (eK (q58 (f := 77))))] []) .z) (.s (.r [(1, .r (rB q8x))] []) (.r [(5, .c q1s.b)] [.sel [3, 6, 8, 31, 32] [0, 1]]))))))))))))))))))))) S38_ (qhm) (fun f v K => f (v.s 32 0) (v.i 124 0) (v.i 128 0) (v.b 3 0) (v.i 3 1) (v.i 3 2) (v.s 3 3) (v.s 3 4) (v.s 3 5) (v.i 3 6) (v.i 3 7) (v.i 3 8) (v.i 3 9) (v.i 3 10) (v.i 3 11) (v.i 3 12) (v.i 7 0) (v.s 7 1) (v.s 7 2) (qxz (v.i 124 0) (v.i 128 0) (v.b 3 0) (v.i 3 1) (v.i 3 2) (v.s 3 3) (v.s 3 4) (v.s 3 5) (v.i 3 6) (v.i 3 7) (v.i 3 8) (v.i 3 9) (v.i 3 10) (v.i 3 11) (v.i 3 12) (v.i 7 0) (v.s 7 1) (v.s 7 2) K)) (by kernel_rfl) (fun _ _ => (by kernel_rfl))
def qm6  (K : Ex → Env → Mem → Option ((List UInt8) × Int)) := (fun z_v8 => K (.exit 1) (ql [(8, (.str z_v8))]) (qd []))
def qfv  (v8 : List UInt8) (v31 v32 : Int) (Al : Bool) (Am An : Int) (A1 A2 A3 : List UInt8) (A4 A5 A6 A7 A8 A9 Ba Ao : Int) (Ap Aq : List UInt8) (next : (List UInt8) → Int → Option ((List UInt8) × Int)) (kx1 : (List UInt8) → Option ((List UInt8) × Int)) : Option ((List UInt8) × Int) :=
  (bif (decide (v32 < v31)) then (qmd v8 v31 v32 Al Am An A1 A2 A3 A4 A5 A6 A7 A8 A9 Ba Ao Ap Aq (fun v8q1 => (next v8q1 (IntKind.i64.wrap (v32 + (1 : Int)))))) else (kx1 v8))
def qde  (v31 : Int) (Al : Bool) (Am An : Int) (A1 A2 A3 : List UInt8) (A4 A5 A6 A7 A8 A9 Ba Ao : Int) (Ap Aq : List UInt8) (kx1 : (List UInt8) → Option ((List UInt8) × Int)) : Nat → (List UInt8) → Int → Option ((List UInt8) × Int)
  | 0 => (fun _ _ => none)
  | n + 1 => (fun v8 v32 => qfv v8 v31 v32 Al Am An A1 A2 A3 A4 A5 A6 A7 A8 A9 Ba Ao Ap Aq (qde v31 Al Am An A1 A2 A3 A4 A5 A6 A7 A8 A9 Ba Ao Ap Aq kx1 n) kx1)
def qrr := hull (qde)
theorem qx1 : qrr = qde := qb _
def qy2 : SubB Tryz.prog (TIof Tryz.prog) 118 0 (kret [.t 4, .t 5] qja) := lpB tabOk follows Tryz.f55 303 (.s .z (.s (.s .z (.v [.sel [8] []])) (.s (.sub [.sel [3, 6, 8, 31, 32] [0, 1]] qy1 []) (.v [.sel [3, 6, 8, 31, 32] [0, 1]])))) S38_ (qde) (fun f v K n => f (v.i 124 0) (v.b 3 0) (v.i 3 1) (v.i 3 2) (v.s 3 3) (v.s 3 4) (v.s 3 5) (v.i 3 6) (v.i 3 7) (v.i 3 8) (v.i 3 9) (v.i 3 10) (v.i 3 11) (v.i 3 12) (v.i 7 0) (v.s 7 1) (v.s 7 2) (qm6 K) n) (fun v f K => qfv (v.s 32 0) (v.i 124 0) (v.i 128 0) (v.b 3 0) (v.i 3 1) (v.i 3 2) (v.s 3 3) (v.s 3 4) (v.s 3 5) (v.i 3 6) (v.i 3 7) (v.i 3 8) (v.i 3 9) (v.i 3 10) (v.i 3 11) (v.i 3 12) (v.i 7 0) (v.s 7 1) (v.s 7 2) f (qm6 K)) (fun f v => f (v.s 32 0) (v.i 128 0)) (fun k v => (fun z0 z1 => k ((v.us 32 0 z0).ui 128 0 z1))) (by kernel_rfl) (fun _ _ => (by kernel_rfl)) (fun _ _ _ => (by kernel_rfl)) (fun _ _ _ => (by kernel_rfl)) (fun _ _ => (by kernel_rfl)) (fun _ _ _ _ _ => (by kernel_rfl))
def qlg (v0 : Int) (Bb : Bool) (Bc Bd : Int) (Be Bf Bg : List UInt8) (Bh Bi Bj Bl Bm Bn Bo : Int) : Option ((List UInt8) × Int) :=
  (oB (qn2 v0) fun r1 => (bif (!r1.2) then (some (([] : List UInt8), (4 : Int))) else (oB (qq4 v0 Bb Bc Bd Be Bf Bg Bh Bi Bj Bl Bm Bn Bo) fun r2 => (bif (!r2) then (some (([] : List UInt8), (5 : Int))) else (qrr ((gS r1.1.cells 2).length : Int) Bb Bc Bd Be Bf Bg Bh Bi Bj Bl Bm Bn Bo (gI r1.1.cells 0) (gS r1.1.cells 1) (gS r1.1.cells 2) (fun v8q3 => (some (v8q3, (0 : Int)))) FU ([] : List UInt8) (0 : Int))))))
def qsv := hull qlg
theorem q3w : qsv = qlg := qb _
def q4t {R : Type} : EntF Tryz.prog R := entB (nt := 118) (dec := qja) (enc := (fun r => .tup [.str r.1, .int .i64 r.2])) tabOk follows Tryz.func55 [.t 4, .t 5] (hdeN fun _ => rfl) (.s .z (.s (.r [(1, .c qve.b)] []) (.s (.b (.s .z (.s .z (.s (.r [(2, .c q3s.b)] []) .z)))) (.s .z (.s (.s .z (.b (.sub [.sel [3, 6, 8, 31, 32] [0, 1]] qy2 []))) .z))))) S34_ qlg (fun f v => f (v.i 0 0) (v.b 5 0) (v.i 5 1) (v.i 5 2) (v.s 5 3) (v.s 5 4) (v.s 5 5) (v.i 5 6) (v.i 5 7) (v.i 5 8) (v.i 5 9) (v.i 5 10) (v.i 5 11) (v.i 5 12)) (by kernel_rfl) (by kernel_rfl) (by kernel_rfl) fun _ => (by kernel_rfl)
def S39_ : Shp := ⟨[(0, .one (.l .s)), (3, .one (.l (.i .i64))), (4, .one (.l (.i .i64)))], []⟩
def qnz  (K : Ex → Env → Mem → Option Int) := (fun z_v3 => K (.exit 0) (ql [(3, (.int .i64 z_v3))]) (qd []))
def qge  (v0 : List UInt8) (v3 v4 : Int) (next : Int → Int → Option Int) (kx0 : Int → Option Int) : Option Int :=
  (bif (decide (v4 < (v0.length : Int))) then (bif ((v4.tmod (2 : Int)) == (0 : Int)) then (oB (ixB v0 v4) fun c1 => (next (IntKind.i64.wrap (v3 + (IntKind.i64.wrap ((IntKind.i64.wrap (c1.toNat : Int)) * 2 ^ min (8 : Int).toNat IntKind.i64.bits)))) (IntKind.i64.wrap (v4 + (1 : Int))))) else (oB (ixB v0 v4) fun c2 => (next (IntKind.i64.wrap (v3 + (IntKind.i64.wrap (c2.toNat : Int)))) (IntKind.i64.wrap (v4 + (1 : Int)))))) else (kx0 v3))
def qgf  (v0 : List UInt8) (kx0 : Int → Option Int) : Nat → Int → Int → Option Int
  | 0 => (fun _ _ => none)
  | n + 1 => (fun v3 v4 => qge v0 v3 v4 (qgf v0 kx0 n) kx0)
def qud := hull (qgf)
theorem qy3 : qud = qgf := qb _
def qz0 : SubB Tryz.prog (TIof Tryz.prog) 34 0 (kret [.t 2] (decI .i64)) := lpB tabOk follows Tryz.f56 75 (.s (.s .z (.s .z (.v [.sel [3] []]))) (.s .z (.v [.sel [0, 3, 4] []]))) S39_ (qgf) (fun f v K n => f (v.s 0 0) (qnz K) n) (fun v f K => qge (v.s 0 0) (v.i 12 0) (v.i 16 0) f (qnz K)) (fun f v => f (v.i 12 0) (v.i 16 0)) (fun k v => (fun z0 z1 => k ((v.ui 12 0 z0).ui 16 0 z1))) (by kernel_rfl) (fun _ _ => (by kernel_rfl)) (fun _ _ _ => (by kernel_rfl)) (fun _ _ _ => (by kernel_rfl)) (fun _ _ => (by kernel_rfl)) (fun _ _ _ _ _ => (by kernel_rfl))
def qlh (v0 : List UInt8) : Option Int :=
  (qud v0 (fun v3q1 => (some (qeg .and .i64 (IntKind.i64.wrap (v3q1 + (qeg .and .i64 (v3q1.fdiv (2 ^ min (16 : Int).toNat IntKind.i64.bits)) (65535 : Int)))) (65535 : Int)))) FU (0 : Int) (0 : Int))
def qsw := hull qlh
theorem q3x : qsw = qlh := qb _
def q4u {R : Type} : EntF Tryz.prog R := entB (nt := 34) (dec := (decI .i64)) (enc := (AV.int .i64)) tabOk follows Tryz.func56 [.t 2] hdeI (.s .z (.s .z (.s (.s .z (.b (.sub [.sel [0, 3, 4] []] qz0 []))) .z))) S16_ qlh (fun f v => f (v.s 0 0)) (by kernel_rfl) (by kernel_rfl) (by kernel_rfl) fun _ => (by kernel_rfl)
def S40_ : Shp := ⟨[(0, .st (lk qez))], []⟩
def qli (Aa : Bool) (Ab Ac : Int) (Ad Ae Af : List UInt8) (Ag Bp Bq Br Bs Bt Bu : Int) : Option Int :=
  (oB (qsv (48 : Int) Aa Ab Ac Ad Ae Af Ag Bp Bq Br Bs Bt Bu) fun r1 => (bif (r1.2 != (0 : Int)) then (some (0 : Int)) else (oB (qsw r1.1) fun r2 => (some r2))))
def qn3 := hull qli
theorem q3y : qn3 = qli := qb _
def q4v {R : Type} : EntF Tryz.prog R := entB (nt := 14) (dec := (decI .i64)) (enc := (AV.int .i64)) tabOk follows Tryz.func33 [.t 2] hdeI (.s .z (.s (.r [(1, .c q4t.b)] []) (.s .z (.s (.r [(1, .c q4u.b)] []) .z)))) S40_ qli (fun f v => f (v.b 1 0) (v.i 1 1) (v.i 1 2) (v.s 1 3) (v.s 1 4) (v.s 1 5) (v.i 1 6) (v.i 1 7) (v.i 1 8) (v.i 1 9) (v.i 1 10) (v.i 1 11) (v.i 1 12)) (by kernel_rfl) (by kernel_rfl) (by kernel_rfl) fun _ => (by kernel_rfl)
def S41_ : Shp := ⟨[(0, .one (.l (.sl 1))), (1, .one (.l (.i .i64))), (7, .one (.l (.i .i64))), (8, .one (.l (.i .i64)))], []⟩
def S42_ : Shp := ⟨[(0, .one (.l (.sl 1))), (1, .one (.l (.i .i64)))], []⟩
def qhi  (K : Ex → Env → Mem → Option Int) := (fun (_ : Unit) => K (.exit 0) (ql []) (qd []))
def qdo  (v0 : List AV) (v1 v7 v8 : Int) (next : Int → Option Int) (kx0 : Unit → Option Int) : Option Int :=
  (bif (decide (v8 < v7)) then (oB (ixB v0 v8) fun y1 => (bif fitC [(.i .i64)] y1.cells then (bif (v1 == (gI y1.cells 0)) then (some v8) else (next (IntKind.i64.wrap (v8 + (1 : Int))))) else none)) else (kx0 ()))
def qch  (v0 : List AV) (v1 v7 : Int) (kx0 : Unit → Option Int) : Nat → Int → Option Int
  | 0 => (fun _ => none)
  | n + 1 => (fun v8 => qdo v0 v1 v7 v8 (qch v0 v1 v7 kx0 n) kx0)
def qjl := hull (qch)
theorem qnk : qjl = qch := qb _
def qn4 : SubB Tryz.prog (TIof Tryz.prog) 19 0 (kret [.t 4] (decI .i64)) := lpB tabOk follows Tryz.f57 37 (.s .z (.s (.s .z (.v [.sel [] []])) (.s (.b (.s .z (.s (.r [(3, .p (.etac 14 [(.i .i64)]))] []) .z))) (.v [.sel [0, 1, 7, 8] []])))) S41_ (qch) (fun f v K n => f (v.l 0 0) (v.i 4 0) (v.i 28 0) (qhi K) n) (fun v f K => qdo (v.l 0 0) (v.i 4 0) (v.i 28 0) (v.i 32 0) f (qhi K)) (fun f v => f (v.i 32 0)) (fun k v => (fun z0 => k (v.ui 32 0 z0))) (by kernel_rfl) (fun _ _ => (by kernel_rfl)) (fun _ _ _ => (by kernel_rfl)) (fun _ _ _ => (by kernel_rfl)) (fun _ _ => (by kernel_rfl)) (fun _ _ _ _ _ => (by kernel_rfl))
def qe0 (v0 : List AV) (v1 : Int) : Option Int :=
  (qjl v0 v1 (v0.length : Int) (fun (_ : Unit) => (some (-1 : Int))) FU (0 : Int))
def qhn := hull qe0
theorem qpx : qhn = qe0 := qb _
def qq5 {R : Type} : EntF Tryz.prog R := entB (nt := 19) (dec := (decI .i64)) (enc := (AV.int .i64)) tabOk follows Tryz.func57 [.t 4] hdeI (.s .z (.s (.s .z (.b (.sub [.sel [0, 1, 7, 8] []] qn4 []))) .z)) S42_ qe0 (fun f v => f (v.l 0 0) (v.i 4 0)) (by kernel_rfl) (by kernel_rfl) (by kernel_rfl) fun _ => (by kernel_rfl)
def qdp (v0 : List AV) (v1 : Int) : Option Bool :=
  (oB (qhn v0 v1) fun r1 => (some (decide (r1 ≥ (0 : Int)))))
def qf8 := hull qdp
theorem qnl : qf8 = qdp := qb _
def qn5 {R : Type} : EntF Tryz.prog R := entB (nt := 9) (dec := decB) (enc := AV.bool) tabOk follows Tryz.func34 [.t 4] hdeB (.s .z (.s (.r [(2, .c qq5.b)] []) .z)) S42_ qdp (fun f v => f (v.l 0 0) (v.i 4 0)) (by kernel_rfl) (by kernel_rfl) (by kernel_rfl) fun _ => (by kernel_rfl)
def qik (v0 : Int) : Option Bool :=
  (some (v0 != v0))
def qj6 := hull qik
theorem qy4 : qj6 = qik := qb _
def qqf {R : Type} : EntF Tryz.prog R := entB (nt := 6) (dec := decB) (enc := AV.bool) tabOk follows Tryz.func80 [.t 2] hdeB (.z) S27_ qik (fun f v => f (v.i 0 0)) (by kernel_rfl) (by kernel_rfl) (by kernel_rfl) fun _ => (by kernel_rfl)
def qjb (v0 v1 : Int) : Option Bool :=
  (oB (qj6 v0) fun r1 => (bif r1 then (oB (qj6 v1) fun r2 => (some ((!r2) || (decide (v0 < v1))))) else (some (decide (v0 < v1)))))
def qo1 := hull qjb
theorem qz1 : qo1 = qjb := qb _
def q1t {R : Type} : EntF Tryz.prog R := entB (nt := 17) (dec := decB) (enc := AV.bool) tabOk follows Tryz.func58 [.t 4] hdeB (.s .z (.s (.r [(1, .c qqf.b), (4, .c qqf.b), (8, .g 3)] []) .z)) S29_ qjb (fun f v => f (v.i 0 0) (v.i 4 0)) (by kernel_rfl) (by kernel_rfl) (by kernel_rfl) fun _ => (by kernel_rfl)
def S43_ : Shp := ⟨[(0, .one (.l (.sl 1))), (3, .one (.l (.i .i64)))], []⟩
def S44_ : Shp := ⟨[(0, .one (.l (.sl 1)))], []⟩
def qgg  (K : Ex → Env → Mem → Option Bool) := (fun (_ : Unit) => K (.exit 0) (ql []) (qd []))
def qev  (v0 : List AV) (v3 : Int) (next : Int → Option Bool) (kx0 : Unit → Option Bool) : Option Bool :=
  (bif (decide (v3 > (0 : Int))) then (oB (ixB v0 v3) fun y1 => (bif fitC [(.i .i64)] y1.cells then (oB (ixB v0 (IntKind.i64.wrap (v3 - (1 : Int)))) fun y2 => (bif fitC [(.i .i64)] y2.cells then (oB (qo1 (gI y1.cells 0) (gI y2.cells 0)) fun r3 => (bif r3 then (some false) else (next (IntKind.i64.wrap (v3 - (1 : Int)))))) else none)) else none)) else (kx0 ()))
def qz  (v0 : List AV) (kx0 : Unit → Option Bool) : Nat → Int → Option Bool
  | 0 => (fun _ => none)
  | n + 1 => (fun v3 => qev v0 v3 (qz v0 kx0 n) kx0)
def qh2 := hull (qz)
theorem qlx : qh2 = qz := qb _
def qme : SubB Tryz.prog (TIof Tryz.prog) 21 0 (kret [.t 2] decB) := lpB tabOk follows Tryz.f36 37 (.s (.s .z (.s .z (.v [.sel [] []]))) (.s (.b (.s (.d [] [(2, .e 13 [(.i .i64)]), (7, .e 18 [(.i .i64)])] [(0, .c q1t.b)] []) .z)) (.v [.sel [0, 3] []]))) S43_ (qz) (fun f v K n => f (v.l 0 0) (qgg K) n) (fun v f K => qev (v.l 0 0) (v.i 12 0) f (qgg K)) (fun f v => f (v.i 12 0)) (fun k v => (fun z0 => k (v.ui 12 0 z0))) (by kernel_rfl) (fun _ _ => (by kernel_rfl)) (fun _ _ _ => (by kernel_rfl)) (fun _ _ _ => (by kernel_rfl)) (fun _ _ => (by kernel_rfl)) (fun _ _ _ _ _ => (by kernel_rfl))
def qdq (v0 : List AV) : Option Bool :=
  (qh2 v0 (fun (_ : Unit) => (some true)) FU (IntKind.i64.wrap ((v0.length : Int) - (1 : Int))))
def qef := hull qdq
theorem qnm : qef = qdq := qb _
def qn6 {R : Type} : EntF Tryz.prog R := entB (nt := 21) (dec := decB) (enc := AV.bool) tabOk follows Tryz.func36 [.t 2] hdeB (.s .z (.s (.s .z (.b (.sub [.sel [0, 3] []] qme []))) .z)) S44_ qdq (fun f v => f (v.l 0 0)) (by kernel_rfl) (by kernel_rfl) (by kernel_rfl) fun _ => (by kernel_rfl)
def qcl (x0 : List UInt8) (x1 : Bool) (x2 x3 x4 x5 x6 : Int) : List AV := [.str x0, .bool x1, .int .i64 x2, .int .i64 x3, .int .i64 x4, .int .i64 x5, .int .i64 x6]
def S45_ : Shp := ⟨[(0, .one (.l (.sl 7))), (3, .one (.own 0)), (5, .one (.ptr 1 0)), (6, .one (.ptr 2 0)), (7, .one (.l (.i .i64))), (13, .one (.l (.sl 7))), (14, .one (.l (.i .i64))), (15, .one (.l (.i .i64)))], [.arr true 1, .box true (lk qc), .box true (lk qez)]⟩
def S46_ : Shp := ⟨[(0, .one (.l (.sl 7))), (3, .one (.own 0)), (13, .one (.l (.sl 7))), (14, .one (.l (.i .i64))), (15, .one (.l (.i .i64)))], [.arr true 1]⟩
def qrs  (v0 v13 : List AV) (v14 v15 : Int) (a0 : List AV) (Ao : List UInt8) (Ap : Bool) (Aq Ar As At Au : Int) (Bv : Bool) (Bw Bx : Int) (By Bz B0 : List UInt8) (B1 B2 B3 B4 B5 B6 B7 : Int) (K : Ex → Env → Mem → Option Int) := (fun z_v37 => K .norm (ql [(0, (.sl 7 v0)), (3, (.own 0 a0.length)), (5, (.ptr 1 0)), (6, (.ptr 2 0)), (13, (.sl 7 v13)), (14, (.int .i64 v14)), (15, (.int .i64 v15)), (37, (.bool z_v37))]) (qd [(some (.arr true 1 a0)), (some (.box true (qcl Ao Ap Aq Ar As At Au))), (some (.box true (qfa Bv Bw Bx By Bz B0 B1 B2 B3 B4 B5 B6 B7)))]))
def qfi  (v0 : List AV) (v7 : Int) (v13 : List AV) (v14 v15 : Int) (a0 : List AV) (Ao : List UInt8) (Ap : Bool) (Aq Ar As At Au : Int) (Bv : Bool) (Bw Bx : Int) (By Bz B0 : List UInt8) (B1 B2 B3 B4 B5 B6 B7 : Int) (kn : Bool → Option Int) : Option Int :=
  (bif (v7 != (0 : Int)) then (kn true) else (oB (ixB v0 (0 : Int)) fun y1 => (bif fitC qc y1.cells then (kn (!(Ao == (gS y1.cells 0)))) else none)))
def qm7 := hull (qfi)
theorem qrt : qm7 = qfi := qb _
def qsx : SubB Tryz.prog (TIof Tryz.prog) 63 0 (kret [.t 2] (decI .i64)) := jnB tabOk follows Tryz.f16 39319 (.d [] [(7, .e 32 qc)] [] [.sel [0, 3, 5, 6, 13, 14, 15, 37] [0, 1, 2]]) S45_ (qfi) (fun f v K => f (v.l 0 0) (v.i 28 0) (v.l 52 0) (v.i 56 0) (v.i 60 0) (v.r 0) (v.s 7 0) (v.b 7 1) (v.i 7 2) (v.i 7 3) (v.i 7 4) (v.i 7 5) (v.i 7 6) (v.b 11 0) (v.i 11 1) (v.i 11 2) (v.s 11 3) (v.s 11 4) (v.s 11 5) (v.i 11 6) (v.i 11 7) (v.i 11 8) (v.i 11 9) (v.i 11 10) (v.i 11 11) (v.i 11 12) (qrs (v.l 0 0) (v.l 52 0) (v.i 56 0) (v.i 60 0) (v.r 0) (v.s 7 0) (v.b 7 1) (v.i 7 2) (v.i 7 3) (v.i 7 4) (v.i 7 5) (v.i 7 6) (v.b 11 0) (v.i 11 1) (v.i 11 2) (v.s 11 3) (v.s 11 4) (v.s 11 5) (v.i 11 6) (v.i 11 7) (v.i 11 8) (v.i 11 9) (v.i 11 10) (v.i 11 11) (v.i 11 12) K)) (by kernel_rfl) (fun _ _ => (by kernel_rfl))
def qjw  (K : Ex → Env → Mem → Option Int) := (fun (_ : Unit) => K (.exit 0) (ql []) (qd []))
def qd0  (v0 v13 : List AV) (v14 v15 : Int) (a0 : List AV) (next : Int → (List AV) → Option Int) (kx0 : Unit → Option Int) : Option Int :=
  (bif (decide (v15 < v14)) then (oB (ixB v13 v15) fun y1 => (bif fitC qc y1.cells then (oB (qq2 (gS y1.cells 0) (gB y1.cells 1) (gI y1.cells 2)) fun r2 => (bif (hd a0 (a0.length) && true) then (qm7 v0 r2.2 v13 v14 v15 a0 (gS y1.cells 0) (gB y1.cells 1) (gI y1.cells 2) (gI y1.cells 3) (gI y1.cells 4) (gI y1.cells 5) (gI y1.cells 6) (gB r2.1.cells 0) (gI r2.1.cells 1) (gI r2.1.cells 2) (gS r2.1.cells 3) (gS r2.1.cells 4) (gS r2.1.cells 5) (gI r2.1.cells 6) (gI r2.1.cells 7) (gI r2.1.cells 8) (gI r2.1.cells 9) (gI r2.1.cells 10) (gI r2.1.cells 11) (gI r2.1.cells 12) (fun v37q3 => (bif v37q3 then (some (18 : Int)) else (oB (qn3 (gB r2.1.cells 0) (gI r2.1.cells 1) (gI r2.1.cells 2) (gS r2.1.cells 3) (gS r2.1.cells 4) (gS r2.1.cells 5) (gI r2.1.cells 6) (gI r2.1.cells 7) (gI r2.1.cells 8) (gI r2.1.cells 9) (gI r2.1.cells 10) (gI r2.1.cells 11) (gI r2.1.cells 12)) fun r4 => (bif hd a0 a0.length then (oB (qf8 a0 r4) fun r5 => (bif r5 then (some (18 : Int)) else (bif hd a0 a0.length then (bif hd ([(.int .i64 r4)] : List AV) (([(.int .i64 r4)] : List AV).length) then (bif decide ((a0.length + ([(.int .i64 r4)] : List AV).length) * 8 ≤ 140737488355328) then (oB (qet (gS y1.cells 0) (gB y1.cells 1) (gI y1.cells 2) (gI y1.cells 3) (gI y1.cells 4) (gI y1.cells 5) (gI y1.cells 6)) fun r6 => (bif (decide ((gI r6.cells 0) < (0 : Int))) then (some (20 : Int)) else (oB (qef ([(.int .i64 (gI r6.cells 0)), (.int .i64 (gI r6.cells 1)), (.int .i64 (gI r6.cells 2)), (.int .i64 (gI r6.cells 3))] : List AV)) fun r7 => (bif ((!r7) || (decide ((gI r6.cells 3) > (4294967295 : Int)))) then (some (20 : Int)) else (next (IntKind.i64.wrap (v15 + (1 : Int))) (a0 ++ ([(.int .i64 r4)] : List AV))))))) else none) else none) else none))) else none))))) else none)) else none)) else (kx0 ()))
def qd1  (v0 v13 : List AV) (v14 : Int) (kx0 : Unit → Option Int) : Nat → Int → (List AV) → Option Int
  | 0 => (fun _ _ => none)
  | n + 1 => (fun v15 a0 => qd0 v0 v13 v14 v15 a0 (qd1 v0 v13 v14 kx0 n) kx0)
def qm8 := hull (qd1)
theorem qru : qm8 = qd1 := qb _
def qsy : SubB Tryz.prog (TIof Tryz.prog) 63 0 (kret [.t 2] (decI .i64)) := lpB tabOk follows Tryz.f16 151 (.s .z (.s (.s .z (.v [.sel [] []])) (.s (.b (.s (.r [(0, .p (.etac 17 qc))] []) (.s (.r [(2, .c q3o.b)] []) (.s (.s (.sub [.sel [0, 3, 5, 6, 7, 13, 14, 15] [0, 1, 2]] qsx []) .z) (.s (.r [(1, .c q4v.b)] []) (.s (.s (.r [(2, .c qn5.b)] []) .z) (.s .z (.s (.r [(1, .c qkd.b)] []) (.s (.r [(5, .c qn6.b), (9, .g 3)] []) .z))))))))) (.v [.sel [0, 3, 13, 14, 15] [0]])))) S46_ (qd1) (fun f v K n => f (v.l 0 0) (v.l 52 0) (v.i 56 0) (qjw K) n) (fun v f K => qd0 (v.l 0 0) (v.l 52 0) (v.i 56 0) (v.i 60 0) (v.r 0) f (qjw K)) (fun f v => f (v.i 60 0) (v.r 0)) (fun k v => (fun z0 z1 => k ((v.ui 60 0 z0).ur 0 z1))) (by kernel_rfl) (fun _ _ => (by kernel_rfl)) (fun _ _ _ => (by kernel_rfl)) (fun _ _ _ => (by kernel_rfl)) (fun _ _ => (by kernel_rfl)) (fun _ _ _ _ _ => (by kernel_rfl))
def qho (v0 : List AV) : Option Int :=
  (bif (decide ((v0.length : Int) > (16 : Int))) then (some (9 : Int)) else (bif (hd ([] : List AV) (([] : List AV).length) && true) then (qm8 v0 v0 (v0.length : Int) (fun (_ : Unit) => (some (0 : Int))) FU (0 : Int) ([] : List AV)) else none))
def qcr := hull qho
theorem qx2 : qcr = qho := qb _
def qfw {R : Type} : EntF Tryz.prog R := entB (nt := 63) (dec := (decI .i64)) (enc := (AV.int .i64)) tabOk follows Tryz.func16 [.t 2] hdeI (.s .z (.s .z (.s .z (.s (.s .z (.b (.sub [.own 3 1, .sel [0, 3, 13, 14, 15] [0]] qsy []))) .z)))) S1_ qho (fun f v => f (v.l 0 0)) (by kernel_rfl) (by kernel_rfl) (by kernel_rfl) fun _ => (by kernel_rfl)
def S68_ : Shp := ⟨[(0, .st (lk qc)), (1, .one (.l (.i .i64)))], []⟩
def qhp (Aa : List UInt8) (Ab : Bool) (Ac Ad Ae Af Ag v1 : Int) : Option Bool :=
  (some ((decide (Ad ≤ v1)) && (decide (v1 < Ag))))
def qgh := hull qhp
theorem qrv : qgh = qhp := qb _
def qlj {R : Type} : EntF Tryz.prog R := entB (nt := 15) (dec := decB) (enc := AV.bool) tabOk follows Tryz.func39 [.t 4] hdeB (.s .z (.s (.r [(5, .g 4)] []) .z)) S68_ qhp (fun f v => f (v.s 1 0) (v.b 1 1) (v.i 1 2) (v.i 1 3) (v.i 1 4) (v.i 1 5) (v.i 1 6) (v.i 4 0)) (by kernel_rfl) (by kernel_rfl) (by kernel_rfl) fun _ => (by kernel_rfl)
def S70_ : Shp := ⟨[(0, .st (lk qc)), (1, .one (.ptr 0 0))], [.box true [(.l (.i .i64))], .arr true 3, .box true (lk qc)]⟩
def qn7 {R : Type} (KK : AV → Mem → Option R) := (fun v3 Al a1 Bv Bw Bx By Bz B0 B1 => KK (.bool v3) (qd [(some (.box true [(.int .i64 Al)])), (some (.arr true 3 a1)), (some (.box true (qcl Bv Bw Bx By Bz B0 B1)))]))
def qd2 {R : Type}  (Aa : List UInt8) (Ab : Bool) (Ac Ad Ae Af Ag Al : Int) (a1 : List AV) (Bv : List UInt8) (Bw : Bool) (Bx By Bz B0 B1 : Int) (kr : Bool → Int → (List AV) → (List UInt8) → Bool → Int → Int → Int → Int → Int → Option R) : Option R :=
  (oB (qgh Aa Ab Ac Ad Ae Af Ag Al) fun r1 => (kr r1 Al a1 Bv Bw Bx By Bz B0 B1))
def qgt {R : Type} := hull (qd2 (R := R))
theorem qn8 {R : Type} : qgt (R := R) = qd2 := qb _
def qo2 {R : Type} : RefB Tryz.prog R := refB (nt := 7) (nb := 3) tabOk follows Tryz.func38 [.t 3] (fun KK => .s .z (.s (.r [(2, .c qlj.b)] []) (.v [.sel [3] [0, 1, 2]]))) S70_ (qd2 (R := R)) (fun f v KK => f (v.s 1 0) (v.b 1 1) (v.i 1 2) (v.i 1 3) (v.i 1 4) (v.i 1 5) (v.i 1 6) (v.i 3 0) (v.r 1) (v.s 11 0) (v.b 11 1) (v.i 11 2) (v.i 11 3) (v.i 11 4) (v.i 11 5) (v.i 11 6) (qn7 KK)) (by kernel_rfl) (by kernel_rfl) (fun _ => (by kernel_rfl)) rfl fun _ _ => (by kernel_rfl)
def S71_ : Shp := ⟨[(1, .one (.fn 38 [(0, 0)])), (5, .one (.own 1)), (8, .one (.l (.sl 7))), (9, .one (.l (.i .i64))), (10, .one (.l (.i .i64)))], [.box true [(.l (.i .i64))], .arr true 3]⟩
def S72_ : Shp := ⟨[(0, .one (.l (.sl 7))), (1, .one (.fn 38 [(0, 0)]))], [.box true [(.l (.i .i64))]]⟩
def qdl {R : Type}  (K : Ex → Env → Mem → Option R) := (fun z_b0_0 z_a1 => K (.exit 0) (ql [(5, (.own 1 z_a1.length))]) (qd [(some (.box true [(.int .i64 z_b0_0)])), (some (.arr true 3 z_a1))]))
def qba {R : Type}  (v8 : List AV) (v9 v10 Al : Int) (a1 : List AV) (next : Int → Int → (List AV) → Option R) (kx0 : Int → (List AV) → Option R) : Option R :=
  (bif (decide (v10 < v9)) then (oB (ixB v8 v10) fun y1 => (bif fitC qc y1.cells then (qgt (gS y1.cells 0) (gB y1.cells 1) (gI y1.cells 2) (gI y1.cells 3) (gI y1.cells 4) (gI y1.cells 5) (gI y1.cells 6) Al a1 (gS y1.cells 0) (gB y1.cells 1) (gI y1.cells 2) (gI y1.cells 3) (gI y1.cells 4) (gI y1.cells 5) (gI y1.cells 6) fun v3q2 b0_0q3 a1q4 b2_0q5 b2_1q6 b2_2q7 b2_3q8 b2_4q9 b2_5q10 b2_6q11 => (bif v3q2 then (bif hd a1q4 a1.length then (bif hd ([(.agg [(.str b2_0q5), (.bool b2_1q6), (.int .i64 b2_2q7)])] : List AV) (([(.agg [(.str b2_0q5), (.bool b2_1q6), (.int .i64 b2_2q7)])] : List AV).length) then (bif decide ((a1q4.length + ([(.agg [(.str b2_0q5), (.bool b2_1q6), (.int .i64 b2_2q7)])] : List AV).length) * 32 ≤ 140737488355328) then (bif hd (a1q4 ++ ([(.agg [(.str b2_0q5), (.bool b2_1q6), (.int .i64 b2_2q7)])] : List AV)) ((a1q4 ++ ([(.agg [(.str b2_0q5), (.bool b2_1q6), (.int .i64 b2_2q7)])] : List AV)).length) then (next (IntKind.i64.wrap (v10 + (1 : Int))) b0_0q3 (a1q4 ++ ([(.agg [(.str b2_0q5), (.bool b2_1q6), (.int .i64 b2_2q7)])] : List AV))) else none) else none) else none) else none) else (bif hd a1q4 a1.length then (next (IntKind.i64.wrap (v10 + (1 : Int))) b0_0q3 a1q4) else none))) else none)) else (kx0 Al a1))
def qbb {R : Type}  (v8 : List AV) (v9 : Int) (kx0 : Int → (List AV) → Option R) : Nat → Int → Int → (List AV) → Option R
  | 0 => (fun _ _ _ => none)
  | n + 1 => (fun v10 Al a1 => qba v8 v9 v10 Al a1 (qbb v8 v9 kx0 n) kx0)
def qek {R : Type} := hull (qbb (R := R))
theorem qhh {R : Type} : qek (R := R) = qbb := qb _
def qhq {R : Type} (KK : AV → Mem → Option R) : SubB Tryz.prog (TIof Tryz.prog) 24 1 (qe9 [.t 4] KK) := lpB tabOk follows Tryz.f37 75 (.s .z (.s (.s .z (.v [.sel [5] [0, 1]])) (.s (.b (.s (.r [(0, .p (.etac 12 qc))] []) (.s (.r [(2, .s (.sel [1, 5, 7, 8, 9, 10, 14, 15] [0, 1, 2])), (2, .r qo2)] []) .z))) (.v [.hd 5, .sel [1, 5, 8, 9, 10] [0, 1]])))) S71_ (qbb (R := R)) (fun f v K n => f (v.l 32 0) (v.i 36 0) (qdl K) n) (fun v f K => qba (v.l 32 0) (v.i 36 0) (v.i 40 0) (v.i 3 0) (v.r 1) f (qdl K)) (fun f v => f (v.i 40 0) (v.i 3 0) (v.r 1)) (fun k v => (fun z0 z1 z2 => k (((v.ui 40 0 z0).ui 3 0 z1).ur 1 z2))) (by kernel_rfl) (fun _ _ => (by kernel_rfl)) (fun _ _ _ => (by kernel_rfl)) (fun _ _ _ => (by kernel_rfl)) (fun _ _ => (by kernel_rfl)) (fun _ _ _ _ _ => (by kernel_rfl))
def qic {R : Type} (KK : AV → Mem → Option R) := (fun Al a1 => KK (.own 1 a1.length) (qd [(some (.box true [(.int .i64 Al)])), (some (.arr true 3 a1))]))
def qbv {R : Type}  (v0 : List AV) (Al : Int) (kr : Int → (List AV) → Option R) : Option R :=
  (bif (hd ([] : List AV) (([] : List AV).length) && true) then (qek v0 (v0.length : Int) (fun b0_0q1 a1q2 => (kr b0_0q1 a1q2)) FU (0 : Int) Al ([] : List AV)) else none)
def qcs {R : Type} := hull (qbv (R := R))
theorem qid {R : Type} : qcs (R := R) = qbv := qb _
def qiq {R : Type} : RefB Tryz.prog R := refB (nt := 24) (nb := 1) tabOk follows Tryz.func37 [.t 4] (fun KK => .s .z (.s .z (.s (.s .z (.b (.sub [.own 5 3, .sel [1, 5, 8, 9, 10] [0, 1]] (qhq KK) []))) (.s .z (.v [.sel [4] [0, 1]]))))) S72_ (qbv (R := R)) (fun f v KK => f (v.l 0 0) (v.i 3 0) (qic KK)) (by kernel_rfl) (by kernel_rfl) (fun _ => (by kernel_rfl)) rfl fun _ _ => (by kernel_rfl)
def qfj (v0 : List AV) (v1 : Int) : Option (List AV) :=
  (qcs v0 v1 fun b0_0q1 a1q2 => (bif hd a1q2 a1q2.length then (some a1q2) else none))
def qb9 := hull qfj
theorem qrw : qb9 = qfj := qb _
def qfk {R : Type} : EntF Tryz.prog R := entB (nt := 8) (dec := (decF true 3)) (enc := (AV.fr true 3)) tabOk follows Tryz.func19 [.t 4] hdeF (.s .z (.s (.r [(2, .s (.sel [5, 6] [0])), (2, .r qiq)] []) .z)) S6_ qfj (fun f v => f (v.l 0 0) (v.i 4 0)) (by kernel_rfl) (by kernel_rfl) (by kernel_rfl) fun _ => (by kernel_rfl)
def S74_ : Shp := ⟨[(0, .one (.l (.sl 3))), (1, .one (.l (.sl 3))), (12, .one (.l (.i .i64))), (13, .one (.l (.i .i64)))], []⟩
def S75_ : Shp := ⟨[(0, .one (.l (.sl 3))), (1, .one (.l (.sl 3)))], []⟩
def qkp  (K : Ex → Env → Mem → Option Bool) := (fun (_ : Unit) => K (.exit 0) (ql []) (qd []))
def qel  (v0 v1 : List AV) (v12 v13 : Int) (next : Int → Option Bool) (kx0 : Unit → Option Bool) : Option Bool :=
  (bif (decide (v13 < v12)) then (oB (ixB v0 v13) fun y1 => (bif fitC qb8 y1.cells then (oB (ixB v1 v13) fun y2 => (bif fitC qb8 y2.cells then (bif (!(((gS y1.cells 0) == (gS y2.cells 0)) && (((gB y1.cells 1) == (gB y2.cells 1)) && (((gI y1.cells 2) == (gI y2.cells 2)) && true)))) then (some false) else (next (IntKind.i64.wrap (v13 + (1 : Int))))) else none)) else none)) else (kx0 ()))
def qem  (v0 v1 : List AV) (v12 : Int) (kx0 : Unit → Option Bool) : Nat → Int → Option Bool
  | 0 => (fun _ => none)
  | n + 1 => (fun v13 => qel v0 v1 v12 v13 (qem v0 v1 v12 kx0 n) kx0)
def qn0 := hull (qem)
theorem qsz : qn0 = qem := qb _
def qut : SubB Tryz.prog (TIof Tryz.prog) 26 0 (kret [.t 4] decB) := lpB tabOk follows Tryz.f18 75 (.s .z (.s (.s .z (.v [.sel [] []])) (.s (.b (.s .z (.s (.d [] [(2, .e 18 qb8), (6, .e 22 qb8)] [] []) .z))) (.v [.sel [0, 1, 12, 13] []])))) S74_ (qem) (fun f v K n => f (v.l 0 0) (v.l 4 0) (v.i 48 0) (qkp K) n) (fun v f K => qel (v.l 0 0) (v.l 4 0) (v.i 48 0) (v.i 52 0) f (qkp K)) (fun f v => f (v.i 52 0)) (fun k v => (fun z0 => k (v.ui 52 0 z0))) (by kernel_rfl) (fun _ _ => (by kernel_rfl)) (fun _ _ _ => (by kernel_rfl)) (fun _ _ _ => (by kernel_rfl)) (fun _ _ => (by kernel_rfl)) (fun _ _ _ _ _ => (by kernel_rfl))
def qil (v0 v1 : List AV) : Option Bool :=
  (bif ((v0.length : Int) != (v1.length : Int)) then (some false) else (qn0 v0 v1 (v0.length : Int) (fun (_ : Unit) => (some true)) FU (0 : Int)))
def qj7 := hull qil
theorem qy5 : qj7 = qil := qb _
def qqg {R : Type} : EntF Tryz.prog R := entB (nt := 26) (dec := decB) (enc := AV.bool) tabOk follows Tryz.func18 [.t 4] hdeB (.s .z (.s .z (.s (.s .z (.b (.sub [.sel [0, 1, 12, 13] []] qut []))) .z))) S75_ qil (fun f v => f (v.l 0 0) (v.l 4 0)) (by kernel_rfl) (by kernel_rfl) (by kernel_rfl) fun _ => (by kernel_rfl)
def qke (Aa : List UInt8) (Ab : Bool) (Ac Ad Ae Af Ag v1 : Int) : Option Bool :=
  (some ((decide (Ae ≤ v1)) && (decide (v1 < Af))))
def qfq := hull qke
theorem qx3 : qfq = qke := qb _
def qhr {R : Type} : EntF Tryz.prog R := entB (nt := 15) (dec := decB) (enc := AV.bool) tabOk follows Tryz.func41 [.t 4] hdeB (.s .z (.s (.r [(5, .g 4)] []) .z)) S68_ qke (fun f v => f (v.s 1 0) (v.b 1 1) (v.i 1 2) (v.i 1 3) (v.i 1 4) (v.i 1 5) (v.i 1 6) (v.i 4 0)) (by kernel_rfl) (by kernel_rfl) (by kernel_rfl) fun _ => (by kernel_rfl)
def qpy {R : Type} (KK : AV → Mem → Option R) := (fun v3 Al a1 Bv Bw Bx By Bz B0 B1 => KK (.bool v3) (qd [(some (.box true [(.int .i64 Al)])), (some (.arr true 3 a1)), (some (.box true (qcl Bv Bw Bx By Bz B0 B1)))]))
def qe1 {R : Type}  (Aa : List UInt8) (Ab : Bool) (Ac Ad Ae Af Ag Al : Int) (a1 : List AV) (Bv : List UInt8) (Bw : Bool) (Bx By Bz B0 B1 : Int) (kr : Bool → Int → (List AV) → (List UInt8) → Bool → Int → Int → Int → Int → Int → Option R) : Option R :=
  (oB (qfq Aa Ab Ac Ad Ae Af Ag Al) fun r1 => (kr r1 Al a1 Bv Bw Bx By Bz B0 B1))
def qhs {R : Type} := hull (qe1 (R := R))
theorem qpz {R : Type} : qhs (R := R) = qe1 := qb _
def qq6 {R : Type} : RefB Tryz.prog R := refB (nt := 7) (nb := 3) tabOk follows Tryz.func40 [.t 3] (fun KK => .s .z (.s (.r [(2, .c qhr.b)] []) (.v [.sel [3] [0, 1, 2]]))) S70_ (qe1 (R := R)) (fun f v KK => f (v.s 1 0) (v.b 1 1) (v.i 1 2) (v.i 1 3) (v.i 1 4) (v.i 1 5) (v.i 1 6) (v.i 3 0) (v.r 1) (v.s 11 0) (v.b 11 1) (v.i 11 2) (v.i 11 3) (v.i 11 4) (v.i 11 5) (v.i 11 6) (qpy KK)) (by kernel_rfl) (by kernel_rfl) (fun _ => (by kernel_rfl)) rfl fun _ _ => (by kernel_rfl)
def S76_ : Shp := ⟨[(1, .one (.fn 40 [(0, 0)])), (5, .one (.own 1)), (8, .one (.l (.sl 7))), (9, .one (.l (.i .i64))), (10, .one (.l (.i .i64)))], [.box true [(.l (.i .i64))], .arr true 3]⟩
def S77_ : Shp := ⟨[(0, .one (.l (.sl 7))), (1, .one (.fn 40 [(0, 0)]))], [.box true [(.l (.i .i64))]]⟩
def qd3 {R : Type}  (K : Ex → Env → Mem → Option R) := (fun z_b0_0 z_a1 => K (.exit 0) (ql [(5, (.own 1 z_a1.length))]) (qd [(some (.box true [(.int .i64 z_b0_0)])), (some (.arr true 3 z_a1))]))
def qbe {R : Type}  (v8 : List AV) (v9 v10 Al : Int) (a1 : List AV) (next : Int → Int → (List AV) → Option R) (kx0 : Int → (List AV) → Option R) : Option R :=
  (bif (decide (v10 < v9)) then (oB (ixB v8 v10) fun y1 => (bif fitC qc y1.cells then (qhs (gS y1.cells 0) (gB y1.cells 1) (gI y1.cells 2) (gI y1.cells 3) (gI y1.cells 4) (gI y1.cells 5) (gI y1.cells 6) Al a1 (gS y1.cells 0) (gB y1.cells 1) (gI y1.cells 2) (gI y1.cells 3) (gI y1.cells 4) (gI y1.cells 5) (gI y1.cells 6) fun v3q2 b0_0q3 a1q4 b2_0q5 b2_1q6 b2_2q7 b2_3q8 b2_4q9 b2_5q10 b2_6q11 => (bif v3q2 then (bif hd a1q4 a1.length then (bif hd ([(.agg [(.str b2_0q5), (.bool b2_1q6), (.int .i64 b2_2q7)])] : List AV) (([(.agg [(.str b2_0q5), (.bool b2_1q6), (.int .i64 b2_2q7)])] : List AV).length) then (bif decide ((a1q4.length + ([(.agg [(.str b2_0q5), (.bool b2_1q6), (.int .i64 b2_2q7)])] : List AV).length) * 32 ≤ 140737488355328) then (bif hd (a1q4 ++ ([(.agg [(.str b2_0q5), (.bool b2_1q6), (.int .i64 b2_2q7)])] : List AV)) ((a1q4 ++ ([(.agg [(.str b2_0q5), (.bool b2_1q6), (.int .i64 b2_2q7)])] : List AV)).length) then (next (IntKind.i64.wrap (v10 + (1 : Int))) b0_0q3 (a1q4 ++ ([(.agg [(.str b2_0q5), (.bool b2_1q6), (.int .i64 b2_2q7)])] : List AV))) else none) else none) else none) else none) else (bif hd a1q4 a1.length then (next (IntKind.i64.wrap (v10 + (1 : Int))) b0_0q3 a1q4) else none))) else none)) else (kx0 Al a1))
def qbf {R : Type}  (v8 : List AV) (v9 : Int) (kx0 : Int → (List AV) → Option R) : Nat → Int → Int → (List AV) → Option R
  | 0 => (fun _ _ _ => none)
  | n + 1 => (fun v10 Al a1 => qbe v8 v9 v10 Al a1 (qbf v8 v9 kx0 n) kx0)
def qe7 {R : Type} := hull (qbf (R := R))
theorem qh3 {R : Type} : qe7 (R := R) = qbf := qb _
def qie {R : Type} (KK : AV → Mem → Option R) : SubB Tryz.prog (TIof Tryz.prog) 24 1 (qe9 [.t 4] KK) := lpB tabOk follows Tryz.f37 75 (.s .z (.s (.s .z (.v [.sel [5] [0, 1]])) (.s (.b (.s (.r [(0, .p (.etac 12 qc))] []) (.s (.r [(2, .s (.sel [1, 5, 7, 8, 9, 10, 14, 15] [0, 1, 2])), (2, .r qq6)] []) .z))) (.v [.hd 5, .sel [1, 5, 8, 9, 10] [0, 1]])))) S76_ (qbf (R := R)) (fun f v K n => f (v.l 32 0) (v.i 36 0) (qd3 K) n) (fun v f K => qbe (v.l 32 0) (v.i 36 0) (v.i 40 0) (v.i 3 0) (v.r 1) f (qd3 K)) (fun f v => f (v.i 40 0) (v.i 3 0) (v.r 1)) (fun k v => (fun z0 z1 z2 => k (((v.ui 40 0 z0).ui 3 0 z1).ur 1 z2))) (by kernel_rfl) (fun _ _ => (by kernel_rfl)) (fun _ _ _ => (by kernel_rfl)) (fun _ _ _ => (by kernel_rfl)) (fun _ _ => (by kernel_rfl)) (fun _ _ _ _ _ => (by kernel_rfl))
def qiv {R : Type} (KK : AV → Mem → Option R) := (fun Al a1 => KK (.own 1 a1.length) (qd [(some (.box true [(.int .i64 Al)])), (some (.arr true 3 a1))]))
def qb1 {R : Type}  (v0 : List AV) (Al : Int) (kr : Int → (List AV) → Option R) : Option R :=
  (bif (hd ([] : List AV) (([] : List AV).length) && true) then (qe7 v0 (v0.length : Int) (fun b0_0q1 a1q2 => (kr b0_0q1 a1q2)) FU (0 : Int) Al ([] : List AV)) else none)
def qcx {R : Type} := hull (qb1 (R := R))
theorem qiw {R : Type} : qcx (R := R) = qb1 := qb _
def qjc {R : Type} : RefB Tryz.prog R := refB (nt := 24) (nb := 1) tabOk follows Tryz.func37 [.t 4] (fun KK => .s .z (.s .z (.s (.s .z (.b (.sub [.own 5 3, .sel [1, 5, 8, 9, 10] [0, 1]] (qie KK) []))) (.s .z (.v [.sel [4] [0, 1]]))))) S77_ (qb1 (R := R)) (fun f v KK => f (v.l 0 0) (v.i 3 0) (qiv KK)) (by kernel_rfl) (by kernel_rfl) (fun _ => (by kernel_rfl)) rfl fun _ _ => (by kernel_rfl)
def qgi (v0 : List AV) (v1 : Int) : Option (List AV) :=
  (qcx v0 v1 fun b0_0q1 a1q2 => (bif hd a1q2 a1q2.length then (some a1q2) else none))
def qcb := hull qgi
theorem quu : qcb = qgi := qb _
def qgj {R : Type} : EntF Tryz.prog R := entB (nt := 8) (dec := (decF true 3)) (enc := (AV.fr true 3)) tabOk follows Tryz.func20 [.t 4] hdeF (.s .z (.s (.r [(2, .s (.sel [5, 6] [0])), (2, .r qjc)] []) .z)) S6_ qgi (fun f v => f (v.l 0 0) (v.i 4 0)) (by kernel_rfl) (by kernel_rfl) (by kernel_rfl) fun _ => (by kernel_rfl)
end
end Go.Proofs.YtmoedhehjonnhaaGreatDoor.Dn
