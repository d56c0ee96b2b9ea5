import Derived.Test.YtmoedhehjonnhaaGreatDoorProg
import Derived.Test.YtmoedhehjonnhaaGreatDoorRrLibD
import Derived.Test.YtmoedhehjonnhaaGreatDoorRrPl22
import Derived.Test.YtmoedhehjonnhaaGreatDoorRrLy22
set_option linter.all false
namespace Go.Proofs.YtmoedhehjonnhaaGreatDoor.Dn
open Go Go.Pev
set_option linter.unusedVariables false
set_option linter.unusedSimpArgs false
set_option maxRecDepth 100000
set_option maxHeartbeats 4000000
theorem zT : True := True.intro
theorem zA {a b : Prop} (x : a) (y : b) : a ∧ b := ⟨x, y⟩
theorem tabOk : Tab.ok (TIof Tryz.prog) Tryz.prog := fun _ _ h => h
theorem follows : Tryz.prog.follows .mixedOrders = true := by kernel_rfl
def qc : List LT := [.s, .b, (.i .i64), (.i .i64), (.i .i64), (.i .i64), (.i .i64)]
def S0_ : Shp := ⟨[(0, .one (.l (.sl 7))), (3, .one (.own 0)), (4, .one (.l (.i .i64)))], [.arr true 7]⟩
def S1_ : Shp := ⟨[(0, .one (.l (.sl 7)))], []⟩
def qo3  (K : Ex → Env → Mem → Option (List AV)) := (fun z_a0 => K (.exit 0) (qe [(3, (.own 0 z_a0.length))]) (qd [(some (.arr true 7 z_a0))]))
noncomputable section
def qfy  (v0 : List AV) (v4 : Int) (a0 : List AV) (next : Int → (List AV) → Option (List AV)) (kx0 : (List AV) → Option (List AV)) : Option (List AV) :=
  (bif ((decide (v4 < (v0.length : Int))) && (decide (v4 < (20 : Int)))) then (oB (ixB v0 v4) fun y1 => (bif fitC qc y1.cells then (oB (cutI (gS y1.cells 0) none (some (if (300 : Int) < ((gS y1.cells 0).length : Int) then (300 : Int) else ((gS y1.cells 0).length : Int)))) fun s2 => (bif hd a0 a0.length then (bif hd ([(.agg [(.str s2), (.bool (gB y1.cells 1)), (.int .i64 (gI y1.cells 2)), (.int .i64 (gI y1.cells 3)), (.int .i64 (gI y1.cells 4)), (.int .i64 (gI y1.cells 5)), (.int .i64 (gI y1.cells 6))])] : List AV) (([(.agg [(.str s2), (.bool (gB y1.cells 1)), (.int .i64 (gI y1.cells 2)), (.int .i64 (gI y1.cells 3)), (.int .i64 (gI y1.cells 4)), (.int .i64 (gI y1.cells 5)), (.int .i64 (gI y1.cells 6))])] : List AV).length) then (bif decide ((a0.length + ([(.agg [(.str s2), (.bool (gB y1.cells 1)), (.int .i64 (gI y1.cells 2)), (.int .i64 (gI y1.cells 3)), (.int .i64 (gI y1.cells 4)), (.int .i64 (gI y1.cells 5)), (.int .i64 (gI y1.cells 6))])] : List AV).length) * 64 ≤ 140737488355328) then (next (IntKind.i64.wrap (v4 + (1 : Int))) (a0 ++ ([(.agg [(.str s2), (.bool (gB y1.cells 1)), (.int .i64 (gI y1.cells 2)), (.int .i64 (gI y1.cells 3)), (.int .i64 (gI y1.cells 4)), (.int .i64 (gI y1.cells 5)), (.int .i64 (gI y1.cells 6))])] : List AV))) else none) else none) else none)) else none)) else (kx0 a0))
def qen  (v0 : List AV) (kx0 : (List AV) → Option (List AV)) : Nat → Int → (List AV) → Option (List AV)
  | 0 => (fun _ _ => none)
  | n + 1 => (fun v4 a0 => qfy v0 v4 a0 (qen v0 kx0 n) kx0)
def qt0 := hull (qen)
theorem q1g : qt0 = qen := qa _
def q34 : SubB Tryz.prog (TIof Tryz.prog) 36 0 (kret [.t 2] (decF true 7)) := lpB tabOk follows Tryz.f9 75 (.s (.s (.r [(5, .g 2)] []) (.s .z (.v [.sel [3] [0]]))) (.s (.b (.s (.r [(2, .p (.etac 18 qc))] []) .z)) (.v [.sel [0, 3, 4] [0]]))) S0_ (qen) (fun f v K n => f (v.l 0 0) (qo3 K) n) (fun v f K => qfy (v.l 0 0) (v.i 16 0) (v.r 0) f (qo3 K)) (fun f v => f (v.i 16 0) (v.r 0)) (fun k v => (fun z0 z1 => k ((v.ui 16 0 z0).ur 0 z1))) (by kernel_rfl) (fun _ _ => (by kernel_rfl)) (fun _ _ _ => (by kernel_rfl)) (fun _ _ _ => (by kernel_rfl)) (fun _ _ => (by kernel_rfl)) (fun _ _ _ _ _ => (by kernel_rfl))
def qk4 (v0 : List AV) : Option (List AV) :=
  (bif (hd ([] : List AV) (([] : List AV).length) && true) then (qt0 v0 (fun a0q1 => (bif hd a0q1 a0q1.length then (some a0q1) else none)) FU (0 : Int) ([] : List AV)) else none)
def qsc := hull qk4
theorem q6x : qsc = qk4 := qa _
def q82 {R : Type} : EntF Tryz.prog R := entB (nt := 36) (dec := (decF true 7)) (enc := (AV.fr true 7)) tabOk follows Tryz.func9 [.t 2] hdeF (.s .z (.s .z (.s (.s .z (.b (.sub [.own 3 7, .sel [0, 3, 4] [0]] q34 []))) .z))) S1_ qk4 (fun f v => f (v.l 0 0)) (by kernel_rfl) (by kernel_rfl) (by kernel_rfl) fun _ => (by kernel_rfl)
def S2_ : Shp := ⟨[(0, .st (lk qc))], []⟩
def qmy (Aa : List UInt8) (Ab : Bool) (Ac Ad Ae Af Ag : Int) : Option AV :=
  (some (.agg [(.int .i64 Ad), (.int .i64 Ae), (.int .i64 Af), (.int .i64 Ag)]))
def qe9 := hull qmy
theorem q35 : qe9 = qmy := qa _
def qmz {R : Type} : EntF Tryz.prog R := entB (nt := 12) (dec := (decT [(.i .i64), (.i .i64), (.i .i64), (.i .i64)])) (enc := (qow (.st [(.i .i64), (.i .i64), (.i .i64), (.i .i64)]))) tabOk follows Tryz.func35 [(.cell 2 true 4)] hdeT (.z) S2_ qmy (fun f v => f (v.s 1 0) (v.b 1 1) (v.i 1 2) (v.i 1 3) (v.i 1 4) (v.i 1 5) (v.i 1 6)) (by kernel_rfl) (by kernel_rfl) (by kernel_rfl) fun _ => (by kernel_rfl)
def q3n : List LT := [(.i .i64), (.i .i64), (.i .i64), (.i .i64)]
def q6y (x0 x1 x2 x3 : Int) : List AV := [.int .i64 x0, .int .i64 x1, .int .i64 x2, .int .i64 x3]
def S3_ : Shp := ⟨[(1, .one (.l (.i .i64))), (6, .one (.l (.i .i64))), (7, .one (.l .b)), (11, .one (.l (.i .i64))), (12, .one (.l (.sl 7))), (13, .one (.l (.i .i64))), (14, .one (.l (.i .i64))), (19, .st (lk q3n)), (20, .one (.l (.i .i64)))], []⟩
def S4_ : Shp := ⟨[(1, .one (.l (.i .i64))), (6, .one (.l (.i .i64))), (7, .one (.l .b)), (12, .one (.l (.sl 7))), (13, .one (.l (.i .i64))), (14, .one (.l (.i .i64))), (19, .st (lk q3n)), (20, .one (.l (.i .i64)))], []⟩
def S5_ : Shp := ⟨[(1, .one (.l (.i .i64))), (6, .one (.l (.i .i64))), (7, .one (.l .b)), (12, .one (.l (.sl 7))), (13, .one (.l (.i .i64))), (14, .one (.l (.i .i64)))], []⟩
def S6_ : Shp := ⟨[(0, .one (.l (.sl 7))), (1, .one (.l (.i .i64)))], []⟩
def qh2 : AV → Option (Int × Bool) := decN [(.one (.i .i64)), (.one .b)] fun z => (aI (gC (tpL z) 0), aB (gC (tpL z) 1))
def qxh  (v1 v6 : Int) (v7 : Bool) (v11 : Int) (v12 : List AV) (v13 v14 Ah Ai Aj Ak v20 : Int) (K : Ex → Env → Mem → Option (Int × Bool)) := (fun z_v34 => K .norm (qe [(1, (.int .i64 v1)), (6, (.int .i64 v6)), (7, (.bool v7)), (11, (.int .i64 v11)), (12, (.sl 7 v12)), (13, (.int .i64 v13)), (14, (.int .i64 v14)), (19, .agg (q6y Ah Ai Aj Ak)), (20, (.int .i64 v20)), (34, (.bool z_v34))]) (qd []))
def qgt  (v1 v6 : Int) (v7 : Bool) (v11 : Int) (v12 : List AV) (v13 v14 Ah Ai Aj Ak v20 : Int) (kn : Bool → Option (Int × Bool)) : Option (Int × Bool) :=
  (bif (decide (v11 > v1)) then (bif (!v7) then (kn true) else (kn (decide (v11 < v6)))) else (kn false))
def qq3 := hull (qgt)
theorem qxi : qq3 = qgt := qa _
def q0f : SubB Tryz.prog (TIof Tryz.prog) 40 0 (kret [.t 4, .t 5] qh2) := jnB tabOk follows Tryz.f17 1363147 (.v [.sel [1, 6, 7, 11, 12, 13, 14, 19, 20, 34] []]) S3_ (qgt) (fun f v K => f (v.i 4 0) (v.i 24 0) (v.b 28 0) (v.i 44 0) (v.l 48 0) (v.i 52 0) (v.i 56 0) (v.i 77 0) (v.i 77 1) (v.i 77 2) (v.i 77 3) (v.i 80 0) (qxh (v.i 4 0) (v.i 24 0) (v.b 28 0) (v.i 44 0) (v.l 48 0) (v.i 52 0) (v.i 56 0) (v.i 77 0) (v.i 77 1) (v.i 77 2) (v.i 77 3) (v.i 80 0) K)) (by kernel_rfl) (fun _ _ => (by kernel_rfl))
def qnc  (v1 : Int) (v12 : List AV) (v13 v14 : Int) (K : Ex → Env → Mem → Option (Int × Bool)) := (fun z_v6 z_v7 => K (.exit 2) (qe [(1, (.int .i64 v1)), (6, (.int .i64 z_v6)), (7, (.bool z_v7)), (12, (.sl 7 v12)), (13, (.int .i64 v13)), (14, (.int .i64 v14))]) (qd []))
def qey  (v1 v6 : Int) (v7 : Bool) (v12 : List AV) (v13 v14 Ah Ai Aj Ak v20 : Int) (next : Int → Bool → Int → Option (Int × Bool)) (kx2 : Int → Bool → Option (Int × Bool)) : Option (Int × Bool) :=
  (bif (decide (v20 < (4 : Int))) then (oI (vixa false 4 1 (.agg [(.int .i64 Ah), (.int .i64 Ai), (.int .i64 Aj), (.int .i64 Ak)]) (.int .i64 v20)) fun q1 => (bif fitV (.one (.i .i64)) q1 then (qq3 v1 v6 v7 (aI q1) v12 v13 v14 Ah Ai Aj Ak v20 (fun v34q2 => (bif v34q2 then (next (aI q1) true (IntKind.i64.wrap (v20 + (1 : Int)))) else (next v6 v7 (IntKind.i64.wrap (v20 + (1 : Int))))))) else none)) else (kx2 v6 v7))
def qez  (v1 : Int) (v12 : List AV) (v13 v14 Ah Ai Aj Ak : Int) (kx2 : Int → Bool → Option (Int × Bool)) : Nat → Int → Bool → Int → Option (Int × Bool)
  | 0 => (fun _ _ _ => none)
  | n + 1 => (fun v6 v7 v20 => qey v1 v6 v7 v12 v13 v14 Ah Ai Aj Ak v20 (qez v1 v12 v13 v14 Ah Ai Aj Ak kx2 n) kx2)
def qlv := hull (qez)
theorem qxj : qlv = qez := qa _
def q0g : SubB Tryz.prog (TIof Tryz.prog) 40 0 (kret [.t 4, .t 5] qh2) := lpB tabOk follows Tryz.f17 19659 (.s .z (.s (.s .z (.v [.sel [1, 6, 7, 12, 13, 14] []])) (.s (.b (.s (.r [(0, .p (.eta 22 (.one (.i .i64))))] []) (.s (.sub [.sel [1, 6, 7, 11, 12, 13, 14, 19, 20] []] q0f []) .z))) (.v [.sel [1, 6, 7, 12, 13, 14, 19, 20] []])))) S4_ (qez) (fun f v K n => f (v.i 4 0) (v.l 48 0) (v.i 52 0) (v.i 56 0) (v.i 77 0) (v.i 77 1) (v.i 77 2) (v.i 77 3) (qnc (v.i 4 0) (v.l 48 0) (v.i 52 0) (v.i 56 0) K) n) (fun v f K => qey (v.i 4 0) (v.i 24 0) (v.b 28 0) (v.l 48 0) (v.i 52 0) (v.i 56 0) (v.i 77 0) (v.i 77 1) (v.i 77 2) (v.i 77 3) (v.i 80 0) f (qnc (v.i 4 0) (v.l 48 0) (v.i 52 0) (v.i 56 0) K)) (fun f v => f (v.i 24 0) (v.b 28 0) (v.i 80 0)) (fun k v => (fun z0 z1 z2 => k (((v.ui 24 0 z0).ub 28 0 z1).ui 80 0 z2))) (by kernel_rfl) (fun _ _ => (by kernel_rfl)) (fun _ _ _ => (by kernel_rfl)) (fun _ _ _ => (by kernel_rfl)) (fun _ _ => (by kernel_rfl)) (fun _ _ _ _ _ => (by kernel_rfl))
def qnv  (K : Ex → Env → Mem → Option (Int × Bool)) := (fun z_v6 z_v7 => K (.exit 0) (qe [(6, (.int .i64 z_v6)), (7, (.bool z_v7))]) (qd []))
def qfm  (v1 v6 : Int) (v7 : Bool) (v12 : List AV) (v13 v14 : Int) (next : Int → Bool → Int → Option (Int × Bool)) (kx0 : Int → Bool → Option (Int × Bool)) : Option (Int × Bool) :=
  (bif (decide (v14 < v13)) then (oB (ixB v12 v14) fun y1 => (bif fitC qc y1.cells then (oB (qe9 (gS y1.cells 0) (gB y1.cells 1) (gI y1.cells 2) (gI y1.cells 3) (gI y1.cells 4) (gI y1.cells 5) (gI y1.cells 6)) fun r2 => (qlv v1 v12 v13 v14 (gI r2.cells 0) (gI r2.cells 1) (gI r2.cells 2) (gI r2.cells 3) (fun v6q3 v7q4 => (next v6q3 v7q4 (IntKind.i64.wrap (v14 + (1 : Int))))) FU v6 v7 (0 : Int))) else none)) else (kx0 v6 v7))
def qfn  (v1 : Int) (v12 : List AV) (v13 : Int) (kx0 : Int → Bool → Option (Int × Bool)) : Nat → Int → Bool → Int → Option (Int × Bool)
  | 0 => (fun _ _ _ => none)
  | n + 1 => (fun v6 v7 v14 => qfm v1 v6 v7 v12 v13 v14 (qfn v1 v12 v13 kx0 n) kx0)
def qsd := hull (qfn)
theorem q0h : qsd = qfn := qa _
def q1h : SubB Tryz.prog (TIof Tryz.prog) 40 0 (kret [.t 4, .t 5] qh2) := lpB tabOk follows Tryz.f17 75 (.s .z (.s (.s .z (.v [.sel [6, 7] []])) (.s (.b (.s (.r [(0, .p (.etac 16 qc))] []) (.s (.r [(1, .c qmz.b)] []) (.b (.sub [.sel [1, 6, 7, 12, 13, 14, 19, 20] []] q0g []))))) (.v [.sel [1, 6, 7, 12, 13, 14] []])))) S5_ (qfn) (fun f v K n => f (v.i 4 0) (v.l 48 0) (v.i 52 0) (qnv K) n) (fun v f K => qfm (v.i 4 0) (v.i 24 0) (v.b 28 0) (v.l 48 0) (v.i 52 0) (v.i 56 0) f (qnv K)) (fun f v => f (v.i 24 0) (v.b 28 0) (v.i 56 0)) (fun k v => (fun z0 z1 z2 => k (((v.ui 24 0 z0).ub 28 0 z1).ui 56 0 z2))) (by kernel_rfl) (fun _ _ => (by kernel_rfl)) (fun _ _ _ => (by kernel_rfl)) (fun _ _ _ => (by kernel_rfl)) (fun _ _ => (by kernel_rfl)) (fun _ _ _ _ _ => (by kernel_rfl))
def qj2 (v0 : List AV) (v1 : Int) : Option (Int × Bool) :=
  (qsd v1 v0 (v0.length : Int) (fun v6q1 v7q2 => (some (v6q1, v7q2))) FU (0 : Int) false (0 : Int))
def qjo := hull qj2
theorem q5q : qjo = qj2 := qa _
def q6z {R : Type} : EntF Tryz.prog R := entB (nt := 40) (dec := qh2) (enc := (fun r => .tup [.int .i64 r.1, .bool r.2])) tabOk follows Tryz.func17 [.t 4, .t 5] (hdeN fun _ => rfl) (.s .z (.s .z (.s (.s .z (.b (.sub [.sel [1, 6, 7, 12, 13, 14] []] q1h []))) .z))) S6_ qj2 (fun f v => f (v.l 0 0) (v.i 4 0)) (by kernel_rfl) (by kernel_rfl) (by kernel_rfl) fun _ => (by kernel_rfl)
def S9_ : Shp := ⟨[(0, .one (.l .s)), (1, .one (.l .s))], []⟩
def qeu (v0 v1 : List UInt8) : Option Bool :=
  (bif (decide ((v0.length : Int) ≥ (v1.length : Int))) then (oB (cutI v0 (some (IntKind.i64.wrap ((v0.length : Int) - (v1.length : Int)))) none) fun s1 => (some (s1 == v1))) else (some false))
def qnd := hull qeu
theorem qse : qnd = qeu := qa _
def qtl {R : Type} : EntF Tryz.prog R := entB (nt := 21) (dec := decB) (enc := AV.bool) tabOk follows Tryz.func97 [.t 4] hdeB (.z) S9_ qeu (fun f v => f (v.s 0 0) (v.s 4 0)) (by kernel_rfl) (by kernel_rfl) (by kernel_rfl) fun _ => (by kernel_rfl)
def qgu (v0 v1 : List UInt8) : Option Bool :=
  (oB (qnd v0 v1) fun r1 => (some r1))
def qlw := hull qgu
theorem qxk : qlw = qgu := qa _
def q0i {R : Type} : EntF Tryz.prog R := entB (nt := 8) (dec := decB) (enc := AV.bool) tabOk follows Tryz.func67 [.t 4] hdeB (.s .z (.s (.r [(2, .c qtl.b)] []) .z)) S9_ qgu (fun f v => f (v.s 0 0) (v.s 4 0)) (by kernel_rfl) (by kernel_rfl) (by kernel_rfl) fun _ => (by kernel_rfl)
theorem qbce {R : Type} : qjm Tryz.prog 146 (qps (R := R)) := qbex Tryz.func146 (by kernel_rfl) (by kernel_rfl) (by kernel_rfl) (by kernel_rfl)
theorem qbcf {R : Type} : qjm Tryz.prog 165 (qpt (R := R)) := qbey Tryz.func165 (by kernel_rfl) (by kernel_rfl) (by kernel_rfl) (by kernel_rfl)
def S10_ : Shp := ⟨[(0, .one (.l .s)), (1, .one (.l (.i .u8)))], []⟩
def qev (v0 : List UInt8) (v1 : Int) : Option Int :=
  (oB (qr6 v0 v1) fun r1 => (some r1))
def qne := hull qev
theorem qsf : qne = qev := qa _
def qtm {R : Type} : EntF Tryz.prog R := entB (nt := 8) (dec := (decI .i64)) (enc := (AV.int .i64)) tabOk follows Tryz.func157 [.t 4] hdeI (.s .z (.s (.r [(2, .c (eK qbcf))] []) .z)) S10_ qev (fun f v => f (v.s 0 0) (v.i 4 0)) (by kernel_rfl) (by kernel_rfl) (by kernel_rfl) fun _ => (by kernel_rfl)
def qgv (v0 v1 : List UInt8) : Option Int :=
  (bif (((v1.length : Int) == (0 : Int)) || (v1 == v0)) then (some (0 : Int)) else (bif ((v1.length : Int) == (1 : Int)) then (oB (ixB v1 (0 : Int)) fun c1 => (oB (qne v0 (c1.toNat : Int)) fun r2 => (some r2))) else (bif (decide ((v1.length : Int) ≥ (v0.length : Int))) then (some (-1 : Int)) else none)))
def qq4 := hull qgv
theorem qxl : qq4 = qgv := qa _
def q0j {R : Type} : EntF Tryz.prog R := entB (nt := 143) (dec := (decI .i64)) (enc := (AV.int .i64)) tabOk follows Tryz.func147 [.t 4] hdeI (.s .z (.s .z (.s (.b (.s (.r [(3, .g 3)] []) (.s .z (.s .z (.s (.s (.r [(3, .c qtm.b)] []) .z) .z))))) (.s .z (.s .z (.s .z (.s .z (.s .z (.s (.b .x) .z))))))))) S9_ qgv (fun f v => f (v.s 0 0) (v.s 4 0)) (by kernel_rfl) (by kernel_rfl) (by kernel_rfl) fun _ => (by kernel_rfl)
def qj3 (v0 v1 : List UInt8) : Option Int :=
  (oB (qq4 v0 v1) fun r1 => (some r1))
def qmk := hull qj3
theorem q5r : qmk = qj3 := qa _
def qt1 {R : Type} : EntF Tryz.prog R := entB (nt := 8) (dec := (decI .i64)) (enc := (AV.int .i64)) tabOk follows Tryz.func131 [.t 4] hdeI (.s .z (.s (.r [(2, .c q0j.b)] []) .z)) S9_ qj3 (fun f v => f (v.s 0 0) (v.s 4 0)) (by kernel_rfl) (by kernel_rfl) (by kernel_rfl) fun _ => (by kernel_rfl)
def S11_ : Shp := ⟨[(0, .one (.l .s)), (1, .one (.l .s)), (5, .one (.l (.i .i64)))], []⟩
def qo4  (v0 v1 : List UInt8) (v5 : Int) (next : (List UInt8) → Int → Option Int) : Option Int :=
  (oB (qmk v0 v1) fun r1 => (bif (r1 == (-1 : Int)) then (some v5) else (oB (cutI v0 (some (IntKind.i64.wrap (r1 + (v1.length : Int)))) none) fun s2 => (next s2 (IntKind.i64.wrap (v5 + (1 : Int)))))))
def qjx  (v1 : List UInt8) : Nat → (List UInt8) → Int → Option Int
  | 0 => (fun _ _ => none)
  | n + 1 => (fun v0 v5 => qo4 v0 v1 v5 (qjx v1 n))
def q36 := hull (qjx)
def q0k : SubB Tryz.prog (TIof Tryz.prog) 34 0 (kret [.t 4] (decI .i64)) := lpB tabOk follows Tryz.f130 79 (.b (.s (.r [(2, .c qt1.b)] []) (.s .z (.s .z (.v [.sel [0, 1, 5] []]))))) S11_ (qjx) (fun f v K n => f (v.s 4 0) n) (fun v f K => qo4 (v.s 0 0) (v.s 4 0) (v.i 20 0) f) (fun f v => f (v.s 0 0) (v.i 20 0)) (fun k v => (fun z0 z1 => k ((v.us 0 0 z0).ui 20 0 z1))) (by kernel_rfl) (fun _ _ => (by kernel_rfl)) (fun _ _ _ => (by kernel_rfl)) (fun _ _ _ => (by kernel_rfl)) (fun _ _ => (by kernel_rfl)) (fun _ _ _ _ _ => (by kernel_rfl))
def qj4 (v0 v1 : List UInt8) : Option Int :=
  (bif ((v1.length : Int) == (0 : Int)) then none else (bif ((v1.length : Int) == (1 : Int)) then (oB (ixB v1 (0 : Int)) fun c1 => (oB (qr5 v0 (c1.toNat : Int)) fun r2 => (some r2))) else (q36 v1 FU v0 (0 : Int))))
def qqs := hull qj4
theorem q5s : qqs = qj4 := qa _
def q60 {R : Type} : EntF Tryz.prog R := entB (nt := 34) (dec := (decI .i64)) (enc := (AV.int .i64)) tabOk follows Tryz.func130 [.t 4] hdeI (.s .z (.s (.s .z (.s (.s (.r [(1, .c (eK (q8s (f := 144))))] []) .z) .z)) (.s (.s .z (.s (.s (.r [(3, .c (eK qbce))] []) .z) .z)) (.s .z (.b (.sub [.sel [0, 1, 5] []] q0k [])))))) S9_ qj4 (fun f v => f (v.s 0 0) (v.s 4 0)) (by kernel_rfl) (by kernel_rfl) (by kernel_rfl) fun _ => (by kernel_rfl)
def S12_ : Shp := ⟨[(0, .one (.l .s)), (1, .one (.l .s)), (2, .one (.l (.i .i64))), (3, .one (.l (.i .i64)))], []⟩
def S13_ : Shp := ⟨[(0, .one (.l .s)), (1, .one (.l .s)), (2, .one (.l (.i .i64))), (3, .one (.l (.i .i64))), (9, .one (.own 0)), (10, .one (.l (.i .i64)))], [.arr true 1]⟩
def qtn  (v0 v1 : List UInt8) (v2 : Int) (K : Ex → Env → Mem → Option (List AV)) := (fun z_v3 => K .norm (qe [(0, (.str v0)), (1, (.str v1)), (2, (.int .i64 v2)), (3, (.int .i64 z_v3))]) (qd []))
def qff  (v0 v1 : List UInt8) (v2 v3 : Int) (kn : Int → Option (List AV)) : Option (List AV) :=
  (bif (decide (v3 < (0 : Int))) then (oB (qqs v0 v1) fun r1 => (kn (IntKind.i64.wrap (r1 + (1 : Int))))) else (kn v3))
def qnw := hull (qff)
theorem qto : qnw = qff := qa _
def qu5 : SubB Tryz.prog (TIof Tryz.prog) 66 0 (kret [.t 8] (decX (.one (.sl 1)) fun z => aL z)) := jnB tabOk follows Tryz.f98 23 (.s .z (.s (.r [(2, .c q60.b)] [.sel [0, 1, 2, 3] []]) (.v [.sel [0, 1, 2, 3] []]))) S12_ (qff) (fun f v K => f (v.s 0 0) (v.s 4 0) (v.i 8 0) (v.i 12 0) (qtn (v.s 0 0) (v.s 4 0) (v.i 8 0) K)) (by kernel_rfl) (fun _ _ => (by kernel_rfl))
def qkl  (K : Ex → Env → Mem → Option (List AV)) := (fun z_v0 z_v10 z_a0 => K (.exit 0) (qe [(0, (.str z_v0)), (9, (.own 0 z_a0.length)), (10, (.int .i64 z_v10))]) (qd [(some (.arr true 1 z_a0))]))
def qc0  (v0 v1 : List UInt8) (v2 v3 v10 : Int) (a0 : List AV) (next : (List UInt8) → Int → (List AV) → Option (List AV)) (kx0 : (List UInt8) → Int → (List AV) → Option (List AV)) : Option (List AV) :=
  (bif (decide (v10 < v3)) then (oB (qmk v0 v1) fun r1 => (bif (decide (r1 < (0 : Int))) then (kx0 v0 v10 a0) else (oB (cutI v0 none (some (IntKind.i64.wrap (r1 + v2)))) fun s2 => (bif hd a0 a0.length then (bif decide (0 ≤ v10 ∧ v10 < a0.length) then (bif hd a0 a0.length then (oB (a0[v10.toNat]?) fun y3 => (oB (putE y3 0 1 [(.str s2)]) fun z4 => (oB (cutI v0 (some (IntKind.i64.wrap (r1 + (v1.length : Int)))) none) fun s5 => (bif hd (a0.set v10.toNat z4) a0.length then (next s5 (IntKind.i64.wrap (v10 + (1 : Int))) (a0.set v10.toNat z4)) else none)))) else none) else none) else none)))) else (kx0 v0 v10 a0))
def qb9  (v1 : List UInt8) (v2 v3 : Int) (kx0 : (List UInt8) → Int → (List AV) → Option (List AV)) : Nat → (List UInt8) → Int → (List AV) → Option (List AV)
  | 0 => (fun _ _ _ => none)
  | n + 1 => (fun v0 v10 a0 => qc0 v0 v1 v2 v3 v10 a0 (qb9 v1 v2 v3 kx0 n) kx0)
def qnx := hull (qb9)
theorem qtp : qnx = qb9 := qa _
def qu6 : SubB Tryz.prog (TIof Tryz.prog) 66 0 (kret [.t 8] (decX (.one (.sl 1)) fun z => aL z)) := lpB tabOk follows Tryz.f98 2303 (.s (.s .z (.s .z (.v [.sel [0, 9, 10] [0]]))) (.b (.s (.r [(2, .c qt1.b)] []) (.s (.s .z (.s (.v [.sel [0, 9, 10] [0]]) .z)) (.s .z (.s .z (.v [.hd 9, .sel [0, 1, 2, 3, 9, 10] [0]]))))))) S13_ (qb9) (fun f v K n => f (v.s 4 0) (v.i 8 0) (v.i 12 0) (qkl K) n) (fun v f K => qc0 (v.s 0 0) (v.s 4 0) (v.i 8 0) (v.i 12 0) (v.i 40 0) (v.r 0) f (qkl K)) (fun f v => f (v.s 0 0) (v.i 40 0) (v.r 0)) (fun k v => (fun z0 z1 z2 => k (((v.us 0 0 z0).ui 40 0 z1).ur 0 z2))) (by kernel_rfl) (fun _ _ => (by kernel_rfl)) (fun _ _ _ => (by kernel_rfl)) (fun _ _ _ => (by kernel_rfl)) (fun _ _ => (by kernel_rfl)) (fun _ _ _ _ _ => (by kernel_rfl))
def qhg (v0 v1 : List UInt8) (v2 v3 : Int) : Option (List AV) :=
  (bif (v3 == (0 : Int)) then (some ([] : List AV)) else (bif (v1 == ([] : List UInt8)) then none else (qnw v0 v1 v2 v3 (fun v3q1 => (bif decide (0 ≤ (if (IntKind.i64.wrap ((v0.length : Int) + (1 : Int))) < v3q1 then (IntKind.i64.wrap ((v0.length : Int) + (1 : Int))) else v3q1) ∧ (if (IntKind.i64.wrap ((v0.length : Int) + (1 : Int))) < v3q1 then (IntKind.i64.wrap ((v0.length : Int) + (1 : Int))) else v3q1) ≤ (if (IntKind.i64.wrap ((v0.length : Int) + (1 : Int))) < v3q1 then (IntKind.i64.wrap ((v0.length : Int) + (1 : Int))) else v3q1) ∧ (if (IntKind.i64.wrap ((v0.length : Int) + (1 : Int))) < v3q1 then (IntKind.i64.wrap ((v0.length : Int) + (1 : Int))) else v3q1) * 16 ≤ 281474976710656) then (bif (hd (List.replicate (if (IntKind.i64.wrap ((v0.length : Int) + (1 : Int))) < v3q1 then (IntKind.i64.wrap ((v0.length : Int) + (1 : Int))) else v3q1).toNat ((.str ([] : List UInt8)) : AV)) ((List.replicate (if (IntKind.i64.wrap ((v0.length : Int) + (1 : Int))) < v3q1 then (IntKind.i64.wrap ((v0.length : Int) + (1 : Int))) else v3q1).toNat ((.str ([] : List UInt8)) : AV)).length) && true) then (qnx v1 v2 (IntKind.i64.wrap ((if (IntKind.i64.wrap ((v0.length : Int) + (1 : Int))) < v3q1 then (IntKind.i64.wrap ((v0.length : Int) + (1 : Int))) else v3q1) - (1 : Int))) (fun v0q2 v10q3 a0q4 => (bif hd a0q4 a0q4.length then (bif decide (0 ≤ v10q3 ∧ v10q3 < a0q4.length) then (bif hd a0q4 a0q4.length then (oB (a0q4[v10q3.toNat]?) fun y5 => (oB (putE y5 0 1 [(.str v0q2)]) fun z6 => (bif hd (a0q4.set v10q3.toNat z6) a0q4.length then (oB (cutI (a0q4.set v10q3.toNat z6) none (some (IntKind.i64.wrap (v10q3 + (1 : Int))))) fun s7 => (some s7)) else none))) else none) else none) else none)) FU v0 (0 : Int) (List.replicate (if (IntKind.i64.wrap ((v0.length : Int) + (1 : Int))) < v3q1 then (IntKind.i64.wrap ((v0.length : Int) + (1 : Int))) else v3q1).toNat ((.str ([] : List UInt8)) : AV))) else none) else none)))))
def qsg := hull qhg
theorem q0l : qsg = qhg := qa _
def q1i {R : Type} : EntF Tryz.prog R := entB (nt := 66) (dec := (decX (.one (.sl 1)) fun z => aL z)) (enc := (fun r => .sl 1 r)) tabOk follows Tryz.func98 [.t 8] (hdeX fun _ => rfl) (.s .z (.s (.s .z (.s (.s .z (.v [.eta 8 (.one (.sl 1))])) .z)) (.s (.s .z (.s (.s (.r [(2, .c (eK (q8s (f := 129))))] []) .z) .z)) (.s (.sub [.sel [0, 1, 2, 3] []] qu5 []) (.s .z (.s .z (.s .z (.s .z (.s (.b (.sub [.sel [0, 1, 2, 3, 9, 10] [0]] qu6 [])) .z))))))))) S12_ qhg (fun f v => f (v.s 0 0) (v.s 4 0) (v.i 8 0) (v.i 12 0)) (by kernel_rfl) (by kernel_rfl) (by kernel_rfl) fun _ => (by kernel_rfl)
def qj5 (v0 v1 : List UInt8) : Option (List AV) :=
  (oB (qsg v0 v1 (0 : Int) (-1 : Int)) fun r1 => (some r1))
def qml := hull qj5
theorem q5t : qml = qj5 := qa _
def qt2 {R : Type} : EntF Tryz.prog R := entB (nt := 8) (dec := (decX (.one (.sl 1)) fun z => aL z)) (enc := (fun r => .sl 1 r)) tabOk follows Tryz.func68 [.t 4] (hdeX fun _ => rfl) (.s .z (.s (.r [(2, .k q1i.b)] []) .z)) S9_ qj5 (fun f v => f (v.s 0 0) (v.s 4 0)) (by kernel_rfl) (by kernel_rfl) (by kernel_rfl) fun _ => (by kernel_rfl)
def S14_ : Shp := ⟨[(0, .one (.l .s)), (4, .one (.l (.i .u8))), (13, .one (.l (.i .i64))), (14, .one (.l (.i .i64)))], []⟩
def S15_ : Shp := ⟨[(0, .one (.l .s)), (13, .one (.l (.i .i64))), (14, .one (.l (.i .i64)))], []⟩
def S16_ : Shp := ⟨[(0, .one (.l .s))], []⟩
def qvo  (v0 : List UInt8) (v13 v14 : Int) (K : Ex → Env → Mem → Option Bool) := (fun z_v41 => K .norm (qe [(0, (.str v0)), (13, (.int .i64 v13)), (14, (.int .i64 v14)), (41, (.bool z_v41))]) (qd []))
def qf5  (v0 : List UInt8) (v4 v13 v14 : Int) (kn : Bool → Option Bool) : Option Bool :=
  (bif ((decide (v4 < (97 : Int))) || (decide (v4 > (122 : Int)))) then (bif (decide (v4 < (48 : Int))) then (kn ((v4 != (45 : Int)) && (v4 != (95 : Int)))) else (kn (((decide (v4 > (57 : Int))) && (v4 != (45 : Int))) && (v4 != (95 : Int))))) else (kn false))
def qkm := hull (qf5)
theorem qvp : qkm = qf5 := qa _
def qxm : SubB Tryz.prog (TIof Tryz.prog) 43 0 (kret [.t 2] decB) := jnB tabOk follows Tryz.f69 11467 (.r [(3, .g 2), (15, .g 2), (19, .g 2)] [.sel [0, 13, 14, 41] []]) S14_ (qf5) (fun f v K => f (v.s 0 0) (v.i 16 0) (v.i 52 0) (v.i 56 0) (qvo (v.s 0 0) (v.i 52 0) (v.i 56 0) K)) (by kernel_rfl) (fun _ _ => (by kernel_rfl))
def qma  (K : Ex → Env → Mem → Option Bool) := (fun (_ : Unit) => K (.exit 0) (qe []) (qd []))
def qd7  (v0 : List UInt8) (v13 v14 : Int) (next : Int → Option Bool) (kx0 : Unit → Option Bool) : Option Bool :=
  (bif (decide (v14 < v13)) then (oB (ixB v0 v14) fun c1 => (qkm v0 (c1.toNat : Int) v13 v14 (fun v41q2 => (bif v41q2 then (some false) else (next (IntKind.i64.wrap (v14 + (1 : Int)))))))) else (kx0 ()))
def qd8  (v0 : List UInt8) (v13 : Int) (kx0 : Unit → Option Bool) : Nat → Int → Option Bool
  | 0 => (fun _ => none)
  | n + 1 => (fun v14 => qd7 v0 v13 v14 (qd8 v0 v13 kx0 n) kx0)
def qp7 := hull (qd8)
theorem qvq : qp7 = qd8 := qa _
def qxn : SubB Tryz.prog (TIof Tryz.prog) 43 0 (kret [.t 2] decB) := lpB tabOk follows Tryz.f69 75 (.s .z (.s (.s .z (.v [.sel [] []])) (.s (.b (.s .z (.s .z (.s (.sub [.sel [0, 4, 13, 14] []] qxm []) .z)))) (.v [.sel [0, 13, 14] []])))) S15_ (qd8) (fun f v K n => f (v.s 0 0) (v.i 52 0) (qma K) n) (fun v f K => qd7 (v.s 0 0) (v.i 52 0) (v.i 56 0) f (qma K)) (fun f v => f (v.i 56 0)) (fun k v => (fun z0 => k (v.ui 56 0 z0))) (by kernel_rfl) (fun _ _ => (by kernel_rfl)) (fun _ _ _ => (by kernel_rfl)) (fun _ _ _ => (by kernel_rfl)) (fun _ _ => (by kernel_rfl)) (fun _ _ _ _ _ => (by kernel_rfl))
def qit (v0 : List UInt8) : Option Bool :=
  (bif ((v0 == ([] : List UInt8)) || (decide ((v0.length : Int) > (63 : Int)))) then (some false) else (qp7 v0 (v0.length : Int) (fun (_ : Unit) => (some true)) FU (0 : Int)))
def qpf := hull qit
theorem q37 : qpf = qit := qa _
def q5u {R : Type} : EntF Tryz.prog R := entB (nt := 43) (dec := decB) (enc := AV.bool) tabOk follows Tryz.func69 [.t 2] hdeB (.s .z (.s (.s (.r [(3, .g 3)] []) .z) (.s (.s .z (.b (.sub [.sel [0, 13, 14] []] qxn []))) .z))) S16_ qit (fun f v => f (v.s 0 0)) (by kernel_rfl) (by kernel_rfl) (by kernel_rfl) fun _ => (by kernel_rfl)
def S17_ : Shp := ⟨[(3, .one (.l (.i .i64))), (4, .one (.l .s)), (20, .one (.l (.sl 1))), (21, .one (.l (.i .i64))), (22, .one (.l (.i .i64)))], []⟩
def S18_ : Shp := ⟨[(20, .one (.l (.sl 1))), (21, .one (.l (.i .i64))), (22, .one (.l (.i .i64)))], []⟩
def q1j  (v0 : List UInt8) (K : Ex → Env → Mem → Option Bool) := (fun z_v14 => K .norm (qe [(0, (.str v0)), (14, (.bool z_v14))]) (qd []))
def qh3  (v0 : List UInt8) (kn : Bool → Option Bool) : Option Bool :=
  (bif (decide ((v0.length : Int) ≥ (255 : Int))) then (kn true) else (oB (qlw v0 ([46] : List UInt8)) fun r1 => (kn (!r1))))
def qt3 := hull (qh3)
theorem q1k : qt3 = qh3 := qa _
def q38 : SubB Tryz.prog (TIof Tryz.prog) 39 0 (kret [.t 2] decB) := jnB tabOk follows Tryz.f52 19 (.r [(5, .c q0i.b)] [.sel [0, 14] []]) S16_ (qh3) (fun f v K => f (v.s 0 0) (q1j (v.s 0 0) K)) (by kernel_rfl) (fun _ _ => (by kernel_rfl))
def q1l  (v20 : List AV) (v21 v22 : Int) (K : Ex → Env → Mem → Option Bool) := (fun z_v37 => K .norm (qe [(20, (.sl 1 v20)), (21, (.int .i64 v21)), (22, (.int .i64 v22)), (37, (.bool z_v37))]) (qd []))
def qh4  (v3 : Int) (v4 : List UInt8) (v20 : List AV) (v21 v22 : Int) (kn : Bool → Option Bool) : Option Bool :=
  (oB (qpf v4) fun r1 => (bif (!r1) then (bif (decide (v3 > (0 : Int))) then (kn true) else (kn (!(v4 == ([42] : List UInt8))))) else (kn false)))
def qt4 := hull (qh4)
theorem q1m : qt4 = qh4 := qa _
def q39 : SubB Tryz.prog (TIof Tryz.prog) 39 0 (kret [.t 2] decB) := jnB tabOk follows Tryz.f52 10647 (.r [(1, .c q5u.b)] [.sel [20, 21, 22, 37] []]) S17_ (qh4) (fun f v K => f (v.i 12 0) (v.s 16 0) (v.l 80 0) (v.i 84 0) (v.i 88 0) (q1l (v.l 80 0) (v.i 84 0) (v.i 88 0) K)) (by kernel_rfl) (fun _ _ => (by kernel_rfl))
def qo5  (K : Ex → Env → Mem → Option Bool) := (fun (_ : Unit) => K (.exit 0) (qe []) (qd []))
def qfz  (v20 : List AV) (v21 v22 : Int) (next : Int → Option Bool) (kx0 : Unit → Option Bool) : Option Bool :=
  (bif (decide (v22 < v21)) then (oB (ixB v20 v22) fun y1 => (bif fitC [.s] y1.cells then (qt4 v22 (gS y1.cells 0) v20 v21 v22 (fun v37q2 => (bif v37q2 then (some false) else (next (IntKind.i64.wrap (v22 + (1 : Int))))))) else none)) else (kx0 ()))
def qf0  (v20 : List AV) (v21 : Int) (kx0 : Unit → Option Bool) : Nat → Int → Option Bool
  | 0 => (fun _ => none)
  | n + 1 => (fun v22 => qfz v20 v21 v22 (qf0 v20 v21 kx0 n) kx0)
def qny := hull (qf0)
theorem q1n : qny = qf0 := qa _
def q4a : SubB Tryz.prog (TIof Tryz.prog) 39 0 (kret [.t 2] decB) := lpB tabOk follows Tryz.f52 151 (.s .z (.s (.s .z (.v [.sel [] []])) (.s (.b (.s (.r [(1, .p (.etac 25 [.s]))] []) (.s (.sub [.sel [3, 4, 20, 21, 22] []] q39 []) .z))) (.v [.sel [20, 21, 22] []])))) S18_ (qf0) (fun f v K n => f (v.l 80 0) (v.i 84 0) (qo5 K) n) (fun v f K => qfz (v.l 80 0) (v.i 84 0) (v.i 88 0) f (qo5 K)) (fun f v => f (v.i 88 0)) (fun k v => (fun z0 => k (v.ui 88 0 z0))) (by kernel_rfl) (fun _ _ => (by kernel_rfl)) (fun _ _ _ => (by kernel_rfl)) (fun _ _ _ => (by kernel_rfl)) (fun _ _ => (by kernel_rfl)) (fun _ _ _ _ _ => (by kernel_rfl))
def qmm (v0 : List UInt8) : Option Bool :=
  (bif (v0 == ([46] : List UInt8)) then (some true) else (qt3 v0 (fun v14q1 => (bif v14q1 then (some false) else (oB (cutI v0 none (some (IntKind.i64.wrap ((v0.length : Int) - (1 : Int))))) fun s2 => (oB (qml s2 ([46] : List UInt8)) fun r3 => (qny r3 (r3.length : Int) (fun (_ : Unit) => (some true)) FU (0 : Int))))))))
def qhz := hull qmm
theorem q83 : qhz = qmm := qa _
def qmn {R : Type} : EntF Tryz.prog R := entB (nt := 39) (dec := decB) (enc := AV.bool) tabOk follows Tryz.func52 [.t 2] hdeB (.s .z (.s .z (.s (.s (.sub [.sel [0] []] q38 []) .z) (.s (.s (.r [(5, .k qt2.b)] []) (.b (.sub [.sel [20, 21, 22] []] q4a []))) .z)))) S16_ qmm (fun f v => f (v.s 0 0)) (by kernel_rfl) (by kernel_rfl) (by kernel_rfl) fun _ => (by kernel_rfl)
theorem qbk1 {R : Type} : qo1 Tryz.prog 54 (q3i (R := R)) := qbm8 Tryz.laysItoa (List.mem_singleton.2 rfl)
def S19_ : Shp := ⟨[(0, .one (.l (.i .u64))), (3, .one (.own 0)), (7, .one (.l (.i .i64))), (8, .one (.l (.i .i64)))], [.arr true 1]⟩
def S20_ : Shp := ⟨[(0, .one (.l (.i .u64)))], []⟩
def qp8  (K : Ex → Env → Mem → Option (List UInt8)) := (fun z_a0 => K (.exit 0) (qe [(3, (.own 0 z_a0.length))]) (qd [(some (.arr true 1 z_a0))]))
def qgk  (v0 v7 v8 : Int) (a0 : List AV) (next : Int → (List AV) → Option (List UInt8)) (kx0 : (List AV) → Option (List UInt8)) : Option (List UInt8) :=
  (bif (decide (v8 < v7)) then (bif decide ((IntKind.u64.wrap (IntKind.i64.wrap ((8 : Int) * v8))) < 0) then none else (bif hd a0 a0.length then (bif decide (0 ≤ (IntKind.i64.wrap ((7 : Int) - v8)) ∧ (IntKind.i64.wrap ((7 : Int) - v8)) < a0.length) then (bif hd a0 a0.length then (oB (a0[(IntKind.i64.wrap ((7 : Int) - v8)).toNat]?) fun y1 => (oB (putE y1 0 1 [(.int .u8 (IntKind.u8.wrap (v0.fdiv (2 ^ min (IntKind.u64.wrap (IntKind.i64.wrap ((8 : Int) * v8))).toNat IntKind.u64.bits))))]) fun z2 => (bif hd (a0.set ((IntKind.i64.wrap ((7 : Int) - v8)).toNat) z2) a0.length then (next (IntKind.i64.wrap (v8 + (1 : Int))) (a0.set ((IntKind.i64.wrap ((7 : Int) - v8)).toNat) z2)) else none))) else none) else none) else none)) else (kx0 a0))
def qgl  (v0 v7 : Int) (kx0 : (List AV) → Option (List UInt8)) : Nat → Int → (List AV) → Option (List UInt8)
  | 0 => (fun _ _ => none)
  | n + 1 => (fun v8 a0 => qgk v0 v7 v8 a0 (qgl v0 v7 kx0 n) kx0)
def qvr := hull (qgl)
theorem q4b : qvr = qgl := qa _
def q5v : SubB Tryz.prog (TIof Tryz.prog) 24 0 (kret [.t 2] decS) := lpB tabOk follows Tryz.f70 75 (.s .z (.s (.s .z (.v [.sel [3] [0]])) (.s .z (.v [.hd 3, .sel [0, 3, 7, 8] [0]])))) S19_ (qgl) (fun f v K n => f (v.i 0 0) (v.i 28 0) (qp8 K) n) (fun v f K => qgk (v.i 0 0) (v.i 28 0) (v.i 32 0) (v.r 0) f (qp8 K)) (fun f v => f (v.i 32 0) (v.r 0)) (fun k v => (fun z0 z1 => k ((v.ui 32 0 z0).ur 0 z1))) (by kernel_rfl) (fun _ _ => (by kernel_rfl)) (fun _ _ _ => (by kernel_rfl)) (fun _ _ _ => (by kernel_rfl)) (fun _ _ => (by kernel_rfl)) (fun _ _ _ _ _ => (by kernel_rfl))
def qmo (v0 : Int) : Option (List UInt8) :=
  (bif decide (0 ≤ (8 : Int) ∧ (8 : Int) ≤ (8 : Int) ∧ (8 : Int) * 1 ≤ 281474976710656) then (bif (hd (List.replicate (8 : Int).toNat ((.int .u8 (0 : Int)) : AV)) ((List.replicate (8 : Int).toNat ((.int .u8 (0 : Int)) : AV)).length) && true) then (qvr v0 (((List.replicate (8 : Int).toNat ((.int .u8 (0 : Int)) : AV)).length) : Int) (fun a0q1 => (bif hd a0q1 a0q1.length then (oB (qy a0q1) fun s2 => (some s2)) else none)) FU (0 : Int) (List.replicate (8 : Int).toNat ((.int .u8 (0 : Int)) : AV))) else none) else none)
def qpv := hull qmo
theorem q84 : qpv = qmo := qa _
def qz3 {R : Type} : EntF Tryz.prog R := entB (nt := 24) (dec := decS) (enc := AV.str) tabOk follows Tryz.func70 [.t 2] hdeS (.s .z (.s .z (.s (.s .z (.b (.sub [.sel [0, 3, 7, 8] [0]] q5v []))) .z))) S20_ qmo (fun f v => f (v.i 0 0)) (by kernel_rfl) (by kernel_rfl) (by kernel_rfl) fun _ => (by kernel_rfl)
def S21_ : Shp := ⟨[(0, .one (.l .s)), (3, .one (.l (.i .u64))), (4, .one (.l (.i .i64)))], []⟩
def S22_ : Shp := ⟨[(3, .one (.l (.i .u64))), (18, .one (.l (.i .i64)))], []⟩
def qq5  (K : Ex → Env → Mem → Option Int) := (fun z_v3 => K (.exit 0) (qe [(3, (.int .u64 z_v3))]) (qd []))
def qhh  (v0 : List UInt8) (v3 v4 : Int) (next : Int → Int → Option Int) (kx0 : Int → Option Int) : Option Int :=
  (bif (decide (v4 < (v0.length : Int))) then (oB (ixB v0 v4) fun c1 => (next (IntKind.u64.wrap ((qdf .xor .u64 v3 (IntKind.u64.wrap (c1.toNat : Int))) * (1099511628211 : Int))) (IntKind.i64.wrap (v4 + (1 : Int))))) else (kx0 v3))
def qhi  (v0 : List UInt8) (kx0 : Int → Option Int) : Nat → Int → Int → Option Int
  | 0 => (fun _ _ => none)
  | n + 1 => (fun v3 v4 => qhh v0 v3 v4 (qhi v0 kx0 n) kx0)
def qz4 := hull (qhi)
theorem q5w : qz4 = qhi := qa _
def q61 : SubB Tryz.prog (TIof Tryz.prog) 27 0 (kret [.t 2] (decI .u64)) := lpB tabOk follows Tryz.f71 75 (.s (.s .z (.s .z (.v [.sel [3] []]))) (.s .z (.v [.sel [0, 3, 4] []]))) S21_ (qhi) (fun f v K n => f (v.s 0 0) (qq5 K) n) (fun v f K => qhh (v.s 0 0) (v.i 12 0) (v.i 16 0) f (qq5 K)) (fun f v => f (v.i 12 0) (v.i 16 0)) (fun k v => (fun z0 z1 => k ((v.ui 12 0 z0).ui 16 0 z1))) (by kernel_rfl) (fun _ _ => (by kernel_rfl)) (fun _ _ _ => (by kernel_rfl)) (fun _ _ _ => (by kernel_rfl)) (fun _ _ => (by kernel_rfl)) (fun _ _ _ _ _ => (by kernel_rfl))
def qp9  (K : Ex → Env → Mem → Option Int) := (fun z_v3 => K (.exit 2) (qe [(3, (.int .u64 z_v3))]) (qd []))
def qfa  (v3 v18 : Int) (next : Int → Int → Option Int) (kx2 : Int → Option Int) : Option Int :=
  (bif (decide (v18 < (3 : Int))) then (next (IntKind.u64.wrap ((qdf .xor .u64 v3 (v3.fdiv (2 ^ min (32 : Int).toNat IntKind.u64.bits))) * (11400714819323198485 : Int))) (IntKind.i64.wrap (v18 + (1 : Int)))) else (kx2 v3))
def qdh  (kx2 : Int → Option Int) : Nat → Int → Int → Option Int
  | 0 => (fun _ _ => none)
  | n + 1 => (fun v3 v18 => qfa v3 v18 (qdh kx2 n) kx2)
def qih := hull (qdh)
theorem q4c : qih = qdh := qa _
def q5x : SubB Tryz.prog (TIof Tryz.prog) 27 0 (kret [.t 2] (decI .u64)) := lpB tabOk follows Tryz.f71 151 (.s .z (.s (.s .z (.v [.sel [3] []])) (.s .z (.v [.sel [3, 18] []])))) S22_ (qdh) (fun f v K n => f (qp9 K) n) (fun v f K => qfa (v.i 12 0) (v.i 72 0) f (qp9 K)) (fun f v => f (v.i 12 0) (v.i 72 0)) (fun k v => (fun z0 z1 => k ((v.ui 12 0 z0).ui 72 0 z1))) (by kernel_rfl) (fun _ _ => (by kernel_rfl)) (fun _ _ _ => (by kernel_rfl)) (fun _ _ _ => (by kernel_rfl)) (fun _ _ => (by kernel_rfl)) (fun _ _ _ _ _ => (by kernel_rfl))
def qnz (v0 : List UInt8) : Option Int :=
  (qz4 v0 (fun v3q1 => (qih (fun v3q2 => (some v3q2)) FU v3q1 (0 : Int))) FU (14695981039346656037 : Int) (0 : Int))
def qxo := hull qnz
theorem qbbd : qxo = qnz := qa _
def qbcg {R : Type} : EntF Tryz.prog R := entB (nt := 27) (dec := (decI .u64)) (enc := (AV.int .u64)) tabOk follows Tryz.func71 [.t 2] hdeI (.s .z (.s .z (.s (.s .z (.b (.sub [.sel [0, 3, 4] []] q61 []))) (.s (.s .z (.b (.sub [.sel [3, 18] []] q5x []))) .z)))) S16_ qnz (fun f v => f (v.s 0 0)) (by kernel_rfl) (by kernel_rfl) (by kernel_rfl) fun _ => (by kernel_rfl)
def qn0 (v0 v1 : List UInt8) : Option (List UInt8) :=
  (oB (qpv (IntKind.u64.wrap (v0.length : Int))) fun r1 => (bif decide (r1.length + v0.length ≤ 9223372036854775807) then (bif decide ((r1 ++ v0).length + v1.length ≤ 9223372036854775807) then (oB (qxo ((r1 ++ v0) ++ v1)) fun r2 => (oB (qpv r2) fun r3 => (some r3))) else none) else none))
def qxp := hull qn0
theorem qbbe : qxp = qn0 := qa _
def qbch {R : Type} : EntF Tryz.prog R := entB (nt := 15) (dec := decS) (enc := AV.str) tabOk follows Tryz.func53 [.t 4] hdeS (.s .z (.s (.r [(3, .c qz3.b), (8, .c qbcg.b), (9, .c qz3.b)] []) .z)) S9_ qn0 (fun f v => f (v.s 0 0) (v.s 4 0)) (by kernel_rfl) (by kernel_rfl) (by kernel_rfl) fun _ => (by kernel_rfl)
def qfo : List LT := [.s, .b, (.i .i64)]
def qc1 (x0 : List UInt8) (x1 : Bool) (x2 : Int) : List AV := [.str x0, .bool x1, .int .i64 x2]
def qb6 : List LT := [.b, (.i .u64), (.i .u64), .s, .s, .s, (.i .i64), (.i .i64), (.i .i64), (.i .i64), (.i .i64), (.i .i64), (.i .u64)]
def q8 (x0 : Bool) (x1 x2 : Int) (x3 x4 x5 : List UInt8) (x6 x7 x8 x9 x10 x11 x12 : Int) : List AV := [.bool x0, .int .u64 x1, .int .u64 x2, .str x3, .str x4, .str x5, .int .i64 x6, .int .i64 x7, .int .i64 x8, .int .i64 x9, .int .i64 x10, .int .i64 x11, .int .u64 x12]
def S23_ : Shp := ⟨[(1, .one (.ptr 0 0)), (2, .one (.ptr 1 0))], [.box true (lk qfo), .box true (lk qb6)]⟩
def S24_ : Shp := ⟨[(1, .one (.ptr 0 0)), (2, .one (.ptr 1 0)), (4, .one (.l (.i .i64))), (5, .one (.l .s))], [.box true (lk qfo), .box true (lk qb6)]⟩
def S25_ : Shp := ⟨[(0, .st (lk qfo))], []⟩
def qn1 : AV → Option (AV × Int) := decN [(.st [.b, (.i .u64), (.i .u64), .s, .s, .s, (.i .i64), (.i .i64), (.i .i64), (.i .i64), (.i .i64), (.i .i64), (.i .u64)]), (.one (.i .i64))] fun z => ((gC (tpL z) 0), aI (gC (tpL z) 1))
def q4d  (Al : List UInt8) (Am : Bool) (An : Int) (Ao : Bool) (Ap Aq : Int) (Ar As At : List UInt8) (Au Av Aw Ax Ay Az A0 : Int) (K : Ex → Env → Mem → Option (AV × Int)) := (fun z_v15 => K .norm (qe [(1, (.ptr 0 0)), (2, (.ptr 1 0)), (15, (.bool z_v15))]) (qd [(some (.box true (qc1 Al Am An))), (some (.box true (q8 Ao Ap Aq Ar As At Au Av Aw Ax Ay Az A0)))]))
def qiu  (Al : List UInt8) (Am : Bool) (An : Int) (Ao : Bool) (Ap Aq : Int) (Ar As At : List UInt8) (Au Av Aw Ax Ay Az A0 : Int) (kn : Bool → Option (AV × Int)) : Option (AV × Int) :=
  (oB (qhz Al) fun r1 => (bif (!r1) then (kn true) else (oB (ixB Al (0 : Int)) fun c2 => (kn ((c2.toNat : Int) == (42 : Int))))))
def qvs := hull (qiu)
theorem q4e : qvs = qiu := qa _
def q5y : SubB Tryz.prog (TIof Tryz.prog) 38 0 (kret [(.cell 2 true 13), .t 3] qn1) := jnB tabOk follows Tryz.f32 9 (.r [(2, .c qmn.b)] [.sel [1, 2, 15] [0, 1]]) S23_ (qiu) (fun f v K => f (v.s 3 0) (v.b 3 1) (v.i 3 2) (v.b 7 0) (v.i 7 1) (v.i 7 2) (v.s 7 3) (v.s 7 4) (v.s 7 5) (v.i 7 6) (v.i 7 7) (v.i 7 8) (v.i 7 9) (v.i 7 10) (v.i 7 11) (v.i 7 12) (q4d (v.s 3 0) (v.b 3 1) (v.i 3 2) (v.b 7 0) (v.i 7 1) (v.i 7 2) (v.s 7 3) (v.s 7 4) (v.s 7 5) (v.i 7 6) (v.i 7 7) (v.i 7 8) (v.i 7 9) (v.i 7 10) (v.i 7 11) (v.i 7 12) K)) (by kernel_rfl) (fun _ _ => (by kernel_rfl))
def q1o  (Al : List UInt8) (Am : Bool) (An : Int) (Ao : Bool) (Ap Aq : Int) (Ar As At : List UInt8) (Au Av Aw Ax Ay Az A0 : Int) (K : Ex → Env → Mem → Option (AV × Int)) := (fun z_v4 z_v5 => K .norm (qe [(1, (.ptr 0 0)), (2, (.ptr 1 0)), (4, (.int .i64 z_v4)), (5, (.str z_v5))]) (qd [(some (.box true (qc1 Al Am An))), (some (.box true (q8 Ao Ap Aq Ar As At Au Av Aw Ax Ay Az A0)))]))
def qh5  (v4 : Int) (v5 Al : List UInt8) (Am : Bool) (An : Int) (Ao : Bool) (Ap Aq : Int) (Ar As At : List UInt8) (Au Av Aw Ax Ay Az A0 : Int) (kn : Int → (List UInt8) → Option (AV × Int)) : Option (AV × Int) :=
  (bif Am then (kn (257 : Int) ([75] : List UInt8)) else (kn v4 v5))
def qt5 := hull (qh5)
theorem q1p : qt5 = qh5 := qa _
def q4f : SubB Tryz.prog (TIof Tryz.prog) 38 0 (kret [(.cell 2 true 13), .t 3] qn1) := jnB tabOk follows Tryz.f32 47 (.s .z (.s (.v [.sel [1, 2, 4, 5] [0, 1]]) (.v [.sel [1, 2, 4, 5] [0, 1]]))) S24_ (qh5) (fun f v K => f (v.i 16 0) (v.s 20 0) (v.s 3 0) (v.b 3 1) (v.i 3 2) (v.b 7 0) (v.i 7 1) (v.i 7 2) (v.s 7 3) (v.s 7 4) (v.s 7 5) (v.i 7 6) (v.i 7 7) (v.i 7 8) (v.i 7 9) (v.i 7 10) (v.i 7 11) (v.i 7 12) (q1o (v.s 3 0) (v.b 3 1) (v.i 3 2) (v.b 7 0) (v.i 7 1) (v.i 7 2) (v.s 7 3) (v.s 7 4) (v.s 7 5) (v.i 7 6) (v.i 7 7) (v.i 7 8) (v.i 7 9) (v.i 7 10) (v.i 7 11) (v.i 7 12) K)) (by kernel_rfl) (fun _ _ => (by kernel_rfl))
def qmp (Aa : List UInt8) (Ab : Bool) (Ac : Int) : Option (AV × Int) :=
  (qvs Aa Ab Ac false (0 : Int) (0 : Int) ([] : List UInt8) ([] : List UInt8) ([] : List UInt8) (0 : Int) (0 : Int) (0 : Int) (0 : Int) (0 : Int) (0 : Int) (0 : Int) (fun v15q1 => (bif v15q1 then (some ((.agg [(.bool false), (.int .u64 (0 : Int)), (.int .u64 (0 : Int)), (.str ([] : List UInt8)), (.str ([] : List UInt8)), (.str ([] : List UInt8)), (.int .i64 (0 : Int)), (.int .i64 (0 : Int)), (.int .i64 (0 : Int)), (.int .i64 (0 : Int)), (.int .i64 (0 : Int)), (.int .i64 (0 : Int)), (.int .u64 (0 : Int))]), (2 : Int))) else (bif ((decide (Ac < (0 : Int))) || (decide (Ac ≥ (2147483648 : Int)))) then (some ((.agg [(.bool false), (.int .u64 (0 : Int)), (.int .u64 (0 : Int)), (.str ([] : List UInt8)), (.str ([] : List UInt8)), (.str ([] : List UInt8)), (.int .i64 (0 : Int)), (.int .i64 (0 : Int)), (.int .i64 (0 : Int)), (.int .i64 (0 : Int)), (.int .i64 (0 : Int)), (.int .i64 (0 : Int)), (.int .u64 (0 : Int))]), (1 : Int))) else (qt5 (256 : Int) ([90] : List UInt8) Aa Ab Ac false (0 : Int) (0 : Int) ([] : List UInt8) ([] : List UInt8) ([] : List UInt8) (0 : Int) (0 : Int) (0 : Int) (0 : Int) (0 : Int) (0 : Int) (0 : Int) (fun v4q2 v5q3 => (oB (q8w Ac) fun r4 => (bif decide (v5q3.length + r4.length ≤ 9223372036854775807) then (oB (qxp Aa (v5q3 ++ r4)) fun r5 => (some ((.agg [(.bool false), (.int .u64 (0 : Int)), (.int .u64 (0 : Int)), (.str ([] : List UInt8)), (.str ([] : List UInt8)), (.str r5), (.int .i64 v4q2), (.int .i64 (3 : Int)), (.int .i64 (253 : Int)), (.int .i64 (0 : Int)), (.int .i64 (0 : Int)), (.int .i64 (0 : Int)), (.int .u64 (0 : Int))]), (0 : Int)))) else none))))))))
def qu7 := hull qmp
theorem q85 : qu7 = qmp := qa _
def qbbf {R : Type} : EntF Tryz.prog R := entB (nt := 38) (dec := qn1) (enc := (fun r => .tup [qow (.st [.b, (.i .u64), (.i .u64), .s, .s, .s, (.i .i64), (.i .i64), (.i .i64), (.i .i64), (.i .i64), (.i .i64), (.i .u64)]) r.1, .int .i64 r.2])) tabOk follows Tryz.func32 [(.cell 2 true 13), .t 3] (hdeN fun _ => rfl) (.s .z (.s (.s (.sub [.sel [1, 2] [0, 1]] q5y []) .z) (.s (.s (.r [(4, .g 3)] []) .z) (.s .z (.s (.sub [.sel [1, 2, 4, 5] [0, 1]] q4f []) (.s (.d [] [(6, .c (eB qbk1)), (8, .c qbch.b)] [] []) .z)))))) S25_ qmp (fun f v => f (v.s 1 0) (v.b 1 1) (v.i 1 2)) (by kernel_rfl) (by kernel_rfl) (by kernel_rfl) fun _ => (by kernel_rfl)
def qqt : Option (List AV) :=
  (bif hd ([(.agg [(.int .i64 (1 : Int)), (.str ([65] : List UInt8)), (.str ([52] : List UInt8))]), (.agg [(.int .i64 (2 : Int)), (.str ([78, 83] : List UInt8)), (.str ([104] : List UInt8))]), (.agg [(.int .i64 (5 : Int)), (.str ([67, 78, 65, 77, 69] : List UInt8)), (.str ([104] : List UInt8))]), (.agg [(.int .i64 (6 : Int)), (.str ([83, 79, 65] : List UInt8)), (.str ([104, 109, 118, 119, 120, 121, 122] : List UInt8))]), (.agg [(.int .i64 (12 : Int)), (.str ([80, 84, 82] : List UInt8)), (.str ([104] : List UInt8))]), (.agg [(.int .i64 (15 : Int)), (.str ([77, 88] : List UInt8)), (.str ([65, 104] : List UInt8))]), (.agg [(.int .i64 (16 : Int)), (.str ([84, 88, 84] : List UInt8)), (.str ([116] : List UInt8))]), (.agg [(.int .i64 (28 : Int)), (.str ([65, 65, 65, 65] : List UInt8)), (.str ([54] : List UInt8))]), (.agg [(.int .i64 (33 : Int)), (.str ([83, 82, 86] : List UInt8)), (.str ([65, 66, 67, 104] : List UInt8))]), (.agg [(.int .i64 (39 : Int)), (.str ([68, 78, 65, 77, 69] : List UInt8)), (.str ([104] : List UInt8))]), (.agg [(.int .i64 (43 : Int)), (.str ([68, 83] : List UInt8)), (.str ([65, 98, 99, 114] : List UInt8))]), (.agg [(.int .i64 (46 : Int)), (.str ([82, 82, 83, 73, 71] : List UInt8)), (.str ([65, 115, 98, 120, 121, 122, 70, 104, 114] : List UInt8))]), (.agg [(.int .i64 (47 : Int)), (.str ([78, 83, 69, 67] : List UInt8)), (.str ([104, 110] : List UInt8))]), (.agg [(.int .i64 (48 : Int)), (.str ([68, 78, 83, 75, 69, 89] : List UInt8)), (.str ([65, 98, 99, 114] : List UInt8))])] : List AV) (([(.agg [(.int .i64 (1 : Int)), (.str ([65] : List UInt8)), (.str ([52] : List UInt8))]), (.agg [(.int .i64 (2 : Int)), (.str ([78, 83] : List UInt8)), (.str ([104] : List UInt8))]), (.agg [(.int .i64 (5 : Int)), (.str ([67, 78, 65, 77, 69] : List UInt8)), (.str ([104] : List UInt8))]), (.agg [(.int .i64 (6 : Int)), (.str ([83, 79, 65] : List UInt8)), (.str ([104, 109, 118, 119, 120, 121, 122] : List UInt8))]), (.agg [(.int .i64 (12 : Int)), (.str ([80, 84, 82] : List UInt8)), (.str ([104] : List UInt8))]), (.agg [(.int .i64 (15 : Int)), (.str ([77, 88] : List UInt8)), (.str ([65, 104] : List UInt8))]), (.agg [(.int .i64 (16 : Int)), (.str ([84, 88, 84] : List UInt8)), (.str ([116] : List UInt8))]), (.agg [(.int .i64 (28 : Int)), (.str ([65, 65, 65, 65] : List UInt8)), (.str ([54] : List UInt8))]), (.agg [(.int .i64 (33 : Int)), (.str ([83, 82, 86] : List UInt8)), (.str ([65, 66, 67, 104] : List UInt8))]), (.agg [(.int .i64 (39 : Int)), (.str ([68, 78, 65, 77, 69] : List UInt8)), (.str ([104] : List UInt8))]), (.agg [(.int .i64 (43 : Int)), (.str ([68, 83] : List UInt8)), (.str ([65, 98, 99, 114] : List UInt8))]), (.agg [(.int .i64 (46 : Int)), (.str ([82, 82, 83, 73, 71] : List UInt8)), (.str ([65, 115, 98, 120, 121, 122, 70, 104, 114] : List UInt8))]), (.agg [(.int .i64 (47 : Int)), (.str ([78, 83, 69, 67] : List UInt8)), (.str ([104, 110] : List UInt8))]), (.agg [(.int .i64 (48 : Int)), (.str ([68, 78, 83, 75, 69, 89] : List UInt8)), (.str ([65, 98, 99, 114] : List UInt8))])] : List AV).length) then (some ([(.agg [(.int .i64 (1 : Int)), (.str ([65] : List UInt8)), (.str ([52] : List UInt8))]), (.agg [(.int .i64 (2 : Int)), (.str ([78, 83] : List UInt8)), (.str ([104] : List UInt8))]), (.agg [(.int .i64 (5 : Int)), (.str ([67, 78, 65, 77, 69] : List UInt8)), (.str ([104] : List UInt8))]), (.agg [(.int .i64 (6 : Int)), (.str ([83, 79, 65] : List UInt8)), (.str ([104, 109, 118, 119, 120, 121, 122] : List UInt8))]), (.agg [(.int .i64 (12 : Int)), (.str ([80, 84, 82] : List UInt8)), (.str ([104] : List UInt8))]), (.agg [(.int .i64 (15 : Int)), (.str ([77, 88] : List UInt8)), (.str ([65, 104] : List UInt8))]), (.agg [(.int .i64 (16 : Int)), (.str ([84, 88, 84] : List UInt8)), (.str ([116] : List UInt8))]), (.agg [(.int .i64 (28 : Int)), (.str ([65, 65, 65, 65] : List UInt8)), (.str ([54] : List UInt8))]), (.agg [(.int .i64 (33 : Int)), (.str ([83, 82, 86] : List UInt8)), (.str ([65, 66, 67, 104] : List UInt8))]), (.agg [(.int .i64 (39 : Int)), (.str ([68, 78, 65, 77, 69] : List UInt8)), (.str ([104] : List UInt8))]), (.agg [(.int .i64 (43 : Int)), (.str ([68, 83] : List UInt8)), (.str ([65, 98, 99, 114] : List UInt8))]), (.agg [(.int .i64 (46 : Int)), (.str ([82, 82, 83, 73, 71] : List UInt8)), (.str ([65, 115, 98, 120, 121, 122, 70, 104, 114] : List UInt8))]), (.agg [(.int .i64 (47 : Int)), (.str ([78, 83, 69, 67] : List UInt8)), (.str ([104, 110] : List UInt8))]), (.agg [(.int .i64 (48 : Int)), (.str ([68, 78, 83, 75, 69, 89] : List UInt8)), (.str ([65, 98, 99, 114] : List UInt8))])] : List AV)) else none)
def qu8 := hull qqt
theorem q86 : qu8 = qqt := qa _
def qz5 {R : Type} : EntF Tryz.prog R := entB (nt := 16) (dec := (decF true 3)) (enc := (AV.fr true 3)) tabOk follows Tryz.func100 [.t 0] hdeF (.z) (⟨[], []⟩ : Shp) qqt (fun f v => f) (by kernel_rfl) (by kernel_rfl) (by kernel_rfl) fun _ => (by kernel_rfl)
def qgm : List LT := [(.i .i64), .s, .s]
def qn2 (x0 : Int) (x1 x2 : List UInt8) : List AV := [.int .i64 x0, .str x1, .str x2]
def S26_ : Shp := ⟨[(0, .one (.l (.i .i64))), (2, .one (.ptr 0 0)), (6, .one (.l (.sl 3))), (7, .one (.l (.i .i64))), (8, .one (.l (.i .i64)))], [.box true (lk qgm)]⟩
def S27_ : Shp := ⟨[(0, .one (.l (.i .i64)))], []⟩
def qvt : AV → Option (AV × Bool) := decN [(.st [(.i .i64), .s, .s]), (.one .b)] fun z => ((gC (tpL z) 0), aB (gC (tpL z) 1))
def qq6  (Al : Int) (Am An : List UInt8) (K : Ex → Env → Mem → Option (AV × Bool)) := (fun (_ : Unit) => K (.exit 0) (qe [(2, (.ptr 0 0))]) (qd [(some (.box true (qn2 Al Am An)))]))
def qt6  (v0 : Int) (v6 : List AV) (v7 v8 Al : Int) (Am An : List UInt8) (next : Int → Option (AV × Bool)) (kx0 : Unit → Option (AV × Bool)) : Option (AV × Bool) :=
  (bif (decide (v8 < v7)) then (oB (ixB v6 v8) fun y1 => (bif fitC qgm y1.cells then (bif ((gI y1.cells 0) == v0) then (some ((.agg [(.int .i64 (gI y1.cells 0)), (.str (gS y1.cells 1)), (.str (gS y1.cells 2))]), true)) else (next (IntKind.i64.wrap (v8 + (1 : Int))))) else none)) else (kx0 ()))
def qj6  (v0 : Int) (v6 : List AV) (v7 Al : Int) (Am An : List UInt8) (kx0 : Unit → Option (AV × Bool)) : Nat → Int → Option (AV × Bool)
  | 0 => (fun _ => none)
  | n + 1 => (fun v8 => qt6 v0 v6 v7 v8 Al Am An (qj6 v0 v6 v7 Al Am An kx0 n) kx0)
def qz6 := hull (qj6)
theorem q5z : qz6 = qj6 := qa _
def q62 : SubB Tryz.prog (TIof Tryz.prog) 19 0 (kret [(.cell 2 true 3), .t 3] qvt) := lpB tabOk follows Tryz.f73 37 (.s .z (.s (.s .z (.v [.sel [2] [0]])) (.s (.b (.s (.r [(0, .p (.etac 10 qgm))] []) .z)) (.v [.sel [0, 2, 6, 7, 8] [0]])))) S26_ (qj6) (fun f v K n => f (v.i 0 0) (v.l 24 0) (v.i 28 0) (v.i 3 0) (v.s 3 1) (v.s 3 2) (qq6 (v.i 3 0) (v.s 3 1) (v.s 3 2) K) n) (fun v f K => qt6 (v.i 0 0) (v.l 24 0) (v.i 28 0) (v.i 32 0) (v.i 3 0) (v.s 3 1) (v.s 3 2) f (qq6 (v.i 3 0) (v.s 3 1) (v.s 3 2) K)) (fun f v => f (v.i 32 0)) (fun k v => (fun z0 => k (v.ui 32 0 z0))) (by kernel_rfl) (fun _ _ => (by kernel_rfl)) (fun _ _ _ => (by kernel_rfl)) (fun _ _ _ => (by kernel_rfl)) (fun _ _ => (by kernel_rfl)) (fun _ _ _ _ _ => (by kernel_rfl))
def qn3 (v0 : Int) : Option (AV × Bool) :=
  (oB (qu8) fun r1 => (qz6 v0 r1 (r1.length : Int) (0 : Int) ([] : List UInt8) ([] : List UInt8) (fun (_ : Unit) => (some ((.agg [(.int .i64 (0 : Int)), (.str ([] : List UInt8)), (.str ([] : List UInt8))]), false))) FU (0 : Int)))
def qrp := hull qn3
theorem qbbg : qrp = qn3 := qa _
def q1q {R : Type} : EntF Tryz.prog R := entB (nt := 19) (dec := qvt) (enc := (fun r => .tup [qow (.st [(.i .i64), .s, .s]) r.1, .bool r.2])) tabOk follows Tryz.func73 [(.cell 2 true 3), .t 3] (hdeN fun _ => rfl) (.s .z (.s (.s (.r [(0, .k qz5.b)] []) (.b (.sub [.sel [0, 2, 6, 7, 8] [0]] q62 []))) .z)) S27_ qn3 (fun f v => f (v.i 0 0)) (by kernel_rfl) (by kernel_rfl) (by kernel_rfl) fun _ => (by kernel_rfl)
def qbft : List LT := [.b, (.i .u64), (.i .u64)]
def S28_ : Shp := ⟨[(0, .st (lk qbft))], []⟩
def q1r (Aa : Bool) (Ab Ac : Int) : Option Bool :=
  (bif Aa then (some true) else (bif (Ab == (0 : Int)) then (some (decide (Ac ≤ (4294967295 : Int)))) else (some false)))
def q63 := hull q1r
def q1s {R : Type} : EntF Tryz.prog R := entB (nt := 15) (dec := decB) (enc := AV.bool) tabOk follows Tryz.func101 [.t 2] hdeB (.z) S28_ q1r (fun f v => f (v.b 1 0) (v.i 1 1) (v.i 1 2)) (by kernel_rfl) (by kernel_rfl) (by kernel_rfl) fun _ => (by kernel_rfl)
def qlo (v0 v1 : List UInt8) : Option Bool :=
  (bif (decide ((v0.length : Int) ≥ (v1.length : Int))) then (oB (cutI v0 none (some (v1.length : Int))) fun s1 => (some (s1 == v1))) else (some false))
def qvu := hull qlo
def qtq {R : Type} : EntF Tryz.prog R := entB (nt := 18) (dec := decB) (enc := AV.bool) tabOk follows Tryz.func152 [.t 4] hdeB (.z) S9_ qlo (fun f v => f (v.s 0 0) (v.s 4 0)) (by kernel_rfl) (by kernel_rfl) (by kernel_rfl) fun _ => (by kernel_rfl)
def qo6 (v0 v1 : List UInt8) : Option Bool :=
  (oB (qvu v0 v1) fun r1 => (some r1))
def q4g := hull qo6
def q0m {R : Type} : EntF Tryz.prog R := entB (nt := 8) (dec := decB) (enc := AV.bool) tabOk follows Tryz.func136 [.t 4] hdeB (.s .z (.s (.r [(2, .c qtq.b)] []) .z)) S9_ qo6 (fun f v => f (v.s 0 0) (v.s 4 0)) (by kernel_rfl) (by kernel_rfl) (by kernel_rfl) fun _ => (by kernel_rfl)
def q1t (v0 : List UInt8) : Option Bool :=
  (oB (qhz v0) fun r1 => (bif r1 then (oB (q4g v0 ([42] : List UInt8)) fun r2 => (some (!r2))) else (some false)))
def qk5 := hull q1t
def qii {R : Type} : EntF Tryz.prog R := entB (nt := 10) (dec := decB) (enc := AV.bool) tabOk follows Tryz.func102 [.t 2] hdeB (.s .z (.s (.r [(1, .c qmn.b), (4, .c q0m.b)] []) .z)) S16_ q1t (fun f v => f (v.s 0 0)) (by kernel_rfl) (by kernel_rfl) (by kernel_rfl) fun _ => (by kernel_rfl)
def qvv (v0 : Int) : Option Bool :=
  (some ((decide (v0 ≥ (0 : Int))) && (decide (v0 < (4294967296 : Int)))))
def qbci := hull qvv
def q87 {R : Type} : EntF Tryz.prog R := entB (nt := 9) (dec := decB) (enc := AV.bool) tabOk follows Tryz.func103 [.t 2] hdeB (.s .z (.s (.r [(3, .g 2)] []) .z)) S27_ qvv (fun f v => f (v.i 0 0)) (by kernel_rfl) (by kernel_rfl) (by kernel_rfl) fun _ => (by kernel_rfl)
def S29_ : Shp := ⟨[(0, .one (.l (.i .i64))), (1, .one (.l (.i .i64)))], []⟩
def qpg (v0 v1 : Int) : Option Bool :=
  (some ((decide (v0 ≥ (0 : Int))) && (decide (v0 ≤ v1))))
def qba := hull qpg
theorem q64 : qba = qpg := qa _
def qbb {R : Type} : EntF Tryz.prog R := entB (nt := 12) (dec := decB) (enc := AV.bool) tabOk follows Tryz.func104 [.t 4] hdeB (.s .z (.s (.r [(3, .g 3)] []) .z)) S29_ qpg (fun f v => f (v.i 0 0) (v.i 4 0)) (by kernel_rfl) (by kernel_rfl) (by kernel_rfl) fun _ => (by kernel_rfl)
def qn4 (v0 : List UInt8) : Option Bool :=
  (some ((decide ((v0.length : Int) ≥ (1 : Int))) && (decide ((v0.length : Int) ≤ (255 : Int)))))
def qn5 := hull qn4
theorem qbbh : qn5 = qn4 := qa _
def qsh {R : Type} : EntF Tryz.prog R := entB (nt := 11) (dec := decB) (enc := AV.bool) tabOk follows Tryz.func105 [.t 2] hdeB (.s .z (.s (.r [(4, .g 3)] []) .z)) S16_ qn4 (fun f v => f (v.s 0 0)) (by kernel_rfl) (by kernel_rfl) (by kernel_rfl) fun _ => (by kernel_rfl)
def qz7 (v0 : Int) : Option Bool :=
  (oB (qrp v0) fun r1 => (some r1.2))
def qbed := hull qz7
def qbbi {R : Type} : EntF Tryz.prog R := entB (nt := 11) (dec := decB) (enc := AV.bool) tabOk follows Tryz.func106 [.t 2] hdeB (.s .z (.s (.r [(1, .c q1q.b)] []) .z)) S27_ qz7 (fun f v => f (v.i 0 0)) (by kernel_rfl) (by kernel_rfl) (by kernel_rfl) fun _ => (by kernel_rfl)
def S30_ : Shp := ⟨[(1, .one (.l (.i .u64))), (4, .one (.l (.sl 3))), (5, .one (.l (.i .i64))), (6, .one (.l (.i .i64)))], []⟩
def qsi  (K : Ex → Env → Mem → Option Int) := (fun z_v1 => K (.exit 0) (qe [(1, (.int .u64 z_v1))]) (qd []))
def qvw  (v1 : Int) (v4 : List AV) (v5 v6 : Int) (next : Int → Int → Option Int) (kx0 : Int → Option Int) : Option Int :=
  (bif (decide (v6 < v5)) then (oB (ixB v4 v6) fun y1 => (bif fitC qgm y1.cells then (bif decide ((gI y1.cells 0) < 0) then none else (next (qdf .or .u64 v1 (IntKind.u64.wrap ((1 : Int) * 2 ^ min (gI y1.cells 0).toNat IntKind.u64.bits))) (IntKind.i64.wrap (v6 + (1 : Int))))) else none)) else (kx0 v1))
def qph  (v4 : List AV) (v5 : Int) (kx0 : Int → Option Int) : Nat → Int → Int → Option Int
  | 0 => (fun _ _ => none)
  | n + 1 => (fun v1 v6 => qvw v1 v4 v5 v6 (qph v4 v5 kx0 n) kx0)
def qbcj := hull (qph)
def q88 : SubB Tryz.prog (TIof Tryz.prog) 17 0 (kret [.t 0] (decI .u64)) := lpB tabOk follows Tryz.f107 75 (.s .z (.s (.s .z (.v [.sel [1] []])) (.s (.b (.s (.r [(0, .p (.etac 8 qgm))] []) .z)) (.v [.sel [1, 4, 5, 6] []])))) S30_ (qph) (fun f v K n => f (v.l 16 0) (v.i 20 0) (qsi K) n) (fun v f K => qvw (v.i 4 0) (v.l 16 0) (v.i 20 0) (v.i 24 0) f (qsi K)) (fun f v => f (v.i 4 0) (v.i 24 0)) (fun k v => (fun z0 z1 => k ((v.ui 4 0 z0).ui 24 0 z1))) (by kernel_rfl) (fun _ _ => (by kernel_rfl)) (fun _ _ _ => (by kernel_rfl)) (fun _ _ _ => (by kernel_rfl)) (fun _ _ => (by kernel_rfl)) (fun _ _ _ _ _ => (by kernel_rfl))
def q48 : Option Int :=
  (oB (qu8) fun r1 => (qbcj r1 (r1.length : Int) (fun v1q2 => (some v1q2)) FU (0 : Int) (0 : Int)))
def qbgp := hull q48
def qbee {R : Type} : EntF Tryz.prog R := entB (nt := 17) (dec := (decI .u64)) (enc := (AV.int .u64)) tabOk follows Tryz.func107 [.t 0] hdeI (.s .z (.s .z (.s (.s (.r [(0, .k qz5.b)] []) (.b (.sub [.sel [1, 4, 5, 6] []] q88 []))) .z))) (⟨[], []⟩ : Shp) q48 (fun f v => f) (by kernel_rfl) (by kernel_rfl) (by kernel_rfl) fun _ => (by kernel_rfl)
def S31_ : Shp := ⟨[(0, .one (.l (.i .i64))), (3, .one (.ptr 0 0)), (5, .one (.l (.i .i64)))], [.box true (lk qb6)]⟩
def S32_ : Shp := ⟨[(3, .one (.ptr 0 0)), (5, .one (.l (.i .i64)))], [.box true (lk qb6)]⟩
def S33_ : Shp := ⟨[(3, .one (.ptr 0 0))], [.box true (lk qb6)]⟩
def S34_ : Shp := ⟨[(0, .one (.l (.i .i64))), (1, .st (lk qb6))], []⟩
def q4h  (v0 v5 : Int) (Al : Bool) (Am An : Int) (A1 A2 A3 : List UInt8) (A4 A5 A6 A7 A8 A9 Ba : Int) (K : Ex → Env → Mem → Option Bool) := (fun z_v6 => K .norm (qe [(0, (.int .i64 v0)), (3, (.ptr 0 0)), (5, (.int .i64 v5)), (6, (.bool z_v6))]) (qd [(some (.box true (q8 Al Am An A1 A2 A3 A4 A5 A6 A7 A8 A9 Ba)))]))
def qiv  (v0 v5 : Int) (Al : Bool) (Am An : Int) (A1 A2 A3 : List UInt8) (A4 A5 A6 A7 A8 A9 Ba : Int) (kn : Bool → Option Bool) : Option Bool :=
  (bif (v5 == (1 : Int)) then (kn true) else (kn (v5 == (28 : Int))))
def qvx := hull (qiv)
theorem q4i : qvx = qiv := qa _
def q50 : SubB Tryz.prog (TIof Tryz.prog) 324 0 (kret [.t 4] decB) := jnB tabOk follows Tryz.f74 37 (.s .z (.s (.v [.sel [0, 3, 5, 6] [0]]) (.v [.sel [0, 3, 5, 6] [0]]))) S31_ (qiv) (fun f v K => f (v.i 0 0) (v.i 20 0) (v.b 3 0) (v.i 3 1) (v.i 3 2) (v.s 3 3) (v.s 3 4) (v.s 3 5) (v.i 3 6) (v.i 3 7) (v.i 3 8) (v.i 3 9) (v.i 3 10) (v.i 3 11) (v.i 3 12) (q4h (v.i 0 0) (v.i 20 0) (v.b 3 0) (v.i 3 1) (v.i 3 2) (v.s 3 3) (v.s 3 4) (v.s 3 5) (v.i 3 6) (v.i 3 7) (v.i 3 8) (v.i 3 9) (v.i 3 10) (v.i 3 11) (v.i 3 12) K)) (by kernel_rfl) (fun _ _ => (by kernel_rfl))
def q1u  (v5 : Int) (Al : Bool) (Am An : Int) (A1 A2 A3 : List UInt8) (A4 A5 A6 A7 A8 A9 Ba : Int) (K : Ex → Env → Mem → Option Bool) := (fun z_v27 => K .norm (qe [(3, (.ptr 0 0)), (5, (.int .i64 v5)), (27, (.bool z_v27))]) (qd [(some (.box true (q8 Al Am An A1 A2 A3 A4 A5 A6 A7 A8 A9 Ba)))]))
def qh6  (v5 : Int) (Al : Bool) (Am An : Int) (A1 A2 A3 : List UInt8) (A4 A5 A6 A7 A8 A9 Ba : Int) (kn : Bool → Option Bool) : Option Bool :=
  (bif (v5 == (2 : Int)) then (kn true) else (bif (v5 == (5 : Int)) then (kn true) else (bif (v5 == (12 : Int)) then (kn true) else (kn (v5 == (39 : Int))))))
def qt7 := hull (qh6)
theorem q1v : qt7 = qh6 := qa _
def q4j : SubB Tryz.prog (TIof Tryz.prog) 324 0 (kret [.t 4] decB) := jnB tabOk follows Tryz.f74 181 (.s .z (.s (.v [.sel [3, 5, 27] [0]]) (.s .z (.s (.v [.sel [3, 5, 27] [0]]) (.s .z (.s (.v [.sel [3, 5, 27] [0]]) (.v [.sel [3, 5, 27] [0]]))))))) S32_ (qh6) (fun f v K => f (v.i 20 0) (v.b 3 0) (v.i 3 1) (v.i 3 2) (v.s 3 3) (v.s 3 4) (v.s 3 5) (v.i 3 6) (v.i 3 7) (v.i 3 8) (v.i 3 9) (v.i 3 10) (v.i 3 11) (v.i 3 12) (q1u (v.i 20 0) (v.b 3 0) (v.i 3 1) (v.i 3 2) (v.s 3 3) (v.s 3 4) (v.s 3 5) (v.i 3 6) (v.i 3 7) (v.i 3 8) (v.i 3 9) (v.i 3 10) (v.i 3 11) (v.i 3 12) K)) (by kernel_rfl) (fun _ _ => (by kernel_rfl))
def q1w  (K : Ex → Env → Mem → Option Bool) := (fun z_v4 => K .norm (qe [(4, (.bool z_v4))]) (qd []))
def qq7  (Al : Bool) (Am An : Int) (A1 A2 A3 : List UInt8) (A4 A5 A6 A7 A8 A9 Ba : Int) (kn : Bool → Option Bool) : Option Bool :=
  (bif ((Al == false) && ((Am == (0 : Int)) && ((An == (0 : Int)) && ((A1 == A1) && ((A2 == A2) && ((A3 == ([] : List UInt8)) && ((A4 == A4) && ((A5 == A5) && ((A6 == A6) && ((A7 == A7) && ((A8 == A8) && ((A9 == (0 : Int)) && ((Ba == (0 : Int)) && true))))))))))))) then (oB (qk5 A1) fun r1 => (bif r1 then (oB (qk5 A2) fun r2 => (bif r2 then (oB (qbci A4) fun r3 => (bif r3 then (oB (qba A5 (2147483647 : Int)) fun r4 => (bif r4 then (oB (qba A6 (2147483647 : Int)) fun r5 => (bif r5 then (oB (qba A7 (2147483647 : Int)) fun r6 => (bif r6 then (oB (qba A8 (2147483647 : Int)) fun r7 => (kn r7)) else (kn false))) else (kn false))) else (kn false))) else (kn false))) else (kn false))) else (kn false))) else (kn false))
def q65 := hull (qq7)
def q4k : SubB Tryz.prog (TIof Tryz.prog) 324 0 (kret [.t 4] decB) := jnB tabOk follows Tryz.f74 2549 (.r [(20, .c qii.b), (25, .c qii.b), (30, .c q87.b), (35, .c qbb.b), (40, .c qbb.b), (45, .c qbb.b), (50, .c qbb.b)] [.sel [4] []]) S33_ (qq7) (fun f v K => f (v.b 3 0) (v.i 3 1) (v.i 3 2) (v.s 3 3) (v.s 3 4) (v.s 3 5) (v.i 3 6) (v.i 3 7) (v.i 3 8) (v.i 3 9) (v.i 3 10) (v.i 3 11) (v.i 3 12) (q1w K)) (by kernel_rfl) (fun _ _ => (by kernel_rfl))
def q1x  (K : Ex → Env → Mem → Option Bool) := (fun z_v4 => K .norm (qe [(4, (.bool z_v4))]) (qd []))
def qq8  (Al : Bool) (Am An : Int) (A1 A2 A3 : List UInt8) (A4 A5 A6 A7 A8 A9 Ba : Int) (kn : Bool → Option Bool) : Option Bool :=
  (bif ((Al == false) && ((Am == (0 : Int)) && ((An == (0 : Int)) && ((A1 == A1) && ((A2 == ([] : List UInt8)) && ((A3 == A3) && ((A4 == A4) && ((A5 == A5) && ((A6 == A6) && ((A7 == A7) && ((A8 == A8) && ((A9 == A9) && ((Ba == (0 : Int)) && true))))))))))))) then (oB (qn5 A3) fun r1 => (bif r1 then (oB (qk5 A1) fun r2 => (bif r2 then (oB (qbed A4) fun r3 => (bif (r3 && (A4 != (46 : Int))) then (oB (qba A5 (127 : Int)) fun r4 => (bif r4 then (oB (qba A6 (2147483647 : Int)) fun r5 => (bif r5 then (oB (qba A7 (4294967295 : Int)) fun r6 => (bif r6 then (oB (qba A8 (4294967295 : Int)) fun r7 => (bif r7 then (oB (qba A9 (65535 : Int)) fun r8 => (kn r8)) else (kn false))) else (kn false))) else (kn false))) else (kn false))) else (kn false))) else (kn false))) else (kn false))) else (kn false))
def q66 := hull (qq8)
def q4l : SubB Tryz.prog (TIof Tryz.prog) 324 0 (kret [.t 4] decB) := jnB tabOk follows Tryz.f74 2621429 (.r [(22, .c qsh.b), (27, .c qii.b), (32, .c qbbi.b), (35, .g 3), (42, .c qbb.b), (47, .c qbb.b), (52, .c qbb.b), (57, .c qbb.b), (62, .c qbb.b)] [.sel [4] []]) S33_ (qq8) (fun f v K => f (v.b 3 0) (v.i 3 1) (v.i 3 2) (v.s 3 3) (v.s 3 4) (v.s 3 5) (v.i 3 6) (v.i 3 7) (v.i 3 8) (v.i 3 9) (v.i 3 10) (v.i 3 11) (v.i 3 12) (q1x K)) (by kernel_rfl) (fun _ _ => (by kernel_rfl))
def q1y  (K : Ex → Env → Mem → Option Bool) := (fun z_v4 => K .norm (qe [(4, (.bool z_v4))]) (qd []))
def qh7  (Al : Bool) (Am An : Int) (A1 A2 A3 : List UInt8) (A4 A5 A6 A7 A8 A9 Ba : Int) (kn : Bool → Option Bool) : Option Bool :=
  (bif ((Al == false) && ((Am == (0 : Int)) && ((An == (0 : Int)) && ((A1 == ([] : List UInt8)) && ((A2 == ([] : List UInt8)) && ((A3 == A3) && ((A4 == A4) && ((A5 == A5) && ((A6 == A6) && ((A7 == (0 : Int)) && ((A8 == (0 : Int)) && ((A9 == (0 : Int)) && ((Ba == (0 : Int)) && true))))))))))))) then (oB (qn5 A3) fun r1 => (bif r1 then (bif (A4 == (256 : Int)) then (bif (A5 == (3 : Int)) then (oB (qba A6 (255 : Int)) fun r2 => (kn r2)) else (kn false)) else (bif ((A4 == (257 : Int)) && (A5 == (3 : Int))) then (oB (qba A6 (255 : Int)) fun r3 => (kn r3)) else (kn false))) else (kn false))) else (kn false))
def qt8 := hull (qh7)
theorem q1z : qt8 = qh7 := qa _
def q4m : SubB Tryz.prog (TIof Tryz.prog) 324 0 (kret [.t 4] decB) := jnB tabOk follows Tryz.f74 41943029 (.r [(14, .c qsh.b), (27, .g 3), (34, .c qbb.b)] [.sel [4] []]) S33_ (qh7) (fun f v K => f (v.b 3 0) (v.i 3 1) (v.i 3 2) (v.s 3 3) (v.s 3 4) (v.s 3 5) (v.i 3 6) (v.i 3 7) (v.i 3 8) (v.i 3 9) (v.i 3 10) (v.i 3 11) (v.i 3 12) (q1y K)) (by kernel_rfl) (fun _ _ => (by kernel_rfl))
def qmq (v0 : Int) (Bb : Bool) (Bc Bd : Int) (Be Bf Bg : List UInt8) (Bh Bi Bj Bl Bm Bn Bo : Int) : Option Bool :=
  (qvx v0 v0 Bb Bc Bd Be Bf Bg Bh Bi Bj Bl Bm Bn Bo (fun v6q1 => (bif v6q1 then (bif ((Bb == Bb) && ((Bc == Bc) && ((Bd == Bd) && ((Be == ([] : List UInt8)) && ((Bf == ([] : List UInt8)) && ((Bg == ([] : List UInt8)) && ((Bh == (0 : Int)) && ((Bi == (0 : Int)) && ((Bj == (0 : Int)) && ((Bl == (0 : Int)) && ((Bm == (0 : Int)) && ((Bn == (0 : Int)) && ((Bo == (0 : Int)) && true))))))))))))) then (oB (q63 Bb Bc Bd) fun r2 => (some (r2 && ((Bb == (v0 == (28 : Int))) && true)))) else (some false)) else (qt7 v0 Bb Bc Bd Be Bf Bg Bh Bi Bj Bl Bm Bn Bo (fun v27q3 => (bif v27q3 then (bif ((Bb == false) && ((Bc == (0 : Int)) && ((Bd == (0 : Int)) && ((Be == Be) && ((Bf == ([] : List UInt8)) && ((Bg == ([] : List UInt8)) && ((Bh == (0 : Int)) && ((Bi == (0 : Int)) && ((Bj == (0 : Int)) && ((Bl == (0 : Int)) && ((Bm == (0 : Int)) && ((Bn == (0 : Int)) && ((Bo == (0 : Int)) && true))))))))))))) then (oB (qk5 Be) fun r4 => (some r4)) else (some false)) else (bif (v0 == (6 : Int)) then (q65 Bb Bc Bd Be Bf Bg Bh Bi Bj Bl Bm Bn Bo (fun v4q5 => (some v4q5))) else (bif (v0 == (15 : Int)) then (bif ((Bb == false) && ((Bc == (0 : Int)) && ((Bd == (0 : Int)) && ((Be == Be) && ((Bf == ([] : List UInt8)) && ((Bg == ([] : List UInt8)) && ((Bh == Bh) && ((Bi == (0 : Int)) && ((Bj == (0 : Int)) && ((Bl == (0 : Int)) && ((Bm == (0 : Int)) && ((Bn == (0 : Int)) && ((Bo == (0 : Int)) && true))))))))))))) then (oB (qk5 Be) fun r6 => (bif r6 then (oB (qba Bh (65535 : Int)) fun r7 => (some r7)) else (some false))) else (some false)) else (bif (v0 == (16 : Int)) then (some (((Bb == false) && ((Bc == (0 : Int)) && ((Bd == (0 : Int)) && ((Be == ([] : List UInt8)) && ((Bf == ([] : List UInt8)) && ((Bg == Bg) && ((Bh == (0 : Int)) && ((Bi == (0 : Int)) && ((Bj == (0 : Int)) && ((Bl == (0 : Int)) && ((Bm == (0 : Int)) && ((Bn == (0 : Int)) && ((Bo == (0 : Int)) && true))))))))))))) && (decide ((Bg.length : Int) ≤ (255 : Int))))) else (bif (v0 == (33 : Int)) then (bif ((Bb == false) && ((Bc == (0 : Int)) && ((Bd == (0 : Int)) && ((Be == Be) && ((Bf == ([] : List UInt8)) && ((Bg == ([] : List UInt8)) && ((Bh == Bh) && ((Bi == Bi) && ((Bj == Bj) && ((Bl == (0 : Int)) && ((Bm == (0 : Int)) && ((Bn == (0 : Int)) && ((Bo == (0 : Int)) && true))))))))))))) then (oB (qk5 Be) fun r8 => (bif r8 then (oB (qba Bh (65535 : Int)) fun r9 => (bif r9 then (oB (qba Bi (65535 : Int)) fun r10 => (bif r10 then (oB (qba Bj (65535 : Int)) fun r11 => (some r11)) else (some false))) else (some false))) else (some false))) else (some false)) else (bif (v0 == (43 : Int)) then (bif ((Bb == false) && ((Bc == (0 : Int)) && ((Bd == (0 : Int)) && ((Be == ([] : List UInt8)) && ((Bf == ([] : List UInt8)) && ((Bg == Bg) && ((Bh == Bh) && ((Bi == Bi) && ((Bj == Bj) && ((Bl == (0 : Int)) && ((Bm == (0 : Int)) && ((Bn == (0 : Int)) && ((Bo == (0 : Int)) && true))))))))))))) then (oB (qn5 Bg) fun r12 => (bif r12 then (oB (qba Bh (65535 : Int)) fun r13 => (bif r13 then (oB (qba Bi (255 : Int)) fun r14 => (bif r14 then (oB (qba Bj (255 : Int)) fun r15 => (some r15)) else (some false))) else (some false))) else (some false))) else (some false)) else (bif (v0 == (46 : Int)) then (q66 Bb Bc Bd Be Bf Bg Bh Bi Bj Bl Bm Bn Bo (fun v4q16 => (some v4q16))) else (bif (v0 == (47 : Int)) then (bif ((Bb == false) && ((Bc == (0 : Int)) && ((Bd == (0 : Int)) && ((Be == Be) && ((Bf == ([] : List UInt8)) && ((Bg == ([] : List UInt8)) && ((Bh == (0 : Int)) && ((Bi == (0 : Int)) && ((Bj == (0 : Int)) && ((Bl == (0 : Int)) && ((Bm == (0 : Int)) && ((Bn == (0 : Int)) && ((Bo == Bo) && true))))))))))))) then (oB (qhz Be) fun r17 => (bif r17 then (bif (Bo != (0 : Int)) then (oB (qbgp) fun r18 => (some ((qdf .andNot .u64 Bo r18) == (0 : Int)))) else (some false)) else (some false))) else (some false)) else (bif (v0 == (48 : Int)) then (qt8 Bb Bc Bd Be Bf Bg Bh Bi Bj Bl Bm Bn Bo (fun v4q19 => (some v4q19))) else (some false)))))))))))))))
def qu9 := hull qmq
theorem q89 : qu9 = qmq := qa _
def qbbj {R : Type} : EntF Tryz.prog R := entB (nt := 324) (dec := decB) (enc := AV.bool) tabOk follows Tryz.func74 [.t 4] hdeB (.s .z (.s (.s .z (.b (.s (.sub [.sel [0, 3, 5] [0]] q50 []) (.s (.s (.r [(8, .c q1s.b), (11, .g 6)] []) .z) (.s (.sub [.sel [3, 5] [0]] q4j []) (.s (.s (.r [(8, .c qii.b)] []) .z) (.s .z (.s (.s (.sub [.sel [3] [0]] q4k []) .z) (.s .z (.s (.s (.r [(10, .c qii.b), (15, .c qbb.b)] []) .z) (.s .z (.s (.s (.r [(6, .g 4)] []) .z) (.s .z (.s (.s (.r [(14, .c qii.b), (19, .c qbb.b), (24, .c qbb.b), (29, .c qbb.b)] []) .z) (.s .z (.s (.s (.r [(14, .c qsh.b), (19, .c qbb.b), (24, .c qbb.b), (29, .c qbb.b)] []) .z) (.s .z (.s (.s (.sub [.sel [3] [0]] q4l []) .z) (.s .z (.s (.s (.d [] [(10, .c qmn.b), (20, .c qbee.b)] [] []) .z) (.s .z (.s (.s (.sub [.sel [3] [0]] q4m []) .z) .z)))))))))))))))))))))) .z)) S34_ qmq (fun f v => f (v.i 0 0) (v.b 5 0) (v.i 5 1) (v.i 5 2) (v.s 5 3) (v.s 5 4) (v.s 5 5) (v.i 5 6) (v.i 5 7) (v.i 5 8) (v.i 5 9) (v.i 5 10) (v.i 5 11) (v.i 5 12)) (by kernel_rfl) (by kernel_rfl) (by kernel_rfl) fun _ => (by kernel_rfl)
def q10  (v0 : List UInt8) (K : Ex → Env → Mem → Option (List AV)) := (fun z_v9 => K .norm (qe [(0, (.str v0)), (9, (.bool z_v9))]) (qd []))
def qq9  (v0 : List UInt8) (kn : Bool → Option (List AV)) : Option (List AV) :=
  (bif (v0 == ([46] : List UInt8)) then (kn true) else (oB (qhz v0) fun r1 => (kn (!r1))))
def q67 := hull (qq9)
def q4n : SubB Tryz.prog (TIof Tryz.prog) 16 0 (kret [.t 2] (decX (.one (.sl 1)) fun z => aL z)) := jnB tabOk follows Tryz.f108 9 (.r [(4, .c qmn.b)] [.sel [0, 9] []]) S16_ (qq9) (fun f v K => f (v.s 0 0) (q10 (v.s 0 0) K)) (by kernel_rfl) (fun _ _ => (by kernel_rfl))
def qvy (v0 : List UInt8) : Option (List AV) :=
  (q67 v0 (fun v9q1 => (bif v9q1 then (some ([] : List AV)) else (oB (cutI v0 none (some (IntKind.i64.wrap ((v0.length : Int) - (1 : Int))))) fun s2 => (oB (qml s2 ([46] : List UInt8)) fun r3 => (some r3))))))
def qbck := hull qvy
def q9a {R : Type} : EntF Tryz.prog R := entB (nt := 16) (dec := (decX (.one (.sl 1)) fun z => aL z)) (enc := (fun r => .sl 1 r)) tabOk follows Tryz.func108 [.t 2] (hdeX fun _ => rfl) (.s .z (.s (.s (.sub [.sel [0] []] q4n []) (.s (.s .z (.v [.eta 2 (.one (.sl 1))])) .z)) (.s (.r [(5, .k qt2.b)] []) .z))) S16_ qvy (fun f v => f (v.s 0 0)) (by kernel_rfl) (by kernel_rfl) (by kernel_rfl) fun _ => (by kernel_rfl)
def S35_ : Shp := ⟨[(3, .one (.l .s)), (7, .one (.l (.sl 1))), (8, .one (.l (.i .i64))), (9, .one (.l (.i .i64)))], []⟩
def qra  (K : Ex → Env → Mem → Option (List UInt8)) := (fun z_v3 => K (.exit 0) (qe [(3, (.str z_v3))]) (qd []))
def qt9  (v3 : List UInt8) (v7 : List AV) (v8 v9 : Int) (next : (List UInt8) → Int → Option (List UInt8)) (kx0 : (List UInt8) → Option (List UInt8)) : Option (List UInt8) :=
  (bif (decide (v9 < v8)) then (oB (ixB v7 v9) fun y1 => (bif fitC [.s] y1.cells then (bif hd ([(.int .u8 (IntKind.u8.wrap ((gS y1.cells 0).length : Int)))] : List AV) (([(.int .u8 (IntKind.u8.wrap ((gS y1.cells 0).length : Int)))] : List AV).length) then (oB (qy ([(.int .u8 (IntKind.u8.wrap ((gS y1.cells 0).length : Int)))] : List AV)) fun s2 => (bif decide (s2.length + (gS y1.cells 0).length ≤ 9223372036854775807) then (bif decide (v3.length + (s2 ++ (gS y1.cells 0)).length ≤ 9223372036854775807) then (next (v3 ++ (s2 ++ (gS y1.cells 0))) (IntKind.i64.wrap (v9 + (1 : Int)))) else none) else none)) else none) else none)) else (kx0 v3))
def qn6  (v7 : List AV) (v8 : Int) (kx0 : (List UInt8) → Option (List UInt8)) : Nat → (List UInt8) → Int → Option (List UInt8)
  | 0 => (fun _ _ => none)
  | n + 1 => (fun v3 v9 => qt9 v3 v7 v8 v9 (qn6 v7 v8 kx0 n) kx0)
def qbbk := hull (qn6)
def q68 : SubB Tryz.prog (TIof Tryz.prog) 25 0 (kret [.t 2] decS) := lpB tabOk follows Tryz.f75 75 (.s .z (.s (.s .z (.v [.sel [3] []])) (.s (.b (.s (.r [(0, .p (.etac 11 [.s]))] []) .z)) (.v [.sel [3, 7, 8, 9] []])))) S35_ (qn6) (fun f v K n => f (v.l 28 0) (v.i 32 0) (qra K) n) (fun v f K => qt9 (v.s 12 0) (v.l 28 0) (v.i 32 0) (v.i 36 0) f (qra K)) (fun f v => f (v.s 12 0) (v.i 36 0)) (fun k v => (fun z0 z1 => k ((v.us 12 0 z0).ui 36 0 z1))) (by kernel_rfl) (fun _ _ => (by kernel_rfl)) (fun _ _ _ => (by kernel_rfl)) (fun _ _ _ => (by kernel_rfl)) (fun _ _ => (by kernel_rfl)) (fun _ _ _ _ _ => (by kernel_rfl))
def q11 (v0 : List UInt8) : Option (List UInt8) :=
  (oB (qbck v0) fun r1 => (qbbk r1 (r1.length : Int) (fun v3q2 => (bif decide (v3q2.length + ([0] : List UInt8).length ≤ 9223372036854775807) then (some (v3q2 ++ ([0] : List UInt8))) else none)) FU ([] : List UInt8) (0 : Int)))
def q69 := hull q11
def q12 {R : Type} : EntF Tryz.prog R := entB (nt := 25) (dec := decS) (enc := AV.str) tabOk follows Tryz.func75 [.t 2] hdeS (.s .z (.s .z (.s (.s (.r [(1, .k q9a.b)] []) (.b (.sub [.sel [3, 7, 8, 9] []] q68 []))) .z))) S16_ q11 (fun f v => f (v.s 0 0)) (by kernel_rfl) (by kernel_rfl) (by kernel_rfl) fun _ => (by kernel_rfl)
def qrb  (K : Ex → Env → Mem → Option (List AV)) := (fun z_a0 => K (.exit 0) (qe [(3, (.own 0 z_a0.length))]) (qd [(some (.arr true 1 z_a0))]))
def qua  (v0 v7 v8 : Int) (a0 : List AV) (next : Int → (List AV) → Option (List AV)) (kx0 : (List AV) → Option (List AV)) : Option (List AV) :=
  (bif (decide (v8 < v7)) then (bif decide ((IntKind.i64.wrap ((56 : Int) - (IntKind.i64.wrap ((8 : Int) * v8)))) < 0) then none else (bif hd a0 a0.length then (bif decide (0 ≤ v8 ∧ v8 < a0.length) then (bif hd a0 a0.length then (oB (a0[v8.toNat]?) fun y1 => (oB (putE y1 0 1 [(.int .u8 (IntKind.u8.wrap (v0.fdiv (2 ^ min (IntKind.i64.wrap ((56 : Int) - (IntKind.i64.wrap ((8 : Int) * v8)))).toNat IntKind.u64.bits))))]) fun z2 => (bif hd (a0.set v8.toNat z2) a0.length then (next (IntKind.i64.wrap (v8 + (1 : Int))) (a0.set v8.toNat z2)) else none))) else none) else none) else none)) else (kx0 a0))
def qn7  (v0 v7 : Int) (kx0 : (List AV) → Option (List AV)) : Nat → Int → (List AV) → Option (List AV)
  | 0 => (fun _ _ => none)
  | n + 1 => (fun v8 a0 => qua v0 v7 v8 a0 (qn7 v0 v7 kx0 n) kx0)
def qbbl := hull (qn7)
def q7a : SubB Tryz.prog (TIof Tryz.prog) 22 0 (kret [.t 2] (decF true 1)) := lpB tabOk follows Tryz.f109 75 (.s .z (.s (.s .z (.v [.sel [3] [0]])) (.s .z (.v [.hd 3, .sel [0, 3, 7, 8] [0]])))) S19_ (qn7) (fun f v K n => f (v.i 0 0) (v.i 28 0) (qrb K) n) (fun v f K => qua (v.i 0 0) (v.i 28 0) (v.i 32 0) (v.r 0) f (qrb K)) (fun f v => f (v.i 32 0) (v.r 0)) (fun k v => (fun z0 z1 => k ((v.ui 32 0 z0).ur 0 z1))) (by kernel_rfl) (fun _ _ => (by kernel_rfl)) (fun _ _ _ => (by kernel_rfl)) (fun _ _ _ => (by kernel_rfl)) (fun _ _ => (by kernel_rfl)) (fun _ _ _ _ _ => (by kernel_rfl))
def q13 (v0 : Int) : Option (List AV) :=
  (bif decide (0 ≤ (8 : Int) ∧ (8 : Int) ≤ (8 : Int) ∧ (8 : Int) * 1 ≤ 281474976710656) then (bif (hd (List.replicate (8 : Int).toNat ((.int .u8 (0 : Int)) : AV)) ((List.replicate (8 : Int).toNat ((.int .u8 (0 : Int)) : AV)).length) && true) then (qbbl v0 (((List.replicate (8 : Int).toNat ((.int .u8 (0 : Int)) : AV)).length) : Int) (fun a0q1 => (bif hd a0q1 a0q1.length then (some a0q1) else none)) FU (0 : Int) (List.replicate (8 : Int).toNat ((.int .u8 (0 : Int)) : AV))) else none) else none)
def qxq := hull q13
def qsj {R : Type} : EntF Tryz.prog R := entB (nt := 22) (dec := (decF true 1)) (enc := (AV.fr true 1)) tabOk follows Tryz.func109 [.t 2] hdeF (.s .z (.s .z (.s (.s .z (.b (.sub [.sel [0, 3, 7, 8] [0]] q7a []))) .z))) S20_ q13 (fun f v => f (v.i 0 0)) (by kernel_rfl) (by kernel_rfl) (by kernel_rfl) fun _ => (by kernel_rfl)
def qbbm : AV → Option ((List UInt8) × Int) := decN [(.one .s), (.one (.i .i64))] fun z => (aS (gC (tpL z) 0), aI (gC (tpL z) 1))
def q49 (Aa : Bool) (Ab Ac : Int) : Option ((List UInt8) × Int) :=
  (oB (q63 Aa Ab Ac) fun r1 => (bif (!r1) then (some (([] : List UInt8), (3 : Int))) else (bif (!Aa) then (oB (qxq Ac) fun r2 => (oB (cutI r2 (some (4 : Int)) none) fun s3 => (oB (qy s3) fun s4 => (some (s4, (0 : Int)))))) else (oB (qxq Ab) fun r5 => (oB (qy r5) fun s6 => (oB (qxq Ac) fun r7 => (oB (qy r7) fun s8 => (bif decide (s6.length + s8.length ≤ 9223372036854775807) then (some ((s6 ++ s8), (0 : Int))) else none))))))))
def qbgq := hull q49
def qbef {R : Type} : EntF Tryz.prog R := entB (nt := 26) (dec := qbbm) (enc := (fun r => .tup [.str r.1, .int .i64 r.2])) tabOk follows Tryz.func76 [.t 2, .t 3] (hdeN fun _ => rfl) (.s .z (.s (.b (.s (.r [(1, .c q1s.b)] []) (.s .z (.s .z (.s (.s (.r [(2, .k qsj.b)] []) .z) .z))))) (.s (.d [] [(2, .c qsj.b), (6, .c qsj.b)] [] []) .z))) S28_ q49 (fun f v => f (v.b 1 0) (v.i 1 1) (v.i 1 2)) (by kernel_rfl) (by kernel_rfl) (by kernel_rfl) fun _ => (by kernel_rfl)
def qbgr {R : Type} (vs : List AV) (m : Mem) (K : AV → Mem → Option R) : Option R := q6r vs m K
theorem qbgs {R : Type} : qmv Tryz.prog 78 (qbgr (R := R)) := qbjz
def S36_ : Shp := ⟨[(0, .one (.l (.i .i64))), (5, .one (.own 0)), (6, .one (.l (.i .i64)))], [.arr true 1]⟩
def qo7  (K : Ex → Env → Mem → Option (List UInt8)) := (fun z_a0 => K (.exit 0) (qe [(5, (.own 0 z_a0.length))]) (qd [(some (.arr true 1 z_a0))]))
def qrc  (v0 v6 : Int) (a0 : List AV) (next : Int → Int → (List AV) → Option (List UInt8)) (kx0 : (List AV) → Option (List UInt8)) : Option (List UInt8) :=
  (bif (decide (v6 ≥ (0 : Int))) then (bif hd a0 a0.length then (bif decide (0 ≤ v6 ∧ v6 < a0.length) then (bif hd a0 a0.length then (oB (a0[v6.toNat]?) fun y1 => (oB (putE y1 0 1 [(.int .u8 (IntKind.u8.wrap v0))]) fun z2 => (bif hd (a0.set v6.toNat z2) a0.length then (next (v0.fdiv (2 ^ min (8 : Int).toNat IntKind.i64.bits)) (IntKind.i64.wrap (v6 - (1 : Int))) (a0.set v6.toNat z2)) else none))) else none) else none) else none) else (kx0 a0))
def qh8  (kx0 : (List AV) → Option (List UInt8)) : Nat → Int → Int → (List AV) → Option (List UInt8)
  | 0 => (fun _ _ _ => none)
  | n + 1 => (fun v0 v6 a0 => qrc v0 v6 a0 (qh8 kx0 n) kx0)
def qub := hull (qh8)
theorem qkn : qub = qh8 := qa _
def q4o : SubB Tryz.prog (TIof Tryz.prog) 24 0 (kret [.t 4] decS) := lpB tabOk follows Tryz.f79 75 (.s (.s .z (.s .z (.v [.sel [5] [0]]))) (.s .z (.v [.hd 5, .sel [0, 5, 6] [0]]))) S36_ (qh8) (fun f v K n => f (qo7 K) n) (fun v f K => qrc (v.i 0 0) (v.i 24 0) (v.r 0) f (qo7 K)) (fun f v => f (v.i 0 0) (v.i 24 0) (v.r 0)) (fun k v => (fun z0 z1 z2 => k (((v.ui 0 0 z0).ui 24 0 z1).ur 0 z2))) (by kernel_rfl) (fun _ _ => (by kernel_rfl)) (fun _ _ _ => (by kernel_rfl)) (fun _ _ _ => (by kernel_rfl)) (fun _ _ => (by kernel_rfl)) (fun _ _ _ _ _ => (by kernel_rfl))
def qgg (v0 v1 : Int) : Option (List UInt8) :=
  (bif decide (0 ≤ v1 ∧ v1 ≤ v1 ∧ v1 * 1 ≤ 281474976710656) then (bif (hd (List.replicate v1.toNat ((.int .u8 (0 : Int)) : AV)) ((List.replicate v1.toNat ((.int .u8 (0 : Int)) : AV)).length) && true) then (qub (fun a0q1 => (bif hd a0q1 a0q1.length then (oB (qy a0q1) fun s2 => (some s2)) else none)) FU v0 (IntKind.i64.wrap (v1 - (1 : Int))) (List.replicate v1.toNat ((.int .u8 (0 : Int)) : AV))) else none) else none)
def qz := hull qgg
theorem qn8 : qz = qgg := qa _
def q9b {R : Type} : EntF Tryz.prog R := entB (nt := 24) (dec := decS) (enc := AV.str) tabOk follows Tryz.func79 [.t 4] hdeS (.s .z (.s .z (.s (.s .z (.b (.sub [.sel [0, 5, 6] [0]] q4o []))) .z))) S29_ qgg (fun f v => f (v.i 0 0) (v.i 4 0)) (by kernel_rfl) (by kernel_rfl) (by kernel_rfl) fun _ => (by kernel_rfl)
def S37_ : Shp := ⟨[(3, .one (.ptr 0 0)), (6, .one (.ptr 1 0)), (8, .one (.l .s)), (10, .one (.l (.i .u8))), (31, .one (.l (.i .i64))), (32, .one (.l (.i .i64))), (39, .one (.l (.i .u8)))], [.box true (lk qb6), .box true (lk qgm)]⟩
def S38_ : Shp := ⟨[(3, .one (.ptr 0 0)), (6, .one (.ptr 1 0)), (8, .one (.l .s)), (31, .one (.l (.i .i64))), (32, .one (.l (.i .i64)))], [.box true (lk qb6), .box true (lk qgm)]⟩
def qk6 : AV → Option ((List UInt8) × Int) := decN [(.one .s), (.one (.i .i64))] fun z => (aS (gC (tpL z) 0), aI (gC (tpL z) 1))
def q4p  (v8 : List UInt8) (v10 v31 v32 v39 : Int) (Al : Bool) (Am An : Int) (A1 A2 A3 : List UInt8) (A4 A5 A6 A7 A8 A9 Ba Ao : Int) (Ap Aq : List UInt8) (K : Ex → Env → Mem → Option ((List UInt8) × Int)) := (fun z_v66 => K .norm (qe [(3, (.ptr 0 0)), (6, (.ptr 1 0)), (8, (.str v8)), (10, (.int .u8 v10)), (31, (.int .i64 v31)), (32, (.int .i64 v32)), (39, (.int .u8 v39)), (66, (.bool z_v66))]) (qd [(some (.box true (q8 Al Am An A1 A2 A3 A4 A5 A6 A7 A8 A9 Ba))), (some (.box true (qn2 Ao Ap Aq)))]))
def qdi  (v8 : List UInt8) (v10 v31 v32 v39 : Int) (Al : Bool) (Am An : Int) (A1 A2 A3 : List UInt8) (A4 A5 A6 A7 A8 A9 Ba Ao : Int) (Ap Aq : List UInt8) (kn : Bool → Option ((List UInt8) × Int)) : Option ((List UInt8) × Int) :=
  (bif (v39 == (52 : Int)) then (kn true) else (kn (v39 == (54 : Int))))
def qvz := hull (qdi)
theorem qh9 : qvz = qdi := qa _
def q51 : SubB Tryz.prog (TIof Tryz.prog) 118 0 (kret [.t 4, .t 5] qk6) := jnB tabOk follows Tryz.f55 3109679 (.s .z (.s (.v [.sel [3, 6, 8, 10, 31, 32, 39, 66] [0, 1]]) (.v [.sel [3, 6, 8, 10, 31, 32, 39, 66] [0, 1]]))) S37_ (qdi) (fun f v K => f (v.s 32 0) (v.i 40 0) (v.i 124 0) (v.i 128 0) (v.i 156 0) (v.b 3 0) (v.i 3 1) (v.i 3 2) (v.s 3 3) (v.s 3 4) (v.s 3 5) (v.i 3 6) (v.i 3 7) (v.i 3 8) (v.i 3 9) (v.i 3 10) (v.i 3 11) (v.i 3 12) (v.i 7 0) (v.s 7 1) (v.s 7 2) (q4p (v.s 32 0) (v.i 40 0) (v.i 124 0) (v.i 128 0) (v.i 156 0) (v.b 3 0) (v.i 3 1) (v.i 3 2) (v.s 3 3) (v.s 3 4) (v.s 3 5) (v.i 3 6) (v.i 3 7) (v.i 3 8) (v.i 3 9) (v.i 3 10) (v.i 3 11) (v.i 3 12) (v.i 7 0) (v.s 7 1) (v.s 7 2) K)) (by kernel_rfl) (fun _ _ => (by kernel_rfl))
def q4q  (v31 v32 : Int) (Al : Bool) (Am An : Int) (A1 A2 A3 : List UInt8) (A4 A5 A6 A7 A8 A9 Ba Ao : Int) (Ap Aq : List UInt8) (K : Ex → Env → Mem → Option ((List UInt8) × Int)) := (fun z_v8 => K .norm (qe [(3, (.ptr 0 0)), (6, (.ptr 1 0)), (8, (.str z_v8)), (31, (.int .i64 v31)), (32, (.int .i64 v32))]) (qd [(some (.box true (q8 Al Am An A1 A2 A3 A4 A5 A6 A7 A8 A9 Ba))), (some (.box true (qn2 Ao Ap Aq)))]))
def qiw  (v8 : List UInt8) (v31 v32 : Int) (Al : Bool) (Am An : Int) (A1 A2 A3 : List UInt8) (A4 A5 A6 A7 A8 A9 Ba Ao : Int) (Ap Aq : List UInt8) (kn : (List UInt8) → Option ((List UInt8) × Int)) : Option ((List UInt8) × Int) :=
  (oB (ixB Aq v32) fun c1 => (bif ((c1.toNat : Int) == (104 : Int)) then (oB (q69 A1) fun r2 => (bif decide (v8.length + r2.length ≤ 9223372036854775807) then (kn (v8 ++ r2)) else none)) else (bif ((c1.toNat : Int) == (109 : Int)) then (oB (q69 A2) fun r3 => (bif decide (v8.length + r3.length ≤ 9223372036854775807) then (kn (v8 ++ r3)) else none)) else (qvz v8 (c1.toNat : Int) v31 v32 (c1.toNat : Int) Al Am An A1 A2 A3 A4 A5 A6 A7 A8 A9 Ba Ao Ap Aq (fun v66q4 => (bif v66q4 then (oB (qbgq Al Am An) fun r5 => (bif decide (v8.length + r5.1.length ≤ 9223372036854775807) then (kn (v8 ++ r5.1)) else none)) else (bif ((c1.toNat : Int) == (116 : Int)) then (bif hd ([(.int .u8 (IntKind.u8.wrap (A3.length : Int)))] : List AV) (([(.int .u8 (IntKind.u8.wrap (A3.length : Int)))] : List AV).length) then (oB (qy ([(.int .u8 (IntKind.u8.wrap (A3.length : Int)))] : List AV)) fun s6 => (bif decide (s6.length + A3.length ≤ 9223372036854775807) then (bif decide (v8.length + (s6 ++ A3).length ≤ 9223372036854775807) then (kn (v8 ++ (s6 ++ A3))) else none) else none)) else none) else (bif ((c1.toNat : Int) == (114 : Int)) then (bif decide (v8.length + A3.length ≤ 9223372036854775807) then (kn (v8 ++ A3)) else none) else (bif ((c1.toNat : Int) == (115 : Int)) then (bif decide (v8.length + ([253] : List UInt8).length ≤ 9223372036854775807) then (kn (v8 ++ ([253] : List UInt8))) else none) else (bif ((c1.toNat : Int) == (110 : Int)) then none else (bif ((c1.toNat : Int) == (65 : Int)) then (oB (qz A4 (2 : Int)) fun r23 => (bif decide (v8.length + r23.length ≤ 9223372036854775807) then (kn (v8 ++ r23)) else none)) else (bif ((c1.toNat : Int) == (66 : Int)) then (oB (qz A5 (2 : Int)) fun r22 => (bif decide (v8.length + r22.length ≤ 9223372036854775807) then (kn (v8 ++ r22)) else none)) else (bif ((c1.toNat : Int) == (67 : Int)) then (oB (qz A6 (2 : Int)) fun r21 => (bif decide (v8.length + r21.length ≤ 9223372036854775807) then (kn (v8 ++ r21)) else none)) else (bif ((c1.toNat : Int) == (68 : Int)) then (oB (qz A7 (2 : Int)) fun r20 => (bif decide (v8.length + r20.length ≤ 9223372036854775807) then (kn (v8 ++ r20)) else none)) else (bif ((c1.toNat : Int) == (69 : Int)) then (oB (qz A8 (2 : Int)) fun r19 => (bif decide (v8.length + r19.length ≤ 9223372036854775807) then (kn (v8 ++ r19)) else none)) else (bif ((c1.toNat : Int) == (70 : Int)) then (oB (qz A9 (2 : Int)) fun r18 => (bif decide (v8.length + r18.length ≤ 9223372036854775807) then (kn (v8 ++ r18)) else none)) else (bif ((c1.toNat : Int) == (97 : Int)) then (oB (qz A4 (1 : Int)) fun r17 => (bif decide (v8.length + r17.length ≤ 9223372036854775807) then (kn (v8 ++ r17)) else none)) else (bif ((c1.toNat : Int) == (98 : Int)) then (oB (qz A5 (1 : Int)) fun r16 => (bif decide (v8.length + r16.length ≤ 9223372036854775807) then (kn (v8 ++ r16)) else none)) else (bif ((c1.toNat : Int) == (99 : Int)) then (oB (qz A6 (1 : Int)) fun r15 => (bif decide (v8.length + r15.length ≤ 9223372036854775807) then (kn (v8 ++ r15)) else none)) else (bif ((c1.toNat : Int) == (100 : Int)) then (oB (qz A7 (1 : Int)) fun r14 => (bif decide (v8.length + r14.length ≤ 9223372036854775807) then (kn (v8 ++ r14)) else none)) else (bif ((c1.toNat : Int) == (101 : Int)) then (oB (qz A8 (1 : Int)) fun r13 => (bif decide (v8.length + r13.length ≤ 9223372036854775807) then (kn (v8 ++ r13)) else none)) else (bif ((c1.toNat : Int) == (102 : Int)) then (oB (qz A9 (1 : Int)) fun r12 => (bif decide (v8.length + r12.length ≤ 9223372036854775807) then (kn (v8 ++ r12)) else none)) else (bif ((c1.toNat : Int) == (118 : Int)) then (oB (qz A4 (4 : Int)) fun r11 => (bif decide (v8.length + r11.length ≤ 9223372036854775807) then (kn (v8 ++ r11)) else none)) else (bif ((c1.toNat : Int) == (119 : Int)) then (oB (qz A5 (4 : Int)) fun r10 => (bif decide (v8.length + r10.length ≤ 9223372036854775807) then (kn (v8 ++ r10)) else none)) else (bif ((c1.toNat : Int) == (120 : Int)) then (oB (qz A6 (4 : Int)) fun r9 => (bif decide (v8.length + r9.length ≤ 9223372036854775807) then (kn (v8 ++ r9)) else none)) else (bif ((c1.toNat : Int) == (121 : Int)) then (oB (qz A7 (4 : Int)) fun r8 => (bif decide (v8.length + r8.length ≤ 9223372036854775807) then (kn (v8 ++ r8)) else none)) else (bif ((c1.toNat : Int) == (122 : Int)) then (oB (qz A8 (4 : Int)) fun r7 => (bif decide (v8.length + r7.length ≤ 9223372036854775807) then (kn (v8 ++ r7)) else none)) else none)))))))))))))))))))))))))))
def qpi := hull (qiw)
theorem q4r : qpi = qiw := qa _
def q52 : SubB Tryz.prog (TIof Tryz.prog) 118 0 (kret [.t 4, .t 5] qk6) := jnB tabOk follows Tryz.f55 2863 (.b (.s .z (.s .z (.s .z (.b (.s .z (.s (.r [(3, .c q12.b)] [.sel [3, 6, 8, 31, 32] [0, 1]]) (.s .z (.s (.r [(3, .c q12.b)] [.sel [3, 6, 8, 31, 32] [0, 1]]) (.s (.sub [.sel [3, 6, 8, 10, 31, 32, 39] [0, 1]] q51 []) (.s (.s (.r [(2, .c qbef.b)] []) (.v [.sel [3, 6, 8, 31, 32] [0, 1]])) (.s .z (.s (.v [.sel [3, 6, 8, 31, 32] [0, 1]]) (.s .z (.s (.v [.sel [3, 6, 8, 31, 32] [0, 1]]) (.s .z (.s (.v [.sel [3, 6, 8, 31, 32] [0, 1]]) (.s .z (.s (.s (.r [(2, .c (eK (q8s (f := 77))))] []) .z) (.s (.r [(1, .r (rB qbgs))] []) (.r [(5, .c q9b.b)] [.sel [3, 6, 8, 31, 32] [0, 1]]))))))))))))))))))))) S38_ (qiw) (fun f v K => f (v.s 32 0) (v.i 124 0) (v.i 128 0) (v.b 3 0) (v.i 3 1) (v.i 3 2) (v.s 3 3) (v.s 3 4) (v.s 3 5) (v.i 3 6) (v.i 3 7) (v.i 3 8) (v.i 3 9) (v.i 3 10) (v.i 3 11) (v.i 3 12) (v.i 7 0) (v.s 7 1) (v.s 7 2) (q4q (v.i 124 0) (v.i 128 0) (v.b 3 0) (v.i 3 1) (v.i 3 2) (v.s 3 3) (v.s 3 4) (v.s 3 5) (v.i 3 6) (v.i 3 7) (v.i 3 8) (v.i 3 9) (v.i 3 10) (v.i 3 11) (v.i 3 12) (v.i 7 0) (v.s 7 1) (v.s 7 2) K)) (by kernel_rfl) (fun _ _ => (by kernel_rfl))
def qqa  (K : Ex → Env → Mem → Option ((List UInt8) × Int)) := (fun z_v8 => K (.exit 1) (qe [(8, (.str z_v8))]) (qd []))
def qgn  (v8 : List UInt8) (v31 v32 : Int) (Al : Bool) (Am An : Int) (A1 A2 A3 : List UInt8) (A4 A5 A6 A7 A8 A9 Ba Ao : Int) (Ap Aq : List UInt8) (next : (List UInt8) → Int → Option ((List UInt8) × Int)) (kx1 : (List UInt8) → Option ((List UInt8) × Int)) : Option ((List UInt8) × Int) :=
  (bif (decide (v32 < v31)) then (qpi v8 v31 v32 Al Am An A1 A2 A3 A4 A5 A6 A7 A8 A9 Ba Ao Ap Aq (fun v8q1 => (next v8q1 (IntKind.i64.wrap (v32 + (1 : Int)))))) else (kx1 v8))
def qdj  (v31 : Int) (Al : Bool) (Am An : Int) (A1 A2 A3 : List UInt8) (A4 A5 A6 A7 A8 A9 Ba Ao : Int) (Ap Aq : List UInt8) (kx1 : (List UInt8) → Option ((List UInt8) × Int)) : Nat → (List UInt8) → Int → Option ((List UInt8) × Int)
  | 0 => (fun _ _ => none)
  | n + 1 => (fun v8 v32 => qgn v8 v31 v32 Al Am An A1 A2 A3 A4 A5 A6 A7 A8 A9 Ba Ao Ap Aq (qdj v31 Al Am An A1 A2 A3 A4 A5 A6 A7 A8 A9 Ba Ao Ap Aq kx1 n) kx1)
def qv0 := hull (qdj)
theorem q4s : qv0 = qdj := qa _
def q53 : SubB Tryz.prog (TIof Tryz.prog) 118 0 (kret [.t 4, .t 5] qk6) := lpB tabOk follows Tryz.f55 303 (.s .z (.s (.s .z (.v [.sel [8] []])) (.s (.sub [.sel [3, 6, 8, 31, 32] [0, 1]] q52 []) (.v [.sel [3, 6, 8, 31, 32] [0, 1]])))) S38_ (qdj) (fun f v K n => f (v.i 124 0) (v.b 3 0) (v.i 3 1) (v.i 3 2) (v.s 3 3) (v.s 3 4) (v.s 3 5) (v.i 3 6) (v.i 3 7) (v.i 3 8) (v.i 3 9) (v.i 3 10) (v.i 3 11) (v.i 3 12) (v.i 7 0) (v.s 7 1) (v.s 7 2) (qqa K) n) (fun v f K => qgn (v.s 32 0) (v.i 124 0) (v.i 128 0) (v.b 3 0) (v.i 3 1) (v.i 3 2) (v.s 3 3) (v.s 3 4) (v.s 3 5) (v.i 3 6) (v.i 3 7) (v.i 3 8) (v.i 3 9) (v.i 3 10) (v.i 3 11) (v.i 3 12) (v.i 7 0) (v.s 7 1) (v.s 7 2) f (qqa K)) (fun f v => f (v.s 32 0) (v.i 128 0)) (fun k v => (fun z0 z1 => k ((v.us 32 0 z0).ui 128 0 z1))) (by kernel_rfl) (fun _ _ => (by kernel_rfl)) (fun _ _ _ => (by kernel_rfl)) (fun _ _ _ => (by kernel_rfl)) (fun _ _ => (by kernel_rfl)) (fun _ _ _ _ _ => (by kernel_rfl))
def qn9 (v0 : Int) (Bb : Bool) (Bc Bd : Int) (Be Bf Bg : List UInt8) (Bh Bi Bj Bl Bm Bn Bo : Int) : Option ((List UInt8) × Int) :=
  (oB (qrp v0) fun r1 => (bif (!r1.2) then (some (([] : List UInt8), (4 : Int))) else (oB (qu9 v0 Bb Bc Bd Be Bf Bg Bh Bi Bj Bl Bm Bn Bo) fun r2 => (bif (!r2) then (some (([] : List UInt8), (5 : Int))) else (qv0 ((gS r1.1.cells 2).length : Int) Bb Bc Bd Be Bf Bg Bh Bi Bj Bl Bm Bn Bo (gI r1.1.cells 0) (gS r1.1.cells 1) (gS r1.1.cells 2) (fun v8q3 => (some (v8q3, (0 : Int)))) FU ([] : List UInt8) (0 : Int))))))
def qxr := hull qn9
theorem qbbn : qxr = qn9 := qa _
def qbcl {R : Type} : EntF Tryz.prog R := entB (nt := 118) (dec := qk6) (enc := (fun r => .tup [.str r.1, .int .i64 r.2])) tabOk follows Tryz.func55 [.t 4, .t 5] (hdeN fun _ => rfl) (.s .z (.s (.r [(1, .c q1q.b)] []) (.s (.b (.s .z (.s .z (.s (.r [(2, .c qbbj.b)] []) .z)))) (.s .z (.s (.s .z (.b (.sub [.sel [3, 6, 8, 31, 32] [0, 1]] q53 []))) .z))))) S34_ qn9 (fun f v => f (v.i 0 0) (v.b 5 0) (v.i 5 1) (v.i 5 2) (v.s 5 3) (v.s 5 4) (v.s 5 5) (v.i 5 6) (v.i 5 7) (v.i 5 8) (v.i 5 9) (v.i 5 10) (v.i 5 11) (v.i 5 12)) (by kernel_rfl) (by kernel_rfl) (by kernel_rfl) fun _ => (by kernel_rfl)
def S39_ : Shp := ⟨[(0, .one (.l .s)), (3, .one (.l (.i .i64))), (4, .one (.l (.i .i64)))], []⟩
def qrd  (K : Ex → Env → Mem → Option Int) := (fun z_v3 => K (.exit 0) (qe [(3, (.int .i64 z_v3))]) (qd []))
def qhj  (v0 : List UInt8) (v3 v4 : Int) (next : Int → Int → Option Int) (kx0 : Int → Option Int) : Option Int :=
  (bif (decide (v4 < (v0.length : Int))) then (bif ((v4.tmod (2 : Int)) == (0 : Int)) then (oB (ixB v0 v4) fun c1 => (next (IntKind.i64.wrap (v3 + (IntKind.i64.wrap ((IntKind.i64.wrap (c1.toNat : Int)) * 2 ^ min (8 : Int).toNat IntKind.i64.bits)))) (IntKind.i64.wrap (v4 + (1 : Int))))) else (oB (ixB v0 v4) fun c2 => (next (IntKind.i64.wrap (v3 + (IntKind.i64.wrap (c2.toNat : Int)))) (IntKind.i64.wrap (v4 + (1 : Int)))))) else (kx0 v3))
def qhk  (v0 : List UInt8) (kx0 : Int → Option Int) : Nat → Int → Int → Option Int
  | 0 => (fun _ _ => none)
  | n + 1 => (fun v3 v4 => qhj v0 v3 v4 (qhk v0 kx0 n) kx0)
def qz8 := hull (qhk)
theorem q54 : qz8 = qhk := qa _
def q7b : SubB Tryz.prog (TIof Tryz.prog) 34 0 (kret [.t 2] (decI .i64)) := lpB tabOk follows Tryz.f56 75 (.s (.s .z (.s .z (.v [.sel [3] []]))) (.s .z (.v [.sel [0, 3, 4] []]))) S39_ (qhk) (fun f v K n => f (v.s 0 0) (qrd K) n) (fun v f K => qhj (v.s 0 0) (v.i 12 0) (v.i 16 0) f (qrd K)) (fun f v => f (v.i 12 0) (v.i 16 0)) (fun k v => (fun z0 z1 => k ((v.ui 12 0 z0).ui 16 0 z1))) (by kernel_rfl) (fun _ _ => (by kernel_rfl)) (fun _ _ _ => (by kernel_rfl)) (fun _ _ _ => (by kernel_rfl)) (fun _ _ => (by kernel_rfl)) (fun _ _ _ _ _ => (by kernel_rfl))
def qoa (v0 : List UInt8) : Option Int :=
  (qz8 v0 (fun v3q1 => (some (qdf .and .i64 (IntKind.i64.wrap (v3q1 + (qdf .and .i64 (v3q1.fdiv (2 ^ min (16 : Int).toNat IntKind.i64.bits)) (65535 : Int)))) (65535 : Int)))) FU (0 : Int) (0 : Int))
def qxs := hull qoa
theorem qbbo : qxs = qoa := qa _
def qbcm {R : Type} : EntF Tryz.prog R := entB (nt := 34) (dec := (decI .i64)) (enc := (AV.int .i64)) tabOk follows Tryz.func56 [.t 2] hdeI (.s .z (.s .z (.s (.s .z (.b (.sub [.sel [0, 3, 4] []] q7b []))) .z))) S16_ qoa (fun f v => f (v.s 0 0)) (by kernel_rfl) (by kernel_rfl) (by kernel_rfl) fun _ => (by kernel_rfl)
def S40_ : Shp := ⟨[(0, .st (lk qb6))], []⟩
def qob (Aa : Bool) (Ab Ac : Int) (Ad Ae Af : List UInt8) (Ag Bp Bq Br Bs Bt Bu : Int) : Option Int :=
  (oB (qxr (48 : Int) Aa Ab Ac Ad Ae Af Ag Bp Bq Br Bs Bt Bu) fun r1 => (bif (r1.2 != (0 : Int)) then (some (0 : Int)) else (oB (qxs r1.1) fun r2 => (some r2))))
def qrq := hull qob
theorem qbbp : qrq = qob := qa _
def qbcn {R : Type} : EntF Tryz.prog R := entB (nt := 14) (dec := (decI .i64)) (enc := (AV.int .i64)) tabOk follows Tryz.func33 [.t 2] hdeI (.s .z (.s (.r [(1, .c qbcl.b)] []) (.s .z (.s (.r [(1, .c qbcm.b)] []) .z)))) S40_ qob (fun f v => f (v.b 1 0) (v.i 1 1) (v.i 1 2) (v.s 1 3) (v.s 1 4) (v.s 1 5) (v.i 1 6) (v.i 1 7) (v.i 1 8) (v.i 1 9) (v.i 1 10) (v.i 1 11) (v.i 1 12)) (by kernel_rfl) (by kernel_rfl) (by kernel_rfl) fun _ => (by kernel_rfl)
def S41_ : Shp := ⟨[(0, .one (.l (.sl 1))), (1, .one (.l (.i .i64))), (7, .one (.l (.i .i64))), (8, .one (.l (.i .i64)))], []⟩
def S42_ : Shp := ⟨[(0, .one (.l (.sl 1))), (1, .one (.l (.i .i64)))], []⟩
def qis  (K : Ex → Env → Mem → Option Int) := (fun (_ : Unit) => K (.exit 0) (qe []) (qd []))
def qdw  (v0 : List AV) (v1 v7 v8 : Int) (next : Int → Option Int) (kx0 : Unit → Option Int) : Option Int :=
  (bif (decide (v8 < v7)) then (oB (ixB v0 v8) fun y1 => (bif fitC [(.i .i64)] y1.cells then (bif (v1 == (gI y1.cells 0)) then (some v8) else (next (IntKind.i64.wrap (v8 + (1 : Int))))) else none)) else (kx0 ()))
def qcl  (v0 : List AV) (v1 v7 : Int) (kx0 : Unit → Option Int) : Nat → Int → Option Int
  | 0 => (fun _ => none)
  | n + 1 => (fun v8 => qdw v0 v1 v7 v8 (qcl v0 v1 v7 kx0 n) kx0)
def qlp := hull (qcl)
theorem qqu : qlp = qcl := qa _
def qrr : SubB Tryz.prog (TIof Tryz.prog) 19 0 (kret [.t 4] (decI .i64)) := lpB tabOk follows Tryz.f57 37 (.s .z (.s (.s .z (.v [.sel [] []])) (.s (.b (.s .z (.s (.r [(3, .p (.etac 14 [(.i .i64)]))] []) .z))) (.v [.sel [0, 1, 7, 8] []])))) S41_ (qcl) (fun f v K n => f (v.l 0 0) (v.i 4 0) (v.i 28 0) (qis K) n) (fun v f K => qdw (v.l 0 0) (v.i 4 0) (v.i 28 0) (v.i 32 0) f (qis K)) (fun f v => f (v.i 32 0)) (fun k v => (fun z0 => k (v.ui 32 0 z0))) (by kernel_rfl) (fun _ _ => (by kernel_rfl)) (fun _ _ _ => (by kernel_rfl)) (fun _ _ _ => (by kernel_rfl)) (fun _ _ => (by kernel_rfl)) (fun _ _ _ _ _ => (by kernel_rfl))
def qfg (v0 : List AV) (v1 : Int) : Option Int :=
  (qlp v0 v1 (v0.length : Int) (fun (_ : Unit) => (some (-1 : Int))) FU (0 : Int))
def qix := hull qfg
theorem qtr : qix = qfg := qa _
def qva {R : Type} : EntF Tryz.prog R := entB (nt := 19) (dec := (decI .i64)) (enc := (AV.int .i64)) tabOk follows Tryz.func57 [.t 4] hdeI (.s .z (.s (.s .z (.b (.sub [.sel [0, 1, 7, 8] []] qrr []))) .z)) S42_ qfg (fun f v => f (v.l 0 0) (v.i 4 0)) (by kernel_rfl) (by kernel_rfl) (by kernel_rfl) fun _ => (by kernel_rfl)
def qdx (v0 : List AV) (v1 : Int) : Option Bool :=
  (oB (qix v0 v1) fun r1 => (some (decide (r1 ≥ (0 : Int)))))
def qhb := hull qdx
theorem qqv : qhb = qdx := qa _
def qrs {R : Type} : EntF Tryz.prog R := entB (nt := 9) (dec := decB) (enc := AV.bool) tabOk follows Tryz.func34 [.t 4] hdeB (.s .z (.s (.r [(2, .c qva.b)] []) .z)) S42_ qdx (fun f v => f (v.l 0 0) (v.i 4 0)) (by kernel_rfl) (by kernel_rfl) (by kernel_rfl) fun _ => (by kernel_rfl)
def qj7 (v0 : Int) : Option Bool :=
  (some (v0 != v0))
def qmr := hull qj7
theorem q55 : qmr = qj7 := qa _
def quc {R : Type} : EntF Tryz.prog R := entB (nt := 6) (dec := decB) (enc := AV.bool) tabOk follows Tryz.func80 [.t 2] hdeB (.z) S27_ qj7 (fun f v => f (v.i 0 0)) (by kernel_rfl) (by kernel_rfl) (by kernel_rfl) fun _ => (by kernel_rfl)
def qk7 (v0 v1 : Int) : Option Bool :=
  (oB (qmr v0) fun r1 => (bif r1 then (oB (qmr v1) fun r2 => (some ((!r2) || (decide (v0 < v1))))) else (some (decide (v0 < v1)))))
def qsk := hull qk7
theorem q7c : qsk = qk7 := qa _
def q9c {R : Type} : EntF Tryz.prog R := entB (nt := 17) (dec := decB) (enc := AV.bool) tabOk follows Tryz.func58 [.t 4] hdeB (.s .z (.s (.r [(1, .c quc.b), (4, .c quc.b), (8, .g 3)] []) .z)) S29_ qk7 (fun f v => f (v.i 0 0) (v.i 4 0)) (by kernel_rfl) (by kernel_rfl) (by kernel_rfl) fun _ => (by kernel_rfl)
def S43_ : Shp := ⟨[(0, .one (.l (.sl 1))), (3, .one (.l (.i .i64)))], []⟩
def S44_ : Shp := ⟨[(0, .one (.l (.sl 1)))], []⟩
def qhl  (K : Ex → Env → Mem → Option Bool) := (fun (_ : Unit) => K (.exit 0) (qe []) (qd []))
def qfb  (v0 : List AV) (v3 : Int) (next : Int → Option Bool) (kx0 : Unit → Option Bool) : Option Bool :=
  (bif (decide (v3 > (0 : Int))) then (oB (ixB v0 v3) fun y1 => (bif fitC [(.i .i64)] y1.cells then (oB (ixB v0 (IntKind.i64.wrap (v3 - (1 : Int)))) fun y2 => (bif fitC [(.i .i64)] y2.cells then (oB (qsk (gI y1.cells 0) (gI y2.cells 0)) fun r3 => (bif r3 then (some false) else (next (IntKind.i64.wrap (v3 - (1 : Int)))))) else none)) else none)) else (kx0 ()))
def qbc  (v0 : List AV) (kx0 : Unit → Option Bool) : Nat → Int → Option Bool
  | 0 => (fun _ => none)
  | n + 1 => (fun v3 => qfb v0 v3 (qbc v0 kx0 n) kx0)
def qjp := hull (qbc)
theorem qo2 : qjp = qbc := qa _
def qpj : SubB Tryz.prog (TIof Tryz.prog) 21 0 (kret [.t 2] decB) := lpB tabOk follows Tryz.f36 37 (.s (.s .z (.s .z (.v [.sel [] []]))) (.s (.b (.s (.d [] [(2, .e 13 [(.i .i64)]), (7, .e 18 [(.i .i64)])] [(0, .c q9c.b)] []) .z)) (.v [.sel [0, 3] []]))) S43_ (qbc) (fun f v K n => f (v.l 0 0) (qhl K) n) (fun v f K => qfb (v.l 0 0) (v.i 12 0) f (qhl K)) (fun f v => f (v.i 12 0)) (fun k v => (fun z0 => k (v.ui 12 0 z0))) (by kernel_rfl) (fun _ _ => (by kernel_rfl)) (fun _ _ _ => (by kernel_rfl)) (fun _ _ _ => (by kernel_rfl)) (fun _ _ => (by kernel_rfl)) (fun _ _ _ _ _ => (by kernel_rfl))
def qdy (v0 : List AV) : Option Bool :=
  (qjp v0 (fun (_ : Unit) => (some true)) FU (IntKind.i64.wrap ((v0.length : Int) - (1 : Int))))
def qew := hull qdy
theorem qqw : qew = qdy := qa _
def qrt {R : Type} : EntF Tryz.prog R := entB (nt := 21) (dec := decB) (enc := AV.bool) tabOk follows Tryz.func36 [.t 2] hdeB (.s .z (.s (.s .z (.b (.sub [.sel [0, 3] []] qpj []))) .z)) S44_ qdy (fun f v => f (v.l 0 0)) (by kernel_rfl) (by kernel_rfl) (by kernel_rfl) fun _ => (by kernel_rfl)
def q9 (x0 : List UInt8) (x1 : Bool) (x2 x3 x4 x5 x6 : Int) : List AV := [.str x0, .bool x1, .int .i64 x2, .int .i64 x3, .int .i64 x4, .int .i64 x5, .int .i64 x6]
def S45_ : Shp := ⟨[(0, .one (.l (.sl 7))), (3, .one (.own 0)), (5, .one (.ptr 1 0)), (6, .one (.ptr 2 0)), (7, .one (.l (.i .i64))), (13, .one (.l (.sl 7))), (14, .one (.l (.i .i64))), (15, .one (.l (.i .i64)))], [.arr true 1, .box true (lk qc), .box true (lk qb6)]⟩
def S46_ : Shp := ⟨[(0, .one (.l (.sl 7))), (3, .one (.own 0)), (13, .one (.l (.sl 7))), (14, .one (.l (.i .i64))), (15, .one (.l (.i .i64)))], [.arr true 1]⟩
def qv1  (v0 v13 : List AV) (v14 v15 : Int) (a0 : List AV) (Ao : List UInt8) (Ap : Bool) (Aq Ar As At Au : Int) (Bv : Bool) (Bw Bx : Int) (By Bz B0 : List UInt8) (B1 B2 B3 B4 B5 B6 B7 : Int) (K : Ex → Env → Mem → Option Int) := (fun z_v37 => K .norm (qe [(0, (.sl 7 v0)), (3, (.own 0 a0.length)), (5, (.ptr 1 0)), (6, (.ptr 2 0)), (13, (.sl 7 v13)), (14, (.int .i64 v14)), (15, (.int .i64 v15)), (37, (.bool z_v37))]) (qd [(some (.arr true 1 a0)), (some (.box true (q9 Ao Ap Aq Ar As At Au))), (some (.box true (q8 Bv Bw Bx By Bz B0 B1 B2 B3 B4 B5 B6 B7)))]))
def qf6  (v0 : List AV) (v7 : Int) (v13 : List AV) (v14 v15 : Int) (a0 : List AV) (Ao : List UInt8) (Ap : Bool) (Aq Ar As At Au : Int) (Bv : Bool) (Bw Bx : Int) (By Bz B0 : List UInt8) (B1 B2 B3 B4 B5 B6 B7 : Int) (kn : Bool → Option Int) : Option Int :=
  (bif (v7 != (0 : Int)) then (kn true) else (oB (ixB v0 (0 : Int)) fun y1 => (bif fitC qc y1.cells then (kn (!(Ao == (gS y1.cells 0)))) else none)))
def qqb := hull (qf6)
theorem qv2 : qqb = qf6 := qa _
def qxt : SubB Tryz.prog (TIof Tryz.prog) 63 0 (kret [.t 2] (decI .i64)) := jnB tabOk follows Tryz.f16 39319 (.d [] [(7, .e 32 qc)] [] [.sel [0, 3, 5, 6, 13, 14, 15, 37] [0, 1, 2]]) S45_ (qf6) (fun f v K => f (v.l 0 0) (v.i 28 0) (v.l 52 0) (v.i 56 0) (v.i 60 0) (v.r 0) (v.s 7 0) (v.b 7 1) (v.i 7 2) (v.i 7 3) (v.i 7 4) (v.i 7 5) (v.i 7 6) (v.b 11 0) (v.i 11 1) (v.i 11 2) (v.s 11 3) (v.s 11 4) (v.s 11 5) (v.i 11 6) (v.i 11 7) (v.i 11 8) (v.i 11 9) (v.i 11 10) (v.i 11 11) (v.i 11 12) (qv1 (v.l 0 0) (v.l 52 0) (v.i 56 0) (v.i 60 0) (v.r 0) (v.s 7 0) (v.b 7 1) (v.i 7 2) (v.i 7 3) (v.i 7 4) (v.i 7 5) (v.i 7 6) (v.b 11 0) (v.i 11 1) (v.i 11 2) (v.s 11 3) (v.s 11 4) (v.s 11 5) (v.i 11 6) (v.i 11 7) (v.i 11 8) (v.i 11 9) (v.i 11 10) (v.i 11 11) (v.i 11 12) K)) (by kernel_rfl) (fun _ _ => (by kernel_rfl))
def qmb  (K : Ex → Env → Mem → Option Int) := (fun (_ : Unit) => K (.exit 0) (qe []) (qd []))
def qd9  (v0 v13 : List AV) (v14 v15 : Int) (a0 : List AV) (next : Int → (List AV) → Option Int) (kx0 : Unit → Option Int) : Option Int :=
  (bif (decide (v15 < v14)) then (oB (ixB v13 v15) fun y1 => (bif fitC qc y1.cells then (oB (qu7 (gS y1.cells 0) (gB y1.cells 1) (gI y1.cells 2)) fun r2 => (bif (hd a0 (a0.length) && true) then (qqb v0 r2.2 v13 v14 v15 a0 (gS y1.cells 0) (gB y1.cells 1) (gI y1.cells 2) (gI y1.cells 3) (gI y1.cells 4) (gI y1.cells 5) (gI y1.cells 6) (gB r2.1.cells 0) (gI r2.1.cells 1) (gI r2.1.cells 2) (gS r2.1.cells 3) (gS r2.1.cells 4) (gS r2.1.cells 5) (gI r2.1.cells 6) (gI r2.1.cells 7) (gI r2.1.cells 8) (gI r2.1.cells 9) (gI r2.1.cells 10) (gI r2.1.cells 11) (gI r2.1.cells 12) (fun v37q3 => (bif v37q3 then (some (18 : Int)) else (oB (qrq (gB r2.1.cells 0) (gI r2.1.cells 1) (gI r2.1.cells 2) (gS r2.1.cells 3) (gS r2.1.cells 4) (gS r2.1.cells 5) (gI r2.1.cells 6) (gI r2.1.cells 7) (gI r2.1.cells 8) (gI r2.1.cells 9) (gI r2.1.cells 10) (gI r2.1.cells 11) (gI r2.1.cells 12)) fun r4 => (bif hd a0 a0.length then (oB (qhb a0 r4) fun r5 => (bif r5 then (some (18 : Int)) else (bif hd a0 a0.length then (bif hd ([(.int .i64 r4)] : List AV) (([(.int .i64 r4)] : List AV).length) then (bif decide ((a0.length + ([(.int .i64 r4)] : List AV).length) * 8 ≤ 140737488355328) then (oB (qe9 (gS y1.cells 0) (gB y1.cells 1) (gI y1.cells 2) (gI y1.cells 3) (gI y1.cells 4) (gI y1.cells 5) (gI y1.cells 6)) fun r6 => (bif (decide ((gI r6.cells 0) < (0 : Int))) then (some (20 : Int)) else (oB (qew ([(.int .i64 (gI r6.cells 0)), (.int .i64 (gI r6.cells 1)), (.int .i64 (gI r6.cells 2)), (.int .i64 (gI r6.cells 3))] : List AV)) fun r7 => (bif ((!r7) || (decide ((gI r6.cells 3) > (4294967295 : Int)))) then (some (20 : Int)) else (next (IntKind.i64.wrap (v15 + (1 : Int))) (a0 ++ ([(.int .i64 r4)] : List AV))))))) else none) else none) else none))) else none))))) else none)) else none)) else (kx0 ()))
def qea  (v0 v13 : List AV) (v14 : Int) (kx0 : Unit → Option Int) : Nat → Int → (List AV) → Option Int
  | 0 => (fun _ _ => none)
  | n + 1 => (fun v15 a0 => qd9 v0 v13 v14 v15 a0 (qea v0 v13 v14 kx0 n) kx0)
def qqc := hull (qea)
theorem qv3 : qqc = qea := qa _
def qxu : SubB Tryz.prog (TIof Tryz.prog) 63 0 (kret [.t 2] (decI .i64)) := lpB tabOk follows Tryz.f16 151 (.s .z (.s (.s .z (.v [.sel [] []])) (.s (.b (.s (.r [(0, .p (.etac 17 qc))] []) (.s (.r [(2, .c qbbf.b)] []) (.s (.s (.sub [.sel [0, 3, 5, 6, 7, 13, 14, 15] [0, 1, 2]] qxt []) .z) (.s (.r [(1, .c qbcn.b)] []) (.s (.s (.r [(2, .c qrs.b)] []) .z) (.s .z (.s (.r [(1, .c qmz.b)] []) (.s (.r [(5, .c qrt.b), (9, .g 3)] []) .z))))))))) (.v [.sel [0, 3, 13, 14, 15] [0]])))) S46_ (qea) (fun f v K n => f (v.l 0 0) (v.l 52 0) (v.i 56 0) (qmb K) n) (fun v f K => qd9 (v.l 0 0) (v.l 52 0) (v.i 56 0) (v.i 60 0) (v.r 0) f (qmb K)) (fun f v => f (v.i 60 0) (v.r 0)) (fun k v => (fun z0 z1 => k ((v.ui 60 0 z0).ur 0 z1))) (by kernel_rfl) (fun _ _ => (by kernel_rfl)) (fun _ _ _ => (by kernel_rfl)) (fun _ _ _ => (by kernel_rfl)) (fun _ _ => (by kernel_rfl)) (fun _ _ _ _ _ => (by kernel_rfl))
def qiy (v0 : List AV) : Option Int :=
  (bif (decide ((v0.length : Int) > (16 : Int))) then (some (9 : Int)) else (bif (hd ([] : List AV) (([] : List AV).length) && true) then (qqc v0 v0 (v0.length : Int) (fun (_ : Unit) => (some (0 : Int))) FU (0 : Int) ([] : List AV)) else none))
def qdq := hull qiy
theorem q4t : qdq = qiy := qa _
def qiz {R : Type} : EntF Tryz.prog R := entB (nt := 63) (dec := (decI .i64)) (enc := (AV.int .i64)) tabOk follows Tryz.func16 [.t 2] hdeI (.s .z (.s .z (.s .z (.s (.s .z (.b (.sub [.own 3 1, .sel [0, 3, 13, 14, 15] [0]] qxu []))) .z)))) S1_ qiy (fun f v => f (v.l 0 0)) (by kernel_rfl) (by kernel_rfl) (by kernel_rfl) fun _ => (by kernel_rfl)
def S47_ : Shp := ⟨[(0, .one (.l .s)), (3, .one (.l (.i .i64))), (4, .one (.l (.i .u8)))], []⟩
def S48_ : Shp := ⟨[(0, .one (.l .s)), (3, .one (.l (.i .i64)))], []⟩
def qts  (v0 : List UInt8) (v3 : Int) (K : Ex → Env → Mem → Option Bool) := (fun z_v46 => K .norm (qe [(0, (.str v0)), (3, (.int .i64 v3)), (46, (.bool z_v46))]) (qd []))
def qfh  (v0 : List UInt8) (v3 v4 : Int) (kn : Bool → Option Bool) : Option Bool :=
  (bif ((decide (v4 ≥ (97 : Int))) && (decide (v4 ≤ (122 : Int)))) then (kn false) else (bif (decide (v4 ≥ (48 : Int))) then (kn (!(((decide (v4 ≤ (57 : Int))) || (v4 == (45 : Int))) || (v4 == (95 : Int))))) else (kn (!((v4 == (45 : Int)) || (v4 == (95 : Int)))))))
def qi0 := hull (qfh)
theorem qtt : qi0 = qfh := qa _
def qvb : SubB Tryz.prog (TIof Tryz.prog) 47 0 (kret [.t 2] decB) := jnB tabOk follows Tryz.f111 5271 (.r [(3, .g 2), (15, .g 2), (19, .g 2)] [.sel [0, 3, 46] []]) S47_ (qfh) (fun f v K => f (v.s 0 0) (v.i 12 0) (v.i 16 0) (qts (v.s 0 0) (v.i 12 0) K)) (by kernel_rfl) (fun _ _ => (by kernel_rfl))
def qko  (K : Ex → Env → Mem → Option Bool) := (fun (_ : Unit) => K (.exit 0) (qe []) (qd []))
def qc2  (v0 : List UInt8) (v3 : Int) (next : Int → Option Bool) (kx0 : Unit → Option Bool) : Option Bool :=
  (bif (decide (v3 < (v0.length : Int))) then (oB (ixB v0 v3) fun c1 => (qi0 v0 v3 (c1.toNat : Int) (fun v46q2 => (bif v46q2 then (some false) else (next (IntKind.i64.wrap (v3 + (1 : Int)))))))) else (kx0 ()))
def qc3  (v0 : List UInt8) (kx0 : Unit → Option Bool) : Nat → Int → Option Bool
  | 0 => (fun _ => none)
  | n + 1 => (fun v3 => qc2 v0 v3 (qc3 v0 kx0 n) kx0)
def qoc := hull (qc3)
theorem qtu : qoc = qc3 := qa _
def qvc : SubB Tryz.prog (TIof Tryz.prog) 47 0 (kret [.t 2] decB) := lpB tabOk follows Tryz.f111 151 (.s (.s .z (.s .z (.v [.sel [] []]))) (.s (.b (.s .z (.s (.sub [.sel [0, 3, 4] []] qvb []) .z))) (.v [.sel [0, 3] []]))) S48_ (qc3) (fun f v K n => f (v.s 0 0) (qko K) n) (fun v f K => qc2 (v.s 0 0) (v.i 12 0) f (qko K)) (fun f v => f (v.i 12 0)) (fun k v => (fun z0 => k (v.ui 12 0 z0))) (by kernel_rfl) (fun _ _ => (by kernel_rfl)) (fun _ _ _ => (by kernel_rfl)) (fun _ _ _ => (by kernel_rfl)) (fun _ _ => (by kernel_rfl)) (fun _ _ _ _ _ => (by kernel_rfl))
def qhm (v0 : List UInt8) : Option Bool :=
  (bif (v0 == ([42] : List UInt8)) then (some true) else (bif ((decide ((v0.length : Int) < (1 : Int))) || (decide ((v0.length : Int) > (63 : Int)))) then (some false) else (qoc v0 (fun (_ : Unit) => (some true)) FU (0 : Int))))
def qm0 := hull qhm
theorem q0n : qm0 = qhm := qa _
def q14 {R : Type} : EntF Tryz.prog R := entB (nt := 47) (dec := decB) (enc := AV.bool) tabOk follows Tryz.func111 [.t 2] hdeB (.s .z (.s .z (.s (.s (.r [(4, .g 3)] []) .z) (.s (.s .z (.b (.sub [.sel [0, 3] []] qvc []))) .z)))) S16_ qhm (fun f v => f (v.s 0 0)) (by kernel_rfl) (by kernel_rfl) (by kernel_rfl) fun _ => (by kernel_rfl)
def S49_ : Shp := ⟨[(0, .one (.l .s)), (4, .one (.own 0)), (5, .one (.l (.i .i64))), (6, .one (.l (.i .i64))), (7, .one (.l .s))], [.arr true 1]⟩
def S50_ : Shp := ⟨[(0, .one (.l .s)), (4, .one (.own 0)), (5, .one (.l (.i .i64))), (6, .one (.l (.i .i64)))], [.arr true 1]⟩
def qhn : AV → Option ((List AV) × Bool) := decN [(.one (.fr true 1)), (.one .b)] fun z => (aL (gC (tpL z) 0), aB (gC (tpL z) 1))
def qv4  (v0 : List UInt8) (K : Ex → Env → Mem → Option ((List AV) × Bool)) := (fun z_v25 => K .norm (qe [(0, (.str v0)), (25, (.bool z_v25))]) (qd []))
def qf7  (v0 : List UInt8) (kn : Bool → Option ((List AV) × Bool)) : Option ((List AV) × Bool) :=
  (bif ((decide ((v0.length : Int) < (2 : Int))) || (decide ((v0.length : Int) > (254 : Int)))) then (kn true) else (oB (ixB v0 (IntKind.i64.wrap ((v0.length : Int) - (1 : Int)))) fun c1 => (kn ((c1.toNat : Int) != (46 : Int)))))
def qqd := hull (qf7)
theorem qv5 : qqd = qf7 := qa _
def qxv : SubB Tryz.prog (TIof Tryz.prog) 58 0 (kret [.t 2, .t 3] qhn) := jnB tabOk follows Tryz.f81 19 (.r [(4, .g 3)] [.sel [0, 25] []]) S16_ (qf7) (fun f v K => f (v.s 0 0) (qv4 (v.s 0 0) K)) (by kernel_rfl) (fun _ _ => (by kernel_rfl))
def qv6  (v0 : List UInt8) (v6 : Int) (v7 : List UInt8) (a0 : List AV) (K : Ex → Env → Mem → Option ((List AV) × Bool)) := (fun z_v50 => K .norm (qe [(0, (.str v0)), (4, (.own 0 a0.length)), (6, (.int .i64 v6)), (7, (.str v7)), (50, (.bool z_v50))]) (qd [(some (.arr true 1 a0))]))
def qf8  (v0 : List UInt8) (v5 v6 : Int) (v7 : List UInt8) (a0 : List AV) (kn : Bool → Option ((List AV) × Bool)) : Option ((List AV) × Bool) :=
  (oB (qm0 v7) fun r1 => (bif (!r1) then (kn true) else (bif (v7 == ([42] : List UInt8)) then (kn (decide (v5 > (0 : Int)))) else (kn false))))
def qqe := hull (qf8)
theorem qv7 : qqe = qf8 := qa _
def qxw : SubB Tryz.prog (TIof Tryz.prog) 58 0 (kret [.t 2, .t 3] qhn) := jnB tabOk follows Tryz.f81 78431 (.r [(1, .c q14.b)] [.sel [0, 4, 6, 7, 50] [0]]) S49_ (qf8) (fun f v K => f (v.s 0 0) (v.i 20 0) (v.i 24 0) (v.s 28 0) (v.r 0) (qv6 (v.s 0 0) (v.i 24 0) (v.s 28 0) (v.r 0) K)) (by kernel_rfl) (fun _ _ => (by kernel_rfl))
def qmc  (K : Ex → Env → Mem → Option ((List AV) × Bool)) := (fun z_a0 => K (.exit 0) (qe [(4, (.own 0 z_a0.length))]) (qd [(some (.arr true 1 z_a0))]))
def qeb  (v0 : List UInt8) (v5 v6 : Int) (a0 : List AV) (next : Int → Int → (List AV) → Option ((List AV) × Bool)) (kx0 : (List AV) → Option ((List AV) × Bool)) : Option ((List AV) × Bool) :=
  (bif (decide (v6 < (v0.length : Int))) then (oB (ixB v0 v6) fun c1 => (bif ((c1.toNat : Int) != (46 : Int)) then (next v5 (IntKind.i64.wrap (v6 + (1 : Int))) a0) else (oB (cutI v0 (some v5) (some v6)) fun s2 => (bif (hd a0 (a0.length) && true) then (qqe v0 v5 v6 s2 a0 (fun v50q3 => (bif v50q3 then (bif hd ([] : List AV) (([] : List AV).length) then (some (([] : List AV), false)) else none) else (bif hd a0 a0.length then (bif hd ([(.str s2)] : List AV) (([(.str s2)] : List AV).length) then (bif decide ((a0.length + ([(.str s2)] : List AV).length) * 16 ≤ 140737488355328) then (next (IntKind.i64.wrap (v6 + (1 : Int))) (IntKind.i64.wrap (v6 + (1 : Int))) (a0 ++ ([(.str s2)] : List AV))) else none) else none) else none)))) else none)))) else (kx0 a0))
def qec  (v0 : List UInt8) (kx0 : (List AV) → Option ((List AV) × Bool)) : Nat → Int → Int → (List AV) → Option ((List AV) × Bool)
  | 0 => (fun _ _ _ => none)
  | n + 1 => (fun v5 v6 a0 => qeb v0 v5 v6 a0 (qec v0 kx0 n) kx0)
def qkp := hull (qec)
theorem qv8 : qkp = qec := qa _
def qxx : SubB Tryz.prog (TIof Tryz.prog) 58 0 (kret [.t 2, .t 3] qhn) := lpB tabOk follows Tryz.f81 607 (.s (.s .z (.s .z (.v [.sel [4] [0]]))) (.s (.b (.s .z (.s .z (.s (.s (.sub [.sel [0, 4, 5, 6, 7] [0]] qxw []) (.s (.s .z (.v [.own 2 1])) .z)) .z)))) (.v [.sel [0, 4, 5, 6] [0]]))) S50_ (qec) (fun f v K n => f (v.s 0 0) (qmc K) n) (fun v f K => qeb (v.s 0 0) (v.i 20 0) (v.i 24 0) (v.r 0) f (qmc K)) (fun f v => f (v.i 20 0) (v.i 24 0) (v.r 0)) (fun k v => (fun z0 z1 z2 => k (((v.ui 20 0 z0).ui 24 0 z1).ur 0 z2))) (by kernel_rfl) (fun _ _ => (by kernel_rfl)) (fun _ _ _ => (by kernel_rfl)) (fun _ _ _ => (by kernel_rfl)) (fun _ _ => (by kernel_rfl)) (fun _ _ _ _ _ => (by kernel_rfl))
def qi1 (v0 : List UInt8) : Option ((List AV) × Bool) :=
  (bif (v0 == ([46] : List UInt8)) then (bif hd ([] : List AV) (([] : List AV).length) then (some (([] : List AV), true)) else none) else (qqd v0 (fun v25q1 => (bif v25q1 then (bif hd ([] : List AV) (([] : List AV).length) then (some (([] : List AV), false)) else none) else (bif (hd ([] : List AV) (([] : List AV).length) && true) then (qkp v0 (fun a0q2 => (bif hd a0q2 a0q2.length then (some (a0q2, true)) else none)) FU (0 : Int) (0 : Int) ([] : List AV)) else none)))))
def qk8 := hull qi1
theorem q4u : qk8 = qi1 := qa _
def qsl {R : Type} : EntF Tryz.prog R := entB (nt := 58) (dec := qhn) (enc := (fun r => .tup [.fr true 1 r.1, .bool r.2])) tabOk follows Tryz.func81 [.t 2, .t 3] (hdeN fun _ => rfl) (.s .z (.s (.s .z (.s (.s .z (.v [.own 2 1])) .z)) (.s (.s (.sub [.sel [0] []] qxv []) (.s (.s .z (.v [.own 2 1])) .z)) (.s .z (.s .z (.s (.s .z (.b (.sub [.own 4 1, .sel [0, 4, 5, 6] [0]] qxx []))) .z)))))) S16_ qi1 (fun f v => f (v.s 0 0)) (by kernel_rfl) (by kernel_rfl) (by kernel_rfl) fun _ => (by kernel_rfl)
def qia (v0 : List UInt8) : Option (List AV) :=
  (oB (qk8 v0) fun r1 => (some r1.1))
def qj8 := hull qia
theorem q15 : qj8 = qia := qa _
def qre {R : Type} : EntF Tryz.prog R := entB (nt := 11) (dec := (decX (.one (.sl 1)) fun z => aL z)) (enc := (fun r => .sl 1 r)) tabOk follows Tryz.func59 [.t 2] (hdeX fun _ => rfl) (.s .z (.s (.r [(1, .k qsl.b)] []) .z)) S16_ qia (fun f v => f (v.s 0 0)) (by kernel_rfl) (by kernel_rfl) (by kernel_rfl) fun _ => (by kernel_rfl)
def qi2 (v0 : List UInt8) : Option Bool :=
  (oB (qk8 v0) fun r1 => (some r1.2))
def qij := hull qi2
theorem q4v : qij = qi2 := qa _
def qm1 {R : Type} : EntF Tryz.prog R := entB (nt := 11) (dec := decB) (enc := AV.bool) tabOk follows Tryz.func60 [.t 2] hdeB (.s .z (.s (.r [(1, .k qsl.b)] []) .z)) S16_ qi2 (fun f v => f (v.s 0 0)) (by kernel_rfl) (by kernel_rfl) (by kernel_rfl) fun _ => (by kernel_rfl)
def S51_ : Shp := ⟨[(0, .one (.l (.i .i64))), (3, .one (.l .s))], []⟩
def qlq  (K : Ex → Env → Mem → Option (List UInt8)) := (fun z_v0 z_v3 => K (.exit 0) (qe [(0, (.int .i64 z_v0)), (3, (.str z_v3))]) (qd []))
def qft  (v0 : Int) (v3 : List UInt8) (next : Int → (List UInt8) → Option (List UInt8)) (kx0 : Int → (List UInt8) → Option (List UInt8)) : Option (List UInt8) :=
  (bif (decide (v0 > (9 : Int))) then (bif hd ([(.int .u8 (IntKind.u8.wrap (IntKind.i64.wrap ((48 : Int) + (v0.tmod (10 : Int))))))] : List AV) (([(.int .u8 (IntKind.u8.wrap (IntKind.i64.wrap ((48 : Int) + (v0.tmod (10 : Int))))))] : List AV).length) then (oB (qy ([(.int .u8 (IntKind.u8.wrap (IntKind.i64.wrap ((48 : Int) + (v0.tmod (10 : Int))))))] : List AV)) fun s1 => (bif decide (s1.length + v3.length ≤ 9223372036854775807) then (next (IntKind.i64.wrap (v0.tdiv (10 : Int))) (s1 ++ v3)) else none)) else none) else (kx0 v0 v3))
def qco  (kx0 : Int → (List UInt8) → Option (List UInt8)) : Nat → Int → (List UInt8) → Option (List UInt8)
  | 0 => (fun _ _ => none)
  | n + 1 => (fun v0 v3 => qft v0 v3 (qco kx0 n) kx0)
def qo8 := hull (qco)
theorem qvd : qo8 = qco := qa _
def qv9 : SubB Tryz.prog (TIof Tryz.prog) 23 0 (kret [.t 2] decS) := lpB tabOk follows Tryz.f62 35 (.s (.s .z (.s .z (.v [.sel [0, 3] []]))) (.b (.s .z (.v [.sel [0, 3] []])))) S51_ (qco) (fun f v K n => f (qlq K) n) (fun v f K => qft (v.i 0 0) (v.s 12 0) f (qlq K)) (fun f v => f (v.i 0 0) (v.s 12 0)) (fun k v => (fun z0 z1 => k ((v.ui 0 0 z0).us 12 0 z1))) (by kernel_rfl) (fun _ _ => (by kernel_rfl)) (fun _ _ _ => (by kernel_rfl)) (fun _ _ _ => (by kernel_rfl)) (fun _ _ => (by kernel_rfl)) (fun _ _ _ _ _ => (by kernel_rfl))
def qho (v0 : Int) : Option (List UInt8) :=
  (qo8 (fun v0q1 v3q2 => (bif hd ([(.int .u8 (IntKind.u8.wrap (IntKind.i64.wrap ((48 : Int) + v0q1))))] : List AV) (([(.int .u8 (IntKind.u8.wrap (IntKind.i64.wrap ((48 : Int) + v0q1))))] : List AV).length) then (oB (qy ([(.int .u8 (IntKind.u8.wrap (IntKind.i64.wrap ((48 : Int) + v0q1))))] : List AV)) fun s3 => (bif decide (s3.length + v3q2.length ≤ 9223372036854775807) then (some (s3 ++ v3q2)) else none)) else none)) FU v0 ([] : List UInt8))
def qm2 := hull qho
theorem q0o : qm2 = qho := qa _
def q16 {R : Type} : EntF Tryz.prog R := entB (nt := 23) (dec := decS) (enc := AV.str) tabOk follows Tryz.func62 [.t 2] hdeS (.s .z (.s .z (.s (.b (.sub [.sel [0, 3] []] qv9 [])) .z))) S27_ qho (fun f v => f (v.i 0 0)) (by kernel_rfl) (by kernel_rfl) (by kernel_rfl) fun _ => (by kernel_rfl)
def S52_ : Shp := ⟨[(0, .one (.l (.i .u64))), (3, .one (.own 0)), (4, .one (.l (.i .i64)))], [.arr true 1]⟩
def qod  (K : Ex → Env → Mem → Option (List UInt8)) := (fun z_a0 => K (.exit 0) (qe [(3, (.own 0 z_a0.length))]) (qd [(some (.arr true 1 z_a0))]))
def qhp  (v0 v4 : Int) (a0 : List AV) (next : Int → Int → (List AV) → Option (List UInt8)) (kx0 : (List AV) → Option (List UInt8)) : Option (List UInt8) :=
  (bif (decide (v4 ≥ (0 : Int))) then (bif hd a0 a0.length then (bif decide (0 ≤ v4 ∧ v4 < a0.length) then (bif hd a0 a0.length then (oB (a0[v4.toNat]?) fun y1 => (oB (putE y1 0 1 [(.int .u8 (IntKind.u8.wrap (v0.tmod (256 : Int))))]) fun z2 => (bif hd (a0.set v4.toNat z2) a0.length then (next (IntKind.u64.wrap (v0.tdiv (256 : Int))) (IntKind.i64.wrap (v4 - (1 : Int))) (a0.set v4.toNat z2)) else none))) else none) else none) else none) else (kx0 a0))
def qfp  (kx0 : (List AV) → Option (List UInt8)) : Nat → Int → Int → (List AV) → Option (List UInt8)
  | 0 => (fun _ _ _ => none)
  | n + 1 => (fun v0 v4 a0 => qhp v0 v4 a0 (qfp kx0 n) kx0)
def qsm := hull (qfp)
theorem q0p : qsm = qfp := qa _
def q17 : SubB Tryz.prog (TIof Tryz.prog) 20 0 (kret [.t 2] decS) := lpB tabOk follows Tryz.f82 75 (.s (.s .z (.s .z (.v [.sel [3] [0]]))) (.s .z (.v [.hd 3, .sel [0, 3, 4] [0]]))) S52_ (qfp) (fun f v K n => f (qod K) n) (fun v f K => qhp (v.i 0 0) (v.i 16 0) (v.r 0) f (qod K)) (fun f v => f (v.i 0 0) (v.i 16 0) (v.r 0)) (fun k v => (fun z0 z1 z2 => k (((v.ui 0 0 z0).ui 16 0 z1).ur 0 z2))) (by kernel_rfl) (fun _ _ => (by kernel_rfl)) (fun _ _ _ => (by kernel_rfl)) (fun _ _ _ => (by kernel_rfl)) (fun _ _ => (by kernel_rfl)) (fun _ _ _ _ _ => (by kernel_rfl))
def qj9 (v0 : Int) : Option (List UInt8) :=
  (bif decide (0 ≤ (8 : Int) ∧ (8 : Int) ≤ (8 : Int) ∧ (8 : Int) * 1 ≤ 281474976710656) then (bif (hd (List.replicate (8 : Int).toNat ((.int .u8 (0 : Int)) : AV)) ((List.replicate (8 : Int).toNat ((.int .u8 (0 : Int)) : AV)).length) && true) then (qsm (fun a0q1 => (bif hd a0q1 a0q1.length then (oB (qy a0q1) fun s2 => (some s2)) else none)) FU v0 (7 : Int) (List.replicate (8 : Int).toNat ((.int .u8 (0 : Int)) : AV))) else none) else none)
def qms := hull qj9
theorem q56 : qms = qj9 := qa _
def qud {R : Type} : EntF Tryz.prog R := entB (nt := 20) (dec := decS) (enc := AV.str) tabOk follows Tryz.func82 [.t 2] hdeS (.s .z (.s .z (.s (.s .z (.b (.sub [.sel [0, 3, 4] [0]] q17 []))) .z))) S20_ qj9 (fun f v => f (v.i 0 0)) (by kernel_rfl) (by kernel_rfl) (by kernel_rfl) fun _ => (by kernel_rfl)
def S53_ : Shp := ⟨[(3, .one (.l (.i .u64))), (5, .one (.l (.i .i64)))], []⟩
def qo9  (K : Ex → Env → Mem → Option Int) := (fun z_v3 => K (.exit 0) (qe [(3, (.int .u64 z_v3))]) (qd []))
def qf1  (v0 : List UInt8) (v3 v4 : Int) (next : Int → Int → Option Int) (kx0 : Int → Option Int) : Option Int :=
  (bif (decide (v4 < (v0.length : Int))) then (oB (ixB v0 v4) fun c1 => (next (IntKind.u64.wrap ((qdf .xor .u64 v3 (IntKind.u64.wrap (c1.toNat : Int))) * (1099511628211 : Int))) (IntKind.i64.wrap (v4 + (1 : Int))))) else (kx0 v3))
def qf2  (v0 : List UInt8) (kx0 : Int → Option Int) : Nat → Int → Int → Option Int
  | 0 => (fun _ _ => none)
  | n + 1 => (fun v3 v4 => qf1 v0 v3 v4 (qf2 v0 kx0 n) kx0)
def que := hull (qf2)
theorem q18 : que = qf2 := qa _
def q4w : SubB Tryz.prog (TIof Tryz.prog) 29 0 (kret [.t 2] (decI .u64)) := lpB tabOk follows Tryz.f83 75 (.s (.s .z (.s .z (.v [.sel [3] []]))) (.s .z (.v [.sel [0, 3, 4] []]))) S21_ (qf2) (fun f v K n => f (v.s 0 0) (qo9 K) n) (fun v f K => qf1 (v.s 0 0) (v.i 12 0) (v.i 16 0) f (qo9 K)) (fun f v => f (v.i 12 0) (v.i 16 0)) (fun k v => (fun z0 z1 => k ((v.ui 12 0 z0).ui 16 0 z1))) (by kernel_rfl) (fun _ _ => (by kernel_rfl)) (fun _ _ _ => (by kernel_rfl)) (fun _ _ _ => (by kernel_rfl)) (fun _ _ => (by kernel_rfl)) (fun _ _ _ _ _ => (by kernel_rfl))
def qoe  (K : Ex → Env → Mem → Option Int) := (fun z_v3 => K (.exit 2) (qe [(3, (.int .u64 z_v3))]) (qd []))
def qdr  (v3 v5 : Int) (next : Int → Int → Option Int) (kx2 : Int → Option Int) : Option Int :=
  (bif (decide (v5 < (3 : Int))) then (next (IntKind.u64.wrap ((qdf .xor .u64 v3 (IntKind.u64.wrap (v3.tdiv (4294967296 : Int)))) * (11400714819323198485 : Int))) (IntKind.i64.wrap (v5 + (1 : Int)))) else (kx2 v3))
def qcq  (kx2 : Int → Option Int) : Nat → Int → Int → Option Int
  | 0 => (fun _ _ => none)
  | n + 1 => (fun v3 v5 => qdr v3 v5 (qcq kx2 n) kx2)
def qgo := hull (qcq)
theorem q0q : qgo = qcq := qa _
def q19 : SubB Tryz.prog (TIof Tryz.prog) 29 0 (kret [.t 2] (decI .u64)) := lpB tabOk follows Tryz.f83 151 (.s (.s .z (.s .z (.v [.sel [3] []]))) (.s .z (.v [.sel [3, 5] []]))) S53_ (qcq) (fun f v K n => f (qoe K) n) (fun v f K => qdr (v.i 12 0) (v.i 20 0) f (qoe K)) (fun f v => f (v.i 12 0) (v.i 20 0)) (fun k v => (fun z0 z1 => k ((v.ui 12 0 z0).ui 20 0 z1))) (by kernel_rfl) (fun _ _ => (by kernel_rfl)) (fun _ _ _ => (by kernel_rfl)) (fun _ _ _ => (by kernel_rfl)) (fun _ _ => (by kernel_rfl)) (fun _ _ _ _ _ => (by kernel_rfl))
def qk9 (v0 : List UInt8) : Option Int :=
  (que v0 (fun v3q1 => (qgo (fun v3q2 => (some v3q2)) FU v3q1 (0 : Int))) FU (14695981039346656037 : Int) (0 : Int))
def qsn := hull qk9
theorem q7d : qsn = qk9 := qa _
def q9d {R : Type} : EntF Tryz.prog R := entB (nt := 29) (dec := (decI .u64)) (enc := (AV.int .u64)) tabOk follows Tryz.func83 [.t 2] hdeI (.s .z (.s .z (.s (.s .z (.b (.sub [.sel [0, 3, 4] []] q4w []))) (.s (.s .z (.b (.sub [.sel [3, 5] []] q19 []))) .z)))) S16_ qk9 (fun f v => f (v.s 0 0)) (by kernel_rfl) (by kernel_rfl) (by kernel_rfl) fun _ => (by kernel_rfl)
def qla (v0 v1 : List UInt8) : Option (List UInt8) :=
  (oB (qms (IntKind.u64.wrap (v0.length : Int))) fun r1 => (bif decide (r1.length + v0.length ≤ 9223372036854775807) then (bif decide ((r1 ++ v0).length + v1.length ≤ 9223372036854775807) then (oB (qsn ((r1 ++ v0) ++ v1)) fun r2 => (oB (qms r2) fun r3 => (some r3))) else none) else none))
def qso := hull qla
theorem q7e : qso = qla := qa _
def q9e {R : Type} : EntF Tryz.prog R := entB (nt := 15) (dec := decS) (enc := AV.str) tabOk follows Tryz.func61 [.t 4] hdeS (.s .z (.s (.r [(3, .c qud.b), (8, .c q9d.b), (9, .c qud.b)] []) .z)) S9_ qla (fun f v => f (v.s 0 0) (v.s 4 0)) (by kernel_rfl) (by kernel_rfl) (by kernel_rfl) fun _ => (by kernel_rfl)
def S54_ : Shp := ⟨[(1, .one (.ptr 0 0)), (2, .one (.ptr 1 0)), (4, .one (.l (.sl 1)))], [.box true (lk qfo), .box true (lk qb6)]⟩
def S55_ : Shp := ⟨[(1, .one (.ptr 0 0)), (2, .one (.ptr 1 0)), (5, .one (.ptr 2 0)), (6, .one (.l .s))], [.box true (lk qfo), .box true (lk qb6), .box true (lk qb6)]⟩
def qlx : AV → Option (AV × Int) := decN [(.st [.b, (.i .u64), (.i .u64), .s, .s, .s, (.i .i64), (.i .i64), (.i .i64), (.i .i64), (.i .i64), (.i .i64), (.i .u64)]), (.one (.i .i64))] fun z => ((gC (tpL z) 0), aI (gC (tpL z) 1))
def q0r  (Al : List UInt8) (Am : Bool) (An : Int) (Ao : Bool) (Ap Aq : Int) (Ar As At : List UInt8) (Au Av Aw Ax Ay Az A0 : Int) (K : Ex → Env → Mem → Option (AV × Int)) := (fun z_v24 => K .norm (qe [(1, (.ptr 0 0)), (2, (.ptr 1 0)), (24, (.bool z_v24))]) (qd [(some (.box true (qc1 Al Am An))), (some (.box true (q8 Ao Ap Aq Ar As At Au Av Aw Ax Ay Az A0)))]))
def qhq  (v4 : List AV) (Al : List UInt8) (Am : Bool) (An : Int) (Ao : Bool) (Ap Aq : Int) (Ar As At : List UInt8) (Au Av Aw Ax Ay Az A0 : Int) (kn : Bool → Option (AV × Int)) : Option (AV × Int) :=
  (oB (qij Al) fun r1 => (bif (!r1) then (kn true) else (bif (decide ((v4.length : Int) > (0 : Int))) then (oB (ixB v4 (0 : Int)) fun y2 => (bif fitC [.s] y2.cells then (kn ((gS y2.cells 0) == ([42] : List UInt8))) else none)) else (kn false))))
def qm3 := hull (qhq)
theorem q0s : qm3 = qhq := qa _
def q2a : SubB Tryz.prog (TIof Tryz.prog) 49 0 (kret [(.cell 2 true 13), .t 3] qlx) := jnB tabOk follows Tryz.f42 19 (.r [(2, .c qm1.b), (10, .p (.etac 20 [.s]))] [.sel [1, 2, 24] [0, 1]]) S54_ (qhq) (fun f v K => f (v.l 16 0) (v.s 3 0) (v.b 3 1) (v.i 3 2) (v.b 7 0) (v.i 7 1) (v.i 7 2) (v.s 7 3) (v.s 7 4) (v.s 7 5) (v.i 7 6) (v.i 7 7) (v.i 7 8) (v.i 7 9) (v.i 7 10) (v.i 7 11) (v.i 7 12) (q0r (v.s 3 0) (v.b 3 1) (v.i 3 2) (v.b 7 0) (v.i 7 1) (v.i 7 2) (v.s 7 3) (v.s 7 4) (v.s 7 5) (v.i 7 6) (v.i 7 7) (v.i 7 8) (v.i 7 9) (v.i 7 10) (v.i 7 11) (v.i 7 12) K)) (by kernel_rfl) (fun _ _ => (by kernel_rfl))
def qxy  (Al : List UInt8) (Am : Bool) (An : Int) (Ao : Bool) (Ap Aq : Int) (Ar As At : List UInt8) (Au Av Aw Ax Ay Az A0 : Int) (Bv : Bool) (Bw Bx : Int) (By Bz B0 : List UInt8) (B2 B3 B4 B5 B6 B7 : Int) (K : Ex → Env → Mem → Option (AV × Int)) := (fun z_v6 z_b2_6 => K .norm (qe [(1, (.ptr 0 0)), (2, (.ptr 1 0)), (5, (.ptr 2 0)), (6, (.str z_v6))]) (qd [(some (.box true (qc1 Al Am An))), (some (.box true (q8 Ao Ap Aq Ar As At Au Av Aw Ax Ay Az A0))), (some (.box true (q8 Bv Bw Bx By Bz B0 z_b2_6 B2 B3 B4 B5 B6 B7)))]))
def qgw  (v6 Al : List UInt8) (Am : Bool) (An : Int) (Ao : Bool) (Ap Aq : Int) (Ar As At : List UInt8) (Au Av Aw Ax Ay Az A0 : Int) (Bv : Bool) (Bw Bx : Int) (By Bz B0 : List UInt8) (B1 B2 B3 B4 B5 B6 B7 : Int) (kn : (List UInt8) → Int → Option (AV × Int)) : Option (AV × Int) :=
  (bif Am then (kn ([75] : List UInt8) (257 : Int)) else (kn v6 B1))
def qrf := hull (qgw)
theorem qxz : qrf = qgw := qa _
def q0t : SubB Tryz.prog (TIof Tryz.prog) 49 0 (kret [(.cell 2 true 13), .t 3] qlx) := jnB tabOk follows Tryz.f42 191 (.s .z (.s (.s .z (.v [.sel [1, 2, 5, 6] [0, 1, 2]])) (.v [.sel [1, 2, 5, 6] [0, 1, 2]]))) S55_ (qgw) (fun f v K => f (v.s 24 0) (v.s 3 0) (v.b 3 1) (v.i 3 2) (v.b 7 0) (v.i 7 1) (v.i 7 2) (v.s 7 3) (v.s 7 4) (v.s 7 5) (v.i 7 6) (v.i 7 7) (v.i 7 8) (v.i 7 9) (v.i 7 10) (v.i 7 11) (v.i 7 12) (v.b 11 0) (v.i 11 1) (v.i 11 2) (v.s 11 3) (v.s 11 4) (v.s 11 5) (v.i 11 6) (v.i 11 7) (v.i 11 8) (v.i 11 9) (v.i 11 10) (v.i 11 11) (v.i 11 12) (qxy (v.s 3 0) (v.b 3 1) (v.i 3 2) (v.b 7 0) (v.i 7 1) (v.i 7 2) (v.s 7 3) (v.s 7 4) (v.s 7 5) (v.i 7 6) (v.i 7 7) (v.i 7 8) (v.i 7 9) (v.i 7 10) (v.i 7 11) (v.i 7 12) (v.b 11 0) (v.i 11 1) (v.i 11 2) (v.s 11 3) (v.s 11 4) (v.s 11 5) (v.i 11 7) (v.i 11 8) (v.i 11 9) (v.i 11 10) (v.i 11 11) (v.i 11 12) K)) (by kernel_rfl) (fun _ _ => (by kernel_rfl))
def qka (Aa : List UInt8) (Ab : Bool) (Ac : Int) : Option (AV × Int) :=
  (oB (qj8 Aa) fun r1 => (qm3 r1 Aa Ab Ac false (0 : Int) (0 : Int) ([] : List UInt8) ([] : List UInt8) ([] : List UInt8) (0 : Int) (0 : Int) (0 : Int) (0 : Int) (0 : Int) (0 : Int) (0 : Int) (fun v24q2 => (bif v24q2 then (some ((.agg [(.bool false), (.int .u64 (0 : Int)), (.int .u64 (0 : Int)), (.str ([] : List UInt8)), (.str ([] : List UInt8)), (.str ([] : List UInt8)), (.int .i64 (0 : Int)), (.int .i64 (0 : Int)), (.int .i64 (0 : Int)), (.int .i64 (0 : Int)), (.int .i64 (0 : Int)), (.int .i64 (0 : Int)), (.int .u64 (0 : Int))]), (2 : Int))) else (bif ((decide (Ac < (0 : Int))) || (decide (Ac > (2147483647 : Int)))) then (some ((.agg [(.bool false), (.int .u64 (0 : Int)), (.int .u64 (0 : Int)), (.str ([] : List UInt8)), (.str ([] : List UInt8)), (.str ([] : List UInt8)), (.int .i64 (0 : Int)), (.int .i64 (0 : Int)), (.int .i64 (0 : Int)), (.int .i64 (0 : Int)), (.int .i64 (0 : Int)), (.int .i64 (0 : Int)), (.int .u64 (0 : Int))]), (1 : Int))) else (qrf ([90] : List UInt8) Aa Ab Ac false (0 : Int) (0 : Int) ([] : List UInt8) ([] : List UInt8) ([] : List UInt8) (0 : Int) (0 : Int) (0 : Int) (0 : Int) (0 : Int) (0 : Int) (0 : Int) false (0 : Int) (0 : Int) ([] : List UInt8) ([] : List UInt8) ([] : List UInt8) (256 : Int) (3 : Int) (253 : Int) (0 : Int) (0 : Int) (0 : Int) (0 : Int) (fun v6q3 b2_6q4 => (oB (qm2 Ac) fun r5 => (bif decide (v6q3.length + r5.length ≤ 9223372036854775807) then (oB (qso Aa (v6q3 ++ r5)) fun r6 => (some ((.agg [(.bool false), (.int .u64 (0 : Int)), (.int .u64 (0 : Int)), (.str ([] : List UInt8)), (.str ([] : List UInt8)), (.str r6), (.int .i64 b2_6q4), (.int .i64 (3 : Int)), (.int .i64 (253 : Int)), (.int .i64 (0 : Int)), (.int .i64 (0 : Int)), (.int .i64 (0 : Int)), (.int .u64 (0 : Int))]), (0 : Int)))) else none)))))))))
def qmt := hull qka
theorem q57 : qmt = qka := qa _
def quf {R : Type} : EntF Tryz.prog R := entB (nt := 49) (dec := qlx) (enc := (fun r => .tup [qow (.st [.b, (.i .u64), (.i .u64), .s, .s, .s, (.i .i64), (.i .i64), (.i .i64), (.i .i64), (.i .i64), (.i .i64), (.i .u64)]) r.1, .int .i64 r.2])) tabOk follows Tryz.func42 [(.cell 2 true 13), .t 3] (hdeN fun _ => rfl) (.s .z (.s (.r [(2, .k qre.b)] []) (.s (.s (.sub [.sel [1, 2, 4] [0, 1]] q2a []) .z) (.s (.s (.r [(4, .g 3)] []) .z) (.s .z (.s .z (.s (.sub [.sel [1, 2, 5, 6] [0, 1, 2]] q0t []) (.s (.d [] [(5, .c q16.b)] [(0, .c q9e.b)] []) .z)))))))) S25_ qka (fun f v => f (v.s 1 0) (v.b 1 1) (v.i 1 2)) (by kernel_rfl) (by kernel_rfl) (by kernel_rfl) fun _ => (by kernel_rfl)
def qjy (v0 : Int) : Option (List UInt8) :=
  (bif (v0 == (1 : Int)) then (some ([65] : List UInt8)) else (bif (v0 == (2 : Int)) then (some ([78, 83] : List UInt8)) else (bif (v0 == (5 : Int)) then (some ([67, 78, 65, 77, 69] : List UInt8)) else (bif (v0 == (6 : Int)) then (some ([83, 79, 65] : List UInt8)) else (bif (v0 == (12 : Int)) then (some ([80, 84, 82] : List UInt8)) else (bif (v0 == (15 : Int)) then (some ([77, 88] : List UInt8)) else (bif (v0 == (16 : Int)) then (some ([84, 88, 84] : List UInt8)) else (bif (v0 == (28 : Int)) then (some ([65, 65, 65, 65] : List UInt8)) else (bif (v0 == (33 : Int)) then (some ([83, 82, 86] : List UInt8)) else (bif (v0 == (39 : Int)) then (some ([68, 78, 65, 77, 69] : List UInt8)) else (bif (v0 == (43 : Int)) then (some ([68, 83] : List UInt8)) else (bif (v0 == (46 : Int)) then (some ([82, 82, 83, 73, 71] : List UInt8)) else (bif (v0 == (47 : Int)) then (some ([78, 83, 69, 67] : List UInt8)) else (bif (v0 == (48 : Int)) then (some ([68, 78, 83, 75, 69, 89] : List UInt8)) else (some ([] : List UInt8))))))))))))))))
def qrg := hull qjy
theorem qx0 : qrg = qjy := qa _
def q0u {R : Type} : EntF Tryz.prog R := entB (nt := 32) (dec := decS) (enc := AV.str) tabOk follows Tryz.func141 [.t 2] hdeS (.z) S27_ qjy (fun f v => f (v.i 0 0)) (by kernel_rfl) (by kernel_rfl) (by kernel_rfl) fun _ => (by kernel_rfl)
def qi3 (v0 : Int) : Option Bool :=
  (oB (qrg v0) fun r1 => (some (!(r1 == ([] : List UInt8)))))
def qgh := hull qi3
theorem q4x : qgh = qi3 := qa _
def qi4 {R : Type} : EntF Tryz.prog R := entB (nt := 6) (dec := decB) (enc := AV.bool) tabOk follows Tryz.func112 [.t 2] hdeB (.s .z (.s (.r [(1, .c q0u.b)] []) .z)) S27_ qi3 (fun f v => f (v.i 0 0)) (by kernel_rfl) (by kernel_rfl) (by kernel_rfl) fun _ => (by kernel_rfl)
def S56_ : Shp := ⟨[(3, .one (.ptr 0 0)), (4, .one (.ptr 1 0)), (5, .one (.l (.i .i64)))], [.box true (lk qb6), .box true (lk qb6)]⟩
def q0v  (v5 : Int) (Al : Bool) (Am An : Int) (A1 A2 A3 : List UInt8) (A4 A5 A6 A7 A8 A9 Ba : Int) (Ao : Bool) (Ap Aq : Int) (Ar As At : List UInt8) (Au Av Aw Ax Ay Az A0 : Int) (K : Ex → Env → Mem → Option AV) := (fun z_v6 => K .norm (qe [(3, (.ptr 0 0)), (4, (.ptr 1 0)), (5, (.int .i64 v5)), (6, (.bool z_v6))]) (qd [(some (.box true (q8 Al Am An A1 A2 A3 A4 A5 A6 A7 A8 A9 Ba))), (some (.box true (q8 Ao Ap Aq Ar As At Au Av Aw Ax Ay Az A0)))]))
def qhr  (v5 : Int) (Al : Bool) (Am An : Int) (A1 A2 A3 : List UInt8) (A4 A5 A6 A7 A8 A9 Ba : Int) (Ao : Bool) (Ap Aq : Int) (Ar As At : List UInt8) (Au Av Aw Ax Ay Az A0 : Int) (kn : Bool → Option AV) : Option AV :=
  (bif (v5 == (1 : Int)) then (kn true) else (kn (v5 == (28 : Int))))
def qsp := hull (qhr)
theorem q0w : qsp = qhr := qa _
def q2b : SubB Tryz.prog (TIof Tryz.prog) 96 0 (kret [(.cell 4 true 13)] (decT [.b, (.i .u64), (.i .u64), .s, .s, .s, (.i .i64), (.i .i64), (.i .i64), (.i .i64), (.i .i64), (.i .i64), (.i .u64)])) := jnB tabOk follows Tryz.f113 37 (.s .z (.s (.v [.sel [3, 4, 5, 6] [0, 1]]) (.v [.sel [3, 4, 5, 6] [0, 1]]))) S56_ (qhr) (fun f v K => f (v.i 20 0) (v.b 3 0) (v.i 3 1) (v.i 3 2) (v.s 3 3) (v.s 3 4) (v.s 3 5) (v.i 3 6) (v.i 3 7) (v.i 3 8) (v.i 3 9) (v.i 3 10) (v.i 3 11) (v.i 3 12) (v.b 7 0) (v.i 7 1) (v.i 7 2) (v.s 7 3) (v.s 7 4) (v.s 7 5) (v.i 7 6) (v.i 7 7) (v.i 7 8) (v.i 7 9) (v.i 7 10) (v.i 7 11) (v.i 7 12) (q0v (v.i 20 0) (v.b 3 0) (v.i 3 1) (v.i 3 2) (v.s 3 3) (v.s 3 4) (v.s 3 5) (v.i 3 6) (v.i 3 7) (v.i 3 8) (v.i 3 9) (v.i 3 10) (v.i 3 11) (v.i 3 12) (v.b 7 0) (v.i 7 1) (v.i 7 2) (v.s 7 3) (v.s 7 4) (v.s 7 5) (v.i 7 6) (v.i 7 7) (v.i 7 8) (v.i 7 9) (v.i 7 10) (v.i 7 11) (v.i 7 12) K)) (by kernel_rfl) (fun _ _ => (by kernel_rfl))
def qx1  (v5 : Int) (Al : Bool) (Am An : Int) (A1 A2 A3 : List UInt8) (A4 A5 A6 A7 A8 A9 Ba : Int) (Ao : Bool) (Ap Aq : Int) (Ar As At : List UInt8) (Au Av Aw Ax Ay Az A0 : Int) (K : Ex → Env → Mem → Option AV) := (fun z_v12 => K .norm (qe [(3, (.ptr 0 0)), (4, (.ptr 1 0)), (5, (.int .i64 v5)), (12, (.bool z_v12))]) (qd [(some (.box true (q8 Al Am An A1 A2 A3 A4 A5 A6 A7 A8 A9 Ba))), (some (.box true (q8 Ao Ap Aq Ar As At Au Av Aw Ax Ay Az A0)))]))
def qgx  (v5 : Int) (Al : Bool) (Am An : Int) (A1 A2 A3 : List UInt8) (A4 A5 A6 A7 A8 A9 Ba : Int) (Ao : Bool) (Ap Aq : Int) (Ar As At : List UInt8) (Au Av Aw Ax Ay Az A0 : Int) (kn : Bool → Option AV) : Option AV :=
  (bif (v5 == (2 : Int)) then (kn true) else (bif (v5 == (5 : Int)) then (kn true) else (bif (v5 == (12 : Int)) then (kn true) else (kn (v5 == (39 : Int))))))
def qrh := hull (qgx)
theorem qx2 : qrh = qgx := qa _
def q0x : SubB Tryz.prog (TIof Tryz.prog) 96 0 (kret [(.cell 4 true 13)] (decT [.b, (.i .u64), (.i .u64), .s, .s, .s, (.i .i64), (.i .i64), (.i .i64), (.i .i64), (.i .i64), (.i .i64), (.i .u64)])) := jnB tabOk follows Tryz.f113 181 (.s .z (.s (.v [.sel [3, 4, 5, 12] [0, 1]]) (.s .z (.s (.v [.sel [3, 4, 5, 12] [0, 1]]) (.s .z (.s (.v [.sel [3, 4, 5, 12] [0, 1]]) (.v [.sel [3, 4, 5, 12] [0, 1]]))))))) S56_ (qgx) (fun f v K => f (v.i 20 0) (v.b 3 0) (v.i 3 1) (v.i 3 2) (v.s 3 3) (v.s 3 4) (v.s 3 5) (v.i 3 6) (v.i 3 7) (v.i 3 8) (v.i 3 9) (v.i 3 10) (v.i 3 11) (v.i 3 12) (v.b 7 0) (v.i 7 1) (v.i 7 2) (v.s 7 3) (v.s 7 4) (v.s 7 5) (v.i 7 6) (v.i 7 7) (v.i 7 8) (v.i 7 9) (v.i 7 10) (v.i 7 11) (v.i 7 12) (qx1 (v.i 20 0) (v.b 3 0) (v.i 3 1) (v.i 3 2) (v.s 3 3) (v.s 3 4) (v.s 3 5) (v.i 3 6) (v.i 3 7) (v.i 3 8) (v.i 3 9) (v.i 3 10) (v.i 3 11) (v.i 3 12) (v.b 7 0) (v.i 7 1) (v.i 7 2) (v.s 7 3) (v.s 7 4) (v.s 7 5) (v.i 7 6) (v.i 7 7) (v.i 7 8) (v.i 7 9) (v.i 7 10) (v.i 7 11) (v.i 7 12) K)) (by kernel_rfl) (fun _ _ => (by kernel_rfl))
def qx3  (v5 : Int) (Al : Bool) (Am An : Int) (A1 A2 A3 : List UInt8) (A4 A5 A6 A7 A8 A9 Ba : Int) (Ao : Bool) (Ap Aq : Int) (Ar As At : List UInt8) (Au Av Aw Ax Ay Az A0 : Int) (K : Ex → Env → Mem → Option AV) := (fun z_v60 => K .norm (qe [(3, (.ptr 0 0)), (4, (.ptr 1 0)), (5, (.int .i64 v5)), (60, (.bool z_v60))]) (qd [(some (.box true (q8 Al Am An A1 A2 A3 A4 A5 A6 A7 A8 A9 Ba))), (some (.box true (q8 Ao Ap Aq Ar As At Au Av Aw Ax Ay Az A0)))]))
def qgy  (v5 : Int) (Al : Bool) (Am An : Int) (A1 A2 A3 : List UInt8) (A4 A5 A6 A7 A8 A9 Ba : Int) (Ao : Bool) (Ap Aq : Int) (Ar As At : List UInt8) (Au Av Aw Ax Ay Az A0 : Int) (kn : Bool → Option AV) : Option AV :=
  (bif (v5 == (43 : Int)) then (kn true) else (kn (v5 == (48 : Int))))
def qri := hull (qgy)
theorem qx4 : qri = qgy := qa _
def q0y : SubB Tryz.prog (TIof Tryz.prog) 96 0 (kret [(.cell 4 true 13)] (decT [.b, (.i .u64), (.i .u64), .s, .s, .s, (.i .i64), (.i .i64), (.i .i64), (.i .i64), (.i .i64), (.i .i64), (.i .u64)])) := jnB tabOk follows Tryz.f113 196597 (.s .z (.s (.v [.sel [3, 4, 5, 60] [0, 1]]) (.v [.sel [3, 4, 5, 60] [0, 1]]))) S56_ (qgy) (fun f v K => f (v.i 20 0) (v.b 3 0) (v.i 3 1) (v.i 3 2) (v.s 3 3) (v.s 3 4) (v.s 3 5) (v.i 3 6) (v.i 3 7) (v.i 3 8) (v.i 3 9) (v.i 3 10) (v.i 3 11) (v.i 3 12) (v.b 7 0) (v.i 7 1) (v.i 7 2) (v.s 7 3) (v.s 7 4) (v.s 7 5) (v.i 7 6) (v.i 7 7) (v.i 7 8) (v.i 7 9) (v.i 7 10) (v.i 7 11) (v.i 7 12) (qx3 (v.i 20 0) (v.b 3 0) (v.i 3 1) (v.i 3 2) (v.s 3 3) (v.s 3 4) (v.s 3 5) (v.i 3 6) (v.i 3 7) (v.i 3 8) (v.i 3 9) (v.i 3 10) (v.i 3 11) (v.i 3 12) (v.b 7 0) (v.i 7 1) (v.i 7 2) (v.s 7 3) (v.s 7 4) (v.s 7 5) (v.i 7 6) (v.i 7 7) (v.i 7 8) (v.i 7 9) (v.i 7 10) (v.i 7 11) (v.i 7 12) K)) (by kernel_rfl) (fun _ _ => (by kernel_rfl))
def qkb (v0 : Int) (Bb : Bool) (Bc Bd : Int) (Be Bf Bg : List UInt8) (Bh Bi Bj Bl Bm Bn Bo : Int) : Option AV :=
  (qsp v0 Bb Bc Bd Be Bf Bg Bh Bi Bj Bl Bm Bn Bo false (0 : Int) (0 : Int) ([] : List UInt8) ([] : List UInt8) ([] : List UInt8) (0 : Int) (0 : Int) (0 : Int) (0 : Int) (0 : Int) (0 : Int) (0 : Int) (fun v6q1 => (bif v6q1 then (some (.agg [(.bool Bb), (.int .u64 Bc), (.int .u64 Bd), (.str ([] : List UInt8)), (.str ([] : List UInt8)), (.str ([] : List UInt8)), (.int .i64 (0 : Int)), (.int .i64 (0 : Int)), (.int .i64 (0 : Int)), (.int .i64 (0 : Int)), (.int .i64 (0 : Int)), (.int .i64 (0 : Int)), (.int .u64 (0 : Int))])) else (qrh v0 Bb Bc Bd Be Bf Bg Bh Bi Bj Bl Bm Bn Bo false (0 : Int) (0 : Int) ([] : List UInt8) ([] : List UInt8) ([] : List UInt8) (0 : Int) (0 : Int) (0 : Int) (0 : Int) (0 : Int) (0 : Int) (0 : Int) (fun v12q2 => (bif v12q2 then (some (.agg [(.bool false), (.int .u64 (0 : Int)), (.int .u64 (0 : Int)), (.str Be), (.str ([] : List UInt8)), (.str ([] : List UInt8)), (.int .i64 (0 : Int)), (.int .i64 (0 : Int)), (.int .i64 (0 : Int)), (.int .i64 (0 : Int)), (.int .i64 (0 : Int)), (.int .i64 (0 : Int)), (.int .u64 (0 : Int))])) else (bif (v0 == (6 : Int)) then (some (.agg [(.bool false), (.int .u64 (0 : Int)), (.int .u64 (0 : Int)), (.str Be), (.str Bf), (.str ([] : List UInt8)), (.int .i64 Bh), (.int .i64 Bi), (.int .i64 Bj), (.int .i64 Bl), (.int .i64 Bm), (.int .i64 (0 : Int)), (.int .u64 (0 : Int))])) else (bif (v0 == (15 : Int)) then (some (.agg [(.bool false), (.int .u64 (0 : Int)), (.int .u64 (0 : Int)), (.str Be), (.str ([] : List UInt8)), (.str ([] : List UInt8)), (.int .i64 Bh), (.int .i64 (0 : Int)), (.int .i64 (0 : Int)), (.int .i64 (0 : Int)), (.int .i64 (0 : Int)), (.int .i64 (0 : Int)), (.int .u64 (0 : Int))])) else (bif (v0 == (16 : Int)) then (some (.agg [(.bool false), (.int .u64 (0 : Int)), (.int .u64 (0 : Int)), (.str ([] : List UInt8)), (.str ([] : List UInt8)), (.str Bg), (.int .i64 (0 : Int)), (.int .i64 (0 : Int)), (.int .i64 (0 : Int)), (.int .i64 (0 : Int)), (.int .i64 (0 : Int)), (.int .i64 (0 : Int)), (.int .u64 (0 : Int))])) else (bif (v0 == (33 : Int)) then (some (.agg [(.bool false), (.int .u64 (0 : Int)), (.int .u64 (0 : Int)), (.str Be), (.str ([] : List UInt8)), (.str ([] : List UInt8)), (.int .i64 Bh), (.int .i64 Bi), (.int .i64 Bj), (.int .i64 (0 : Int)), (.int .i64 (0 : Int)), (.int .i64 (0 : Int)), (.int .u64 (0 : Int))])) else (qri v0 Bb Bc Bd Be Bf Bg Bh Bi Bj Bl Bm Bn Bo false (0 : Int) (0 : Int) ([] : List UInt8) ([] : List UInt8) ([] : List UInt8) (0 : Int) (0 : Int) (0 : Int) (0 : Int) (0 : Int) (0 : Int) (0 : Int) (fun v60q3 => (bif v60q3 then (some (.agg [(.bool false), (.int .u64 (0 : Int)), (.int .u64 (0 : Int)), (.str ([] : List UInt8)), (.str ([] : List UInt8)), (.str Bg), (.int .i64 Bh), (.int .i64 Bi), (.int .i64 Bj), (.int .i64 (0 : Int)), (.int .i64 (0 : Int)), (.int .i64 (0 : Int)), (.int .u64 (0 : Int))])) else (bif (v0 == (46 : Int)) then (some (.agg [(.bool false), (.int .u64 (0 : Int)), (.int .u64 (0 : Int)), (.str Be), (.str ([] : List UInt8)), (.str Bg), (.int .i64 Bh), (.int .i64 Bi), (.int .i64 Bj), (.int .i64 Bl), (.int .i64 Bm), (.int .i64 Bn), (.int .u64 (0 : Int))])) else (some (.agg [(.bool false), (.int .u64 (0 : Int)), (.int .u64 (0 : Int)), (.str Be), (.str ([] : List UInt8)), (.str ([] : List UInt8)), (.int .i64 (0 : Int)), (.int .i64 (0 : Int)), (.int .i64 (0 : Int)), (.int .i64 (0 : Int)), (.int .i64 (0 : Int)), (.int .i64 (0 : Int)), (.int .u64 Bo)]))))))))))))))))
def qqx := hull qkb
theorem q58 : qqx = qkb := qa _
def q7f {R : Type} : EntF Tryz.prog R := entB (nt := 96) (dec := (decT [.b, (.i .u64), (.i .u64), .s, .s, .s, (.i .i64), (.i .i64), (.i .i64), (.i .i64), (.i .i64), (.i .i64), (.i .u64)])) (enc := (qow (.st [.b, (.i .u64), (.i .u64), .s, .s, .s, (.i .i64), (.i .i64), (.i .i64), (.i .i64), (.i .i64), (.i .i64), (.i .u64)]))) tabOk follows Tryz.func113 [(.cell 4 true 13)] hdeT (.s .z (.s (.s .z (.b (.s (.sub [.sel [3, 4, 5] [0, 1]] q2b []) (.s .z (.s (.sub [.sel [3, 4, 5] [0, 1]] q0x []) (.s .z (.s .z (.s .z (.s .z (.s .z (.s .z (.s .z (.s .z (.s .z (.s (.sub [.sel [3, 4, 5] [0, 1]] q0y []) .z))))))))))))))) .z)) S34_ qkb (fun f v => f (v.i 0 0) (v.b 5 0) (v.i 5 1) (v.i 5 2) (v.s 5 3) (v.s 5 4) (v.s 5 5) (v.i 5 6) (v.i 5 7) (v.i 5 8) (v.i 5 9) (v.i 5 10) (v.i 5 11) (v.i 5 12)) (by kernel_rfl) (by kernel_rfl) (by kernel_rfl) fun _ => (by kernel_rfl)
def qsq (Aa : Bool) (Ab Ac : Int) : Option Bool :=
  (bif Aa then (some true) else (bif (Ab == (0 : Int)) then (some (decide (Ac < (4294967296 : Int)))) else (some false)))
def qwa := hull qsq
def qsr {R : Type} : EntF Tryz.prog R := entB (nt := 15) (dec := decB) (enc := AV.bool) tabOk follows Tryz.func114 [.t 2] hdeB (.z) S28_ qsq (fun f v => f (v.b 1 0) (v.i 1 1) (v.i 1 2)) (by kernel_rfl) (by kernel_rfl) (by kernel_rfl) fun _ => (by kernel_rfl)
def qug (v0 : List UInt8) : Option Bool :=
  (oB (qij v0) fun r1 => (bif r1 then (oB (ixB v0 (0 : Int)) fun c2 => (some ((c2.toNat : Int) != (42 : Int)))) else (some false)))
def qhd := hull qug
def qfu {R : Type} : EntF Tryz.prog R := entB (nt := 10) (dec := decB) (enc := AV.bool) tabOk follows Tryz.func115 [.t 2] hdeB (.s .z (.s (.r [(1, .c qm1.b)] []) .z)) S16_ qug (fun f v => f (v.s 0 0)) (by kernel_rfl) (by kernel_rfl) (by kernel_rfl) fun _ => (by kernel_rfl)
def qss (v0 : Int) : Option Bool :=
  (some ((decide (v0 ≥ (0 : Int))) && (decide (v0 < (4294967296 : Int)))))
def q9f := hull qss
def q59 {R : Type} : EntF Tryz.prog R := entB (nt := 9) (dec := decB) (enc := AV.bool) tabOk follows Tryz.func116 [.t 2] hdeB (.s .z (.s (.r [(3, .g 2)] []) .z)) S27_ qss (fun f v => f (v.i 0 0)) (by kernel_rfl) (by kernel_rfl) (by kernel_rfl) fun _ => (by kernel_rfl)
def qqy (v0 v1 : Int) : Option Bool :=
  (some ((decide (v0 ≥ (0 : Int))) && (decide (v0 ≤ v1))))
def qbn := hull qqy
theorem q9g : qbn = qqy := qa _
def qbh {R : Type} : EntF Tryz.prog R := entB (nt := 12) (dec := decB) (enc := AV.bool) tabOk follows Tryz.func117 [.t 4] hdeB (.s .z (.s (.r [(3, .g 3)] []) .z)) S29_ qqy (fun f v => f (v.i 0 0) (v.i 4 0)) (by kernel_rfl) (by kernel_rfl) (by kernel_rfl) fun _ => (by kernel_rfl)
def qkc (v0 : List UInt8) : Option Bool :=
  (some ((decide ((v0.length : Int) ≥ (1 : Int))) && (decide ((v0.length : Int) ≤ (255 : Int)))))
def qjq := hull qkc
theorem q6a : qjq = qkc := qa _
def qof {R : Type} : EntF Tryz.prog R := entB (nt := 11) (dec := decB) (enc := AV.bool) tabOk follows Tryz.func118 [.t 2] hdeB (.s .z (.s (.r [(4, .g 3)] []) .z)) S16_ qkc (fun f v => f (v.s 0 0)) (by kernel_rfl) (by kernel_rfl) (by kernel_rfl) fun _ => (by kernel_rfl)
def S57_ : Shp := ⟨[(0, .one (.l (.i .u64))), (3, .one (.l (.i .i64)))], []⟩
def qpa  (K : Ex → Env → Mem → Option Bool) := (fun (_ : Unit) => K (.exit 0) (qe []) (qd []))
def qrj  (v0 v3 : Int) (next : Int → Option Bool) (kx0 : Unit → Option Bool) : Option Bool :=
  (bif (decide (v3 < (64 : Int))) then (bif decide ((IntKind.u64.wrap v3) < 0) then none else (bif ((qdf .and .u64 (v0.fdiv (2 ^ min (IntKind.u64.wrap v3).toNat IntKind.u64.bits)) (1 : Int)) == (1 : Int)) then (oB (qgh v3) fun r1 => (bif (!r1) then (some false) else (next (IntKind.i64.wrap (v3 + (1 : Int)))))) else (next (IntKind.i64.wrap (v3 + (1 : Int)))))) else (kx0 ()))
def qly  (v0 : Int) (kx0 : Unit → Option Bool) : Nat → Int → Option Bool
  | 0 => (fun _ => none)
  | n + 1 => (fun v3 => qrj v0 v3 (qly v0 kx0 n) kx0)
def q7g := hull (qly)
def q4y : SubB Tryz.prog (TIof Tryz.prog) 19 0 (kret [.t 2] decB) := lpB tabOk follows Tryz.f119 37 (.s (.s .z (.s .z (.v [.sel [] []]))) (.s (.b (.s (.r [(8, .c qi4.b)] []) .z)) (.v [.sel [0, 3] []]))) S57_ (qly) (fun f v K n => f (v.i 0 0) (qpa K) n) (fun v f K => qrj (v.i 0 0) (v.i 12 0) f (qpa K)) (fun f v => f (v.i 12 0)) (fun k v => (fun z0 => k (v.ui 12 0 z0))) (by kernel_rfl) (fun _ _ => (by kernel_rfl)) (fun _ _ _ => (by kernel_rfl)) (fun _ _ _ => (by kernel_rfl)) (fun _ _ => (by kernel_rfl)) (fun _ _ _ _ _ => (by kernel_rfl))
def qwb (v0 : Int) : Option Bool :=
  (q7g v0 (fun (_ : Unit) => (some true)) FU (0 : Int))
def qbco := hull qwb
def q9h {R : Type} : EntF Tryz.prog R := entB (nt := 19) (dec := decB) (enc := AV.bool) tabOk follows Tryz.func119 [.t 2] hdeB (.s .z (.s (.s .z (.b (.sub [.sel [0, 3] []] q4y []))) .z)) S20_ qwb (fun f v => f (v.i 0 0)) (by kernel_rfl) (by kernel_rfl) (by kernel_rfl) fun _ => (by kernel_rfl)
def S58_ : Shp := ⟨[(0, .one (.l (.i .i64))), (3, .one (.ptr 0 0))], [.box true (lk qb6)]⟩
def qx5  (v0 : Int) (Al : Bool) (Am An : Int) (A1 A2 A3 : List UInt8) (A4 A5 A6 A7 A8 A9 Ba : Int) (K : Ex → Env → Mem → Option Bool) := (fun z_v14 => K .norm (qe [(0, (.int .i64 v0)), (3, (.ptr 0 0)), (14, (.bool z_v14))]) (qd [(some (.box true (q8 Al Am An A1 A2 A3 A4 A5 A6 A7 A8 A9 Ba)))]))
def qgz  (v0 : Int) (Al : Bool) (Am An : Int) (A1 A2 A3 : List UInt8) (A4 A5 A6 A7 A8 A9 Ba : Int) (kn : Bool → Option Bool) : Option Bool :=
  (oB (qgh v0) fun r1 => (bif (!r1) then (kn true) else (oB (qqx v0 Al Am An A1 A2 A3 A4 A5 A6 A7 A8 A9 Ba) fun r2 => (kn (!(((gB r2.cells 0) == Al) && (((gI r2.cells 1) == Am) && (((gI r2.cells 2) == An) && (((gS r2.cells 3) == A1) && (((gS r2.cells 4) == A2) && (((gS r2.cells 5) == A3) && (((gI r2.cells 6) == A4) && (((gI r2.cells 7) == A5) && (((gI r2.cells 8) == A6) && (((gI r2.cells 9) == A7) && (((gI r2.cells 10) == A8) && (((gI r2.cells 11) == A9) && (((gI r2.cells 12) == Ba) && true))))))))))))))))))
def qrk := hull (qgz)
theorem qx6 : qrk = qgz := qa _
def q0z : SubB Tryz.prog (TIof Tryz.prog) 211 0 (kret [.t 4] decB) := jnB tabOk follows Tryz.f84 9 (.d [] [(1, .c qi4.b), (6, .c q7f.b)] [] [.sel [0, 3, 14] [0]]) S58_ (qgz) (fun f v K => f (v.i 0 0) (v.b 3 0) (v.i 3 1) (v.i 3 2) (v.s 3 3) (v.s 3 4) (v.s 3 5) (v.i 3 6) (v.i 3 7) (v.i 3 8) (v.i 3 9) (v.i 3 10) (v.i 3 11) (v.i 3 12) (qx5 (v.i 0 0) (v.b 3 0) (v.i 3 1) (v.i 3 2) (v.s 3 3) (v.s 3 4) (v.s 3 5) (v.i 3 6) (v.i 3 7) (v.i 3 8) (v.i 3 9) (v.i 3 10) (v.i 3 11) (v.i 3 12) K)) (by kernel_rfl) (fun _ _ => (by kernel_rfl))
def qwc  (K : Ex → Env → Mem → Option Bool) := (fun z_v4 => K .norm (qe [(4, (.bool z_v4))]) (qd []))
def qog  (Al : Bool) (Am An : Int) (A1 A2 A3 : List UInt8) (A4 A5 A6 A7 A8 A9 Ba : Int) (kn : Bool → Option Bool) : Option Bool :=
  (oB (qhd A1) fun r1 => (bif r1 then (oB (qhd A2) fun r2 => (bif r2 then (oB (q9f A4) fun r3 => (bif r3 then (oB (qbn A5 (2147483647 : Int)) fun r4 => (bif r4 then (oB (qbn A6 (2147483647 : Int)) fun r5 => (bif r5 then (oB (qbn A7 (2147483647 : Int)) fun r6 => (bif r6 then (oB (qbn A8 (2147483647 : Int)) fun r7 => (kn r7)) else (kn false))) else (kn false))) else (kn false))) else (kn false))) else (kn false))) else (kn false)))
def q2c := hull (qog)
def qx7 : SubB Tryz.prog (TIof Tryz.prog) 211 0 (kret [.t 4] decB) := jnB tabOk follows Tryz.f84 5099 (.r [(2, .c qfu.b), (6, .c qfu.b), (11, .c q59.b), (16, .c qbh.b), (21, .c qbh.b), (26, .c qbh.b), (31, .c qbh.b)] [.sel [4] []]) S33_ (qog) (fun f v K => f (v.b 3 0) (v.i 3 1) (v.i 3 2) (v.s 3 3) (v.s 3 4) (v.s 3 5) (v.i 3 6) (v.i 3 7) (v.i 3 8) (v.i 3 9) (v.i 3 10) (v.i 3 11) (v.i 3 12) (qwc K)) (by kernel_rfl) (fun _ _ => (by kernel_rfl))
def qwd  (K : Ex → Env → Mem → Option Bool) := (fun z_v4 => K .norm (qe [(4, (.bool z_v4))]) (qd []))
def qoh  (Al : Bool) (Am An : Int) (A1 A2 A3 : List UInt8) (A4 A5 A6 A7 A8 A9 Ba : Int) (kn : Bool → Option Bool) : Option Bool :=
  (oB (qhd A1) fun r1 => (bif r1 then (oB (qbn A4 (65535 : Int)) fun r2 => (bif r2 then (oB (qbn A5 (65535 : Int)) fun r3 => (bif r3 then (oB (qbn A6 (65535 : Int)) fun r4 => (kn r4)) else (kn false))) else (kn false))) else (kn false)))
def q2d := hull (qoh)
def qx8 : SubB Tryz.prog (TIof Tryz.prog) 211 0 (kret [.t 4] decB) := jnB tabOk follows Tryz.f84 327659 (.r [(2, .c qfu.b), (6, .c qbh.b), (11, .c qbh.b), (16, .c qbh.b)] [.sel [4] []]) S33_ (qoh) (fun f v K => f (v.b 3 0) (v.i 3 1) (v.i 3 2) (v.s 3 3) (v.s 3 4) (v.s 3 5) (v.i 3 6) (v.i 3 7) (v.i 3 8) (v.i 3 9) (v.i 3 10) (v.i 3 11) (v.i 3 12) (qwd K)) (by kernel_rfl) (fun _ _ => (by kernel_rfl))
def qwe  (K : Ex → Env → Mem → Option Bool) := (fun z_v4 => K .norm (qe [(4, (.bool z_v4))]) (qd []))
def qoi  (Al : Bool) (Am An : Int) (A1 A2 A3 : List UInt8) (A4 A5 A6 A7 A8 A9 Ba : Int) (kn : Bool → Option Bool) : Option Bool :=
  (oB (qbn A4 (65535 : Int)) fun r1 => (bif r1 then (oB (qbn A5 (255 : Int)) fun r2 => (bif r2 then (oB (qbn A6 (255 : Int)) fun r3 => (bif r3 then (oB (qjq A3) fun r4 => (kn r4)) else (kn false))) else (kn false))) else (kn false)))
def q2e := hull (qoi)
def qx9 : SubB Tryz.prog (TIof Tryz.prog) 211 0 (kret [.t 4] decB) := jnB tabOk follows Tryz.f84 1310699 (.r [(2, .c qbh.b), (6, .c qbh.b), (11, .c qbh.b), (16, .c qof.b)] [.sel [4] []]) S33_ (qoi) (fun f v K => f (v.b 3 0) (v.i 3 1) (v.i 3 2) (v.s 3 3) (v.s 3 4) (v.s 3 5) (v.i 3 6) (v.i 3 7) (v.i 3 8) (v.i 3 9) (v.i 3 10) (v.i 3 11) (v.i 3 12) (qwe K)) (by kernel_rfl) (fun _ _ => (by kernel_rfl))
def qwf  (K : Ex → Env → Mem → Option Bool) := (fun z_v4 => K .norm (qe [(4, (.bool z_v4))]) (qd []))
def qoj  (Al : Bool) (Am An : Int) (A1 A2 A3 : List UInt8) (A4 A5 A6 A7 A8 A9 Ba : Int) (kn : Bool → Option Bool) : Option Bool :=
  (oB (qgh A4) fun r1 => (bif (r1 && (A4 != (46 : Int))) then (oB (qbn A5 (127 : Int)) fun r2 => (bif r2 then (oB (qbn A6 (2147483647 : Int)) fun r3 => (bif r3 then (oB (qbn A7 (4294967295 : Int)) fun r4 => (bif r4 then (oB (qbn A8 (4294967295 : Int)) fun r5 => (bif r5 then (oB (qbn A9 (65535 : Int)) fun r6 => (bif r6 then (oB (qhd A1) fun r7 => (bif r7 then (oB (qjq A3) fun r8 => (kn r8)) else (kn false))) else (kn false))) else (kn false))) else (kn false))) else (kn false))) else (kn false))) else (kn false)))
def q2f := hull (qoj)
def qya : SubB Tryz.prog (TIof Tryz.prog) 211 0 (kret [.t 4] decB) := jnB tabOk follows Tryz.f84 5242859 (.r [(2, .c qi4.b), (4, .g 3), (11, .c qbh.b), (16, .c qbh.b), (21, .c qbh.b), (26, .c qbh.b), (31, .c qbh.b), (36, .c qfu.b), (41, .c qof.b)] [.sel [4] []]) S33_ (qoj) (fun f v K => f (v.b 3 0) (v.i 3 1) (v.i 3 2) (v.s 3 3) (v.s 3 4) (v.s 3 5) (v.i 3 6) (v.i 3 7) (v.i 3 8) (v.i 3 9) (v.i 3 10) (v.i 3 11) (v.i 3 12) (qwf K)) (by kernel_rfl) (fun _ _ => (by kernel_rfl))
def qwg  (K : Ex → Env → Mem → Option Bool) := (fun z_v4 => K .norm (qe [(4, (.bool z_v4))]) (qd []))
def qf9  (Al : Bool) (Am An : Int) (A1 A2 A3 : List UInt8) (A4 A5 A6 A7 A8 A9 Ba : Int) (kn : Bool → Option Bool) : Option Bool :=
  (bif (((A4 == (256 : Int)) || (A4 == (257 : Int))) && (A5 == (3 : Int))) then (oB (qbn A6 (255 : Int)) fun r1 => (bif r1 then (oB (qjq A3) fun r2 => (kn r2)) else (kn false))) else (kn false))
def qqf := hull (qf9)
theorem qwh : qqf = qf9 := qa _
def qyb : SubB Tryz.prog (TIof Tryz.prog) 211 0 (kret [.t 4] decB) := jnB tabOk follows Tryz.f84 83886059 (.r [(4, .g 3), (9, .g 3), (16, .c qbh.b), (21, .c qof.b)] [.sel [4] []]) S33_ (qf9) (fun f v K => f (v.b 3 0) (v.i 3 1) (v.i 3 2) (v.s 3 3) (v.s 3 4) (v.s 3 5) (v.i 3 6) (v.i 3 7) (v.i 3 8) (v.i 3 9) (v.i 3 10) (v.i 3 11) (v.i 3 12) (qwg K)) (by kernel_rfl) (fun _ _ => (by kernel_rfl))
def qi5 (v0 : Int) (Bb : Bool) (Bc Bd : Int) (Be Bf Bg : List UInt8) (Bh Bi Bj Bl Bm Bn Bo : Int) : Option Bool :=
  (qrk v0 Bb Bc Bd Be Bf Bg Bh Bi Bj Bl Bm Bn Bo (fun v14q1 => (bif v14q1 then (some false) else (bif (v0 == (1 : Int)) then (oB (qwa Bb Bc Bd) fun r2 => (some (r2 && (!Bb)))) else (bif (v0 == (28 : Int)) then (some Bb) else (bif (v0 == (6 : Int)) then (q2c Bb Bc Bd Be Bf Bg Bh Bi Bj Bl Bm Bn Bo (fun v4q3 => (some v4q3))) else (bif (v0 == (15 : Int)) then (oB (qhd Be) fun r4 => (bif r4 then (oB (qbn Bh (65535 : Int)) fun r5 => (some r5)) else (some false))) else (bif (v0 == (16 : Int)) then (some (decide ((Bg.length : Int) ≤ (255 : Int)))) else (bif (v0 == (33 : Int)) then (q2d Bb Bc Bd Be Bf Bg Bh Bi Bj Bl Bm Bn Bo (fun v4q6 => (some v4q6))) else (bif (v0 == (43 : Int)) then (q2e Bb Bc Bd Be Bf Bg Bh Bi Bj Bl Bm Bn Bo (fun v4q7 => (some v4q7))) else (bif (v0 == (46 : Int)) then (q2f Bb Bc Bd Be Bf Bg Bh Bi Bj Bl Bm Bn Bo (fun v4q8 => (some v4q8))) else (bif (v0 == (47 : Int)) then (oB (qij Be) fun r9 => (bif (r9 && (Bo != (0 : Int))) then (oB (qbco Bo) fun r10 => (some r10)) else (some false))) else (bif (v0 == (48 : Int)) then (qqf Bb Bc Bd Be Bf Bg Bh Bi Bj Bl Bm Bn Bo (fun v4q11 => (some v4q11))) else (oB (qhd Be) fun r12 => (some r12)))))))))))))))
def qlb := hull qi5
theorem q4z : qlb = qi5 := qa _
def qst {R : Type} : EntF Tryz.prog R := entB (nt := 211) (dec := decB) (enc := AV.bool) tabOk follows Tryz.func84 [.t 4] hdeB (.s .z (.s (.s (.sub [.sel [0, 3] [0]] q0z []) .z) (.s (.s .z (.b (.s .z (.s (.s (.r [(2, .c qsr.b), (4, .g 4)] []) .z) (.s .z (.s .z (.s .z (.s (.s (.sub [.sel [3] [0]] qx7 []) .z) (.s .z (.s (.s (.r [(2, .c qfu.b), (6, .c qbh.b)] []) .z) (.s .z (.s .z (.s .z (.s (.s (.sub [.sel [3] [0]] qx8 []) .z) (.s .z (.s (.s (.sub [.sel [3] [0]] qx9 []) .z) (.s .z (.s (.s (.sub [.sel [3] [0]] qya []) .z) (.s .z (.s (.s (.r [(2, .c qm1.b), (4, .g 3), (11, .c q9h.b)] []) .z) (.s .z (.s (.s (.sub [.sel [3] [0]] qyb []) .z) .z)))))))))))))))))))))) (.s (.r [(2, .c qfu.b)] []) .z)))) S34_ qi5 (fun f v => f (v.i 0 0) (v.b 5 0) (v.i 5 1) (v.i 5 2) (v.s 5 3) (v.s 5 4) (v.s 5 5) (v.i 5 6) (v.i 5 7) (v.i 5 8) (v.i 5 9) (v.i 5 10) (v.i 5 11) (v.i 5 12)) (by kernel_rfl) (by kernel_rfl) (by kernel_rfl) fun _ => (by kernel_rfl)
def S59_ : Shp := ⟨[(0, .one (.l (.i .u64))), (5, .one (.own 0)), (6, .one (.l (.i .i64))), (7, .one (.l (.i .u64))), (8, .one (.l (.i .i64)))], [.arr true 1]⟩
def S60_ : Shp := ⟨[(0, .one (.l (.i .u64))), (5, .one (.own 0)), (6, .one (.l (.i .i64)))], [.arr true 1]⟩
def S61_ : Shp := ⟨[(0, .one (.l (.i .u64))), (1, .one (.l (.i .i64)))], []⟩
def qlr  (v0 v6 : Int) (a0 : List AV) (K : Ex → Env → Mem → Option (List UInt8)) := (fun z_v7 => K (.exit 2) (qe [(0, (.int .u64 v0)), (5, (.own 0 a0.length)), (6, (.int .i64 v6)), (7, (.int .u64 z_v7))]) (qd [(some (.arr true 1 a0))]))
def qnf  (v0 v6 v7 v8 : Int) (a0 : List AV) (next : Int → Int → Option (List UInt8)) (kx2 : Int → Option (List UInt8)) : Option (List UInt8) :=
  (bif (decide (v8 < v6)) then (next (IntKind.u64.wrap (v7.tdiv (256 : Int))) (IntKind.i64.wrap (v8 + (1 : Int)))) else (kx2 v7))
def qik  (v0 v6 : Int) (a0 : List AV) (kx2 : Int → Option (List UInt8)) : Nat → Int → Int → Option (List UInt8)
  | 0 => (fun _ _ => none)
  | n + 1 => (fun v7 v8 => qnf v0 v6 v7 v8 a0 (qik v0 v6 a0 kx2 n) kx2)
def q00 := hull (qik)
def qwi : SubB Tryz.prog (TIof Tryz.prog) 31 0 (kret [.t 4] decS) := lpB tabOk follows Tryz.f142 19019 (.s (.s .z (.s .z (.v [.sel [0, 5, 6, 7] [0]]))) (.s .z (.v [.sel [0, 5, 6, 7, 8] [0]]))) S59_ (qik) (fun f v K n => f (v.i 0 0) (v.i 24 0) (v.r 0) (qlr (v.i 0 0) (v.i 24 0) (v.r 0) K) n) (fun v f K => qnf (v.i 0 0) (v.i 24 0) (v.i 28 0) (v.i 32 0) (v.r 0) f (qlr (v.i 0 0) (v.i 24 0) (v.r 0) K)) (fun f v => f (v.i 28 0) (v.i 32 0)) (fun k v => (fun z0 z1 => k ((v.ui 28 0 z0).ui 32 0 z1))) (by kernel_rfl) (fun _ _ => (by kernel_rfl)) (fun _ _ _ => (by kernel_rfl)) (fun _ _ _ => (by kernel_rfl)) (fun _ _ => (by kernel_rfl)) (fun _ _ _ _ _ => (by kernel_rfl))
def qmd  (K : Ex → Env → Mem → Option (List UInt8)) := (fun z_a0 => K (.exit 0) (qe [(5, (.own 0 z_a0.length))]) (qd [(some (.arr true 1 z_a0))]))
def qok  (v0 v6 : Int) (a0 : List AV) (next : Int → (List AV) → Option (List UInt8)) (kx0 : (List AV) → Option (List UInt8)) : Option (List UInt8) :=
  (bif (decide (v6 ≥ (0 : Int))) then (bif (hd a0 (a0.length) && true) then (q00 v0 v6 a0 (fun v7q1 => (bif hd a0 a0.length then (bif hd ([(.int .u8 (IntKind.u8.wrap (v7q1.tmod (256 : Int))))] : List AV) (([(.int .u8 (IntKind.u8.wrap (v7q1.tmod (256 : Int))))] : List AV).length) then (bif decide ((a0.length + ([(.int .u8 (IntKind.u8.wrap (v7q1.tmod (256 : Int))))] : List AV).length) * 1 ≤ 140737488355328) then (next (IntKind.i64.wrap (v6 - (1 : Int))) (a0 ++ ([(.int .u8 (IntKind.u8.wrap (v7q1.tmod (256 : Int))))] : List AV))) else none) else none) else none)) FU v0 (0 : Int)) else none) else (kx0 a0))
def qi6  (v0 : Int) (kx0 : (List AV) → Option (List UInt8)) : Nat → Int → (List AV) → Option (List UInt8)
  | 0 => (fun _ _ => none)
  | n + 1 => (fun v6 a0 => qok v0 v6 a0 (qi6 v0 kx0 n) kx0)
def q2g := hull (qi6)
def qyc : SubB Tryz.prog (TIof Tryz.prog) 31 0 (kret [.t 4] decS) := lpB tabOk follows Tryz.f142 75 (.s (.s .z (.s .z (.v [.sel [5] [0]]))) (.s (.b (.s .z (.s (.s .z (.b (.sub [.sel [0, 5, 6, 7, 8] [0]] qwi []))) .z))) (.v [.sel [0, 5, 6] [0]]))) S60_ (qi6) (fun f v K n => f (v.i 0 0) (qmd K) n) (fun v f K => qok (v.i 0 0) (v.i 24 0) (v.r 0) f (qmd K)) (fun f v => f (v.i 24 0) (v.r 0)) (fun k v => (fun z0 z1 => k ((v.ui 24 0 z0).ur 0 z1))) (by kernel_rfl) (fun _ _ => (by kernel_rfl)) (fun _ _ _ => (by kernel_rfl)) (fun _ _ _ => (by kernel_rfl)) (fun _ _ => (by kernel_rfl)) (fun _ _ _ _ _ => (by kernel_rfl))
def qrl (v0 v1 : Int) : Option (List UInt8) :=
  (bif (hd ([] : List AV) (([] : List AV).length) && true) then (q2g v0 (fun a0q1 => (bif hd a0q1 a0q1.length then (oB (qy a0q1) fun s2 => (some s2)) else none)) FU (IntKind.i64.wrap (v1 - (1 : Int))) ([] : List AV)) else none)
def qol := hull qrl
def qlz {R : Type} : EntF Tryz.prog R := entB (nt := 31) (dec := decS) (enc := AV.str) tabOk follows Tryz.func142 [.t 4] hdeS (.s .z (.s .z (.s (.s .z (.b (.sub [.own 5 1, .sel [0, 5, 6] [0]] qyc []))) .z))) S61_ qrl (fun f v => f (v.i 0 0) (v.i 4 0)) (by kernel_rfl) (by kernel_rfl) (by kernel_rfl) fun _ => (by kernel_rfl)
def q40 : AV → Option ((List UInt8) × Int) := decN [(.one .s), (.one (.i .i64))] fun z => (aS (gC (tpL z) 0), aI (gC (tpL z) 1))
def quh (Aa : Bool) (Ab Ac : Int) : Option ((List UInt8) × Int) :=
  (oB (qwa Aa Ab Ac) fun r1 => (bif (!r1) then (some (([] : List UInt8), (3 : Int))) else (bif Aa then (oB (qol Ab (8 : Int)) fun r2 => (oB (qol Ac (8 : Int)) fun r3 => (bif decide (r2.length + r3.length ≤ 9223372036854775807) then (some ((r2 ++ r3), (0 : Int))) else none))) else (oB (qol Ac (4 : Int)) fun r4 => (some (r4, (0 : Int)))))))
def qbbq := hull quh
def q7h {R : Type} : EntF Tryz.prog R := entB (nt := 19) (dec := q40) (enc := (fun r => .tup [.str r.1, .int .i64 r.2])) tabOk follows Tryz.func120 [.t 2, .t 3] (hdeN fun _ => rfl) (.s .z (.s (.s (.r [(1, .c qsr.b)] []) .z) (.s (.s .z (.s (.s (.d [] [(2, .c qlz.b)] [(0, .c qlz.b)] []) .z) .z)) (.s (.r [(2, .c qlz.b)] []) .z)))) S28_ quh (fun f v => f (v.b 1 0) (v.i 1 1) (v.i 1 2)) (by kernel_rfl) (by kernel_rfl) (by kernel_rfl) fun _ => (by kernel_rfl)
def S62_ : Shp := ⟨[(0, .one (.l (.i .i64))), (5, .one (.own 0)), (6, .one (.l (.i .i64))), (7, .one (.l (.i .i64))), (8, .one (.l (.i .i64)))], [.arr true 1]⟩
def qls  (v0 v6 : Int) (a0 : List AV) (K : Ex → Env → Mem → Option (List UInt8)) := (fun z_v7 => K (.exit 2) (qe [(0, (.int .i64 v0)), (5, (.own 0 a0.length)), (6, (.int .i64 v6)), (7, (.int .i64 z_v7))]) (qd [(some (.arr true 1 a0))]))
def qng  (v0 v6 v7 v8 : Int) (a0 : List AV) (next : Int → Int → Option (List UInt8)) (kx2 : Int → Option (List UInt8)) : Option (List UInt8) :=
  (bif (decide (v8 < v6)) then (next (IntKind.i64.wrap (v7.tdiv (256 : Int))) (IntKind.i64.wrap (v8 + (1 : Int)))) else (kx2 v7))
def qds  (v0 v6 : Int) (a0 : List AV) (kx2 : Int → Option (List UInt8)) : Nat → Int → Int → Option (List UInt8)
  | 0 => (fun _ _ => none)
  | n + 1 => (fun v7 v8 => qng v0 v6 v7 v8 a0 (qds v0 v6 a0 kx2 n) kx2)
def qpb := hull (qds)
theorem qve : qpb = qds := qa _
def qwj : SubB Tryz.prog (TIof Tryz.prog) 31 0 (kret [.t 4] decS) := lpB tabOk follows Tryz.f122 19019 (.s (.s .z (.s .z (.v [.sel [0, 5, 6, 7] [0]]))) (.s .z (.v [.sel [0, 5, 6, 7, 8] [0]]))) S62_ (qds) (fun f v K n => f (v.i 0 0) (v.i 24 0) (v.r 0) (qls (v.i 0 0) (v.i 24 0) (v.r 0) K) n) (fun v f K => qng (v.i 0 0) (v.i 24 0) (v.i 28 0) (v.i 32 0) (v.r 0) f (qls (v.i 0 0) (v.i 24 0) (v.r 0) K)) (fun f v => f (v.i 28 0) (v.i 32 0)) (fun k v => (fun z0 z1 => k ((v.ui 28 0 z0).ui 32 0 z1))) (by kernel_rfl) (fun _ _ => (by kernel_rfl)) (fun _ _ _ => (by kernel_rfl)) (fun _ _ _ => (by kernel_rfl)) (fun _ _ => (by kernel_rfl)) (fun _ _ _ _ _ => (by kernel_rfl))
def qme  (K : Ex → Env → Mem → Option (List UInt8)) := (fun z_a0 => K (.exit 0) (qe [(5, (.own 0 z_a0.length))]) (qd [(some (.arr true 1 z_a0))]))
def qga  (v0 v6 : Int) (a0 : List AV) (next : Int → (List AV) → Option (List UInt8)) (kx0 : (List AV) → Option (List UInt8)) : Option (List UInt8) :=
  (bif (decide (v6 ≥ (0 : Int))) then (bif (hd a0 (a0.length) && true) then (qpb v0 v6 a0 (fun v7q1 => (bif hd a0 a0.length then (bif hd ([(.int .u8 (IntKind.u8.wrap (v7q1.tmod (256 : Int))))] : List AV) (([(.int .u8 (IntKind.u8.wrap (v7q1.tmod (256 : Int))))] : List AV).length) then (bif decide ((a0.length + ([(.int .u8 (IntKind.u8.wrap (v7q1.tmod (256 : Int))))] : List AV).length) * 1 ≤ 140737488355328) then (next (IntKind.i64.wrap (v6 - (1 : Int))) (a0 ++ ([(.int .u8 (IntKind.u8.wrap (v7q1.tmod (256 : Int))))] : List AV))) else none) else none) else none)) FU v0 (0 : Int)) else none) else (kx0 a0))
def qcu  (v0 : Int) (kx0 : (List AV) → Option (List UInt8)) : Nat → Int → (List AV) → Option (List UInt8)
  | 0 => (fun _ _ => none)
  | n + 1 => (fun v6 a0 => qga v0 v6 a0 (qcu v0 kx0 n) kx0)
def qqg := hull (qcu)
theorem qil : qqg = qcu := qa _
def qyd : SubB Tryz.prog (TIof Tryz.prog) 31 0 (kret [.t 4] decS) := lpB tabOk follows Tryz.f122 75 (.s (.s .z (.s .z (.v [.sel [5] [0]]))) (.s (.b (.s .z (.s (.s .z (.b (.sub [.sel [0, 5, 6, 7, 8] [0]] qwj []))) .z))) (.v [.sel [0, 5, 6] [0]]))) S36_ (qcu) (fun f v K n => f (v.i 0 0) (qme K) n) (fun v f K => qga (v.i 0 0) (v.i 24 0) (v.r 0) f (qme K)) (fun f v => f (v.i 24 0) (v.r 0)) (fun k v => (fun z0 z1 => k ((v.ui 24 0 z0).ur 0 z1))) (by kernel_rfl) (fun _ _ => (by kernel_rfl)) (fun _ _ _ => (by kernel_rfl)) (fun _ _ _ => (by kernel_rfl)) (fun _ _ => (by kernel_rfl)) (fun _ _ _ _ _ => (by kernel_rfl))
def qeo (v0 v1 : Int) : Option (List UInt8) :=
  (bif (hd ([] : List AV) (([] : List AV).length) && true) then (qqg v0 (fun a0q1 => (bif hd a0q1 a0q1.length then (oB (qy a0q1) fun s2 => (some s2)) else none)) FU (IntKind.i64.wrap (v1 - (1 : Int))) ([] : List AV)) else none)
def qi := hull qeo
theorem qkq : qi = qeo := qa _
def qj {R : Type} : EntF Tryz.prog R := entB (nt := 31) (dec := decS) (enc := AV.str) tabOk follows Tryz.func122 [.t 4] hdeS (.s .z (.s .z (.s (.s .z (.b (.sub [.own 5 1, .sel [0, 5, 6] [0]] qyd []))) .z))) S29_ qeo (fun f v => f (v.i 0 0) (v.i 4 0)) (by kernel_rfl) (by kernel_rfl) (by kernel_rfl) fun _ => (by kernel_rfl)
def S63_ : Shp := ⟨[(3, .one (.l .s)), (4, .one (.l (.sl 1))), (5, .one (.l (.i .i64)))], []⟩
def qkd  (K : Ex → Env → Mem → Option (List UInt8)) := (fun z_v3 => K (.exit 0) (qe [(3, (.str z_v3))]) (qd []))
def qlt  (v3 : List UInt8) (v4 : List AV) (v5 : Int) (next : (List UInt8) → Int → Option (List UInt8)) (kx0 : (List UInt8) → Option (List UInt8)) : Option (List UInt8) :=
  (bif (decide (v5 < (v4.length : Int))) then (oB (ixB v4 v5) fun y1 => (bif fitC [.s] y1.cells then (oB (qi ((gS y1.cells 0).length : Int) (1 : Int)) fun r2 => (oB (ixB v4 v5) fun y3 => (bif fitC [.s] y3.cells then (bif decide (r2.length + (gS y3.cells 0).length ≤ 9223372036854775807) then (bif decide (v3.length + (r2 ++ (gS y3.cells 0)).length ≤ 9223372036854775807) then (next (v3 ++ (r2 ++ (gS y3.cells 0))) (IntKind.i64.wrap (v5 + (1 : Int)))) else none) else none) else none))) else none)) else (kx0 v3))
def qhc  (v4 : List AV) (kx0 : (List UInt8) → Option (List UInt8)) : Nat → (List UInt8) → Int → Option (List UInt8)
  | 0 => (fun _ _ => none)
  | n + 1 => (fun v3 v5 => qlt v3 v4 v5 (qhc v4 kx0 n) kx0)
def qwk := hull (qhc)
def qtv : SubB Tryz.prog (TIof Tryz.prog) 30 0 (kret [.t 2] decS) := lpB tabOk follows Tryz.f121 151 (.s (.s .z (.s .z (.v [.sel [3] []]))) (.s (.b (.d [] [(3, .e 17 [.s]), (6, .c qj.b), (9, .e 23 [.s])] [] [])) (.v [.sel [3, 4, 5] []]))) S63_ (qhc) (fun f v K n => f (v.l 16 0) (qkd K) n) (fun v f K => qlt (v.s 12 0) (v.l 16 0) (v.i 20 0) f (qkd K)) (fun f v => f (v.s 12 0) (v.i 20 0)) (fun k v => (fun z0 z1 => k ((v.us 12 0 z0).ui 20 0 z1))) (by kernel_rfl) (fun _ _ => (by kernel_rfl)) (fun _ _ _ => (by kernel_rfl)) (fun _ _ _ => (by kernel_rfl)) (fun _ _ => (by kernel_rfl)) (fun _ _ _ _ _ => (by kernel_rfl))
def qpc (v0 : List UInt8) : Option (List UInt8) :=
  (oB (qj8 v0) fun r1 => (qwk r1 (fun v3q2 => (oB (qi (0 : Int) (1 : Int)) fun r3 => (bif decide (v3q2.length + r3.length ≤ 9223372036854775807) then (some (v3q2 ++ r3)) else none))) FU ([] : List UInt8) (0 : Int)))
def qep := hull qpc
def qcx {R : Type} : EntF Tryz.prog R := entB (nt := 30) (dec := decS) (enc := AV.str) tabOk follows Tryz.func121 [.t 2] hdeS (.s .z (.s .z (.s (.r [(1, .k qre.b)] []) (.s (.s .z (.b (.sub [.sel [3, 4, 5] []] qtv []))) (.s (.r [(1, .c qj.b)] []) .z))))) S16_ qpc (fun f v => f (v.s 0 0)) (by kernel_rfl) (by kernel_rfl) (by kernel_rfl) fun _ => (by kernel_rfl)
def S64_ : Shp := ⟨[(3, .one (.ptr 0 0)), (14, .one (.l (.i .i64)))], [.box true (lk qb6)]⟩
def ql0 : AV → Option ((List UInt8) × Int) := decN [(.one .s), (.one (.i .i64))] fun z => (aS (gC (tpL z) 0), aI (gC (tpL z) 1))
def qye  (v14 : Int) (Al : Bool) (Am An : Int) (A1 A2 A3 : List UInt8) (A4 A5 A6 A7 A8 A9 Ba : Int) (K : Ex → Env → Mem → Option ((List UInt8) × Int)) := (fun z_v15 => K .norm (qe [(3, (.ptr 0 0)), (14, (.int .i64 v14)), (15, (.bool z_v15))]) (qd [(some (.box true (q8 Al Am An A1 A2 A3 A4 A5 A6 A7 A8 A9 Ba)))]))
def qg0  (v14 : Int) (Al : Bool) (Am An : Int) (A1 A2 A3 : List UInt8) (A4 A5 A6 A7 A8 A9 Ba : Int) (kn : Bool → Option ((List UInt8) × Int)) : Option ((List UInt8) × Int) :=
  (bif (v14 == (1 : Int)) then (kn true) else (kn (v14 == (28 : Int))))
def qrm := hull (qg0)
theorem qyf : qrm = qg0 := qa _
def q01 : SubB Tryz.prog (TIof Tryz.prog) 157 0 (kret [.t 4, .t 5] ql0) := jnB tabOk follows Tryz.f85 151 (.s .z (.s (.v [.sel [3, 14, 15] [0]]) (.v [.sel [3, 14, 15] [0]]))) S64_ (qg0) (fun f v K => f (v.i 56 0) (v.b 3 0) (v.i 3 1) (v.i 3 2) (v.s 3 3) (v.s 3 4) (v.s 3 5) (v.i 3 6) (v.i 3 7) (v.i 3 8) (v.i 3 9) (v.i 3 10) (v.i 3 11) (v.i 3 12) (qye (v.i 56 0) (v.b 3 0) (v.i 3 1) (v.i 3 2) (v.s 3 3) (v.s 3 4) (v.s 3 5) (v.i 3 6) (v.i 3 7) (v.i 3 8) (v.i 3 9) (v.i 3 10) (v.i 3 11) (v.i 3 12) K)) (by kernel_rfl) (fun _ _ => (by kernel_rfl))
def qyg  (v14 : Int) (Al : Bool) (Am An : Int) (A1 A2 A3 : List UInt8) (A4 A5 A6 A7 A8 A9 Ba : Int) (K : Ex → Env → Mem → Option ((List UInt8) × Int)) := (fun z_v87 => K .norm (qe [(3, (.ptr 0 0)), (14, (.int .i64 v14)), (87, (.bool z_v87))]) (qd [(some (.box true (q8 Al Am An A1 A2 A3 A4 A5 A6 A7 A8 A9 Ba)))]))
def qg1  (v14 : Int) (Al : Bool) (Am An : Int) (A1 A2 A3 : List UInt8) (A4 A5 A6 A7 A8 A9 Ba : Int) (kn : Bool → Option ((List UInt8) × Int)) : Option ((List UInt8) × Int) :=
  (bif (v14 == (43 : Int)) then (kn true) else (kn (v14 == (48 : Int))))
def qrn := hull (qg1)
theorem qyh : qrn = qg1 := qa _
def q02 : SubB Tryz.prog (TIof Tryz.prog) 157 0 (kret [.t 4, .t 5] ql0) := jnB tabOk follows Tryz.f85 196567 (.s .z (.s (.v [.sel [3, 14, 87] [0]]) (.v [.sel [3, 14, 87] [0]]))) S64_ (qg1) (fun f v K => f (v.i 56 0) (v.b 3 0) (v.i 3 1) (v.i 3 2) (v.s 3 3) (v.s 3 4) (v.s 3 5) (v.i 3 6) (v.i 3 7) (v.i 3 8) (v.i 3 9) (v.i 3 10) (v.i 3 11) (v.i 3 12) (qyg (v.i 56 0) (v.b 3 0) (v.i 3 1) (v.i 3 2) (v.s 3 3) (v.s 3 4) (v.s 3 5) (v.i 3 6) (v.i 3 7) (v.i 3 8) (v.i 3 9) (v.i 3 10) (v.i 3 11) (v.i 3 12) K)) (by kernel_rfl) (fun _ _ => (by kernel_rfl))
def qke (v0 : Int) (Bb : Bool) (Bc Bd : Int) (Be Bf Bg : List UInt8) (Bh Bi Bj Bl Bm Bn Bo : Int) : Option ((List UInt8) × Int) :=
  (oB (qgh v0) fun r1 => (bif (!r1) then (some (([] : List UInt8), (4 : Int))) else (oB (qlb v0 Bb Bc Bd Be Bf Bg Bh Bi Bj Bl Bm Bn Bo) fun r2 => (bif (!r2) then (some (([] : List UInt8), (5 : Int))) else (qrm v0 Bb Bc Bd Be Bf Bg Bh Bi Bj Bl Bm Bn Bo (fun v15q3 => (bif v15q3 then (oB (qbbq Bb Bc Bd) fun r4 => (some (r4.1, r4.2))) else (bif (v0 == (6 : Int)) then (oB (qep Be) fun r5 => (oB (qep Bf) fun r6 => (bif decide (r5.length + r6.length ≤ 9223372036854775807) then (oB (qi Bh (4 : Int)) fun r7 => (bif decide ((r5 ++ r6).length + r7.length ≤ 9223372036854775807) then (oB (qi Bi (4 : Int)) fun r8 => (bif decide (((r5 ++ r6) ++ r7).length + r8.length ≤ 9223372036854775807) then (oB (qi Bj (4 : Int)) fun r9 => (bif decide ((((r5 ++ r6) ++ r7) ++ r8).length + r9.length ≤ 9223372036854775807) then (oB (qi Bl (4 : Int)) fun r10 => (bif decide (((((r5 ++ r6) ++ r7) ++ r8) ++ r9).length + r10.length ≤ 9223372036854775807) then (oB (qi Bm (4 : Int)) fun r11 => (bif decide ((((((r5 ++ r6) ++ r7) ++ r8) ++ r9) ++ r10).length + r11.length ≤ 9223372036854775807) then (some (((((((r5 ++ r6) ++ r7) ++ r8) ++ r9) ++ r10) ++ r11), (0 : Int))) else none)) else none)) else none)) else none)) else none)) else none))) else (bif (v0 == (15 : Int)) then (oB (qi Bh (2 : Int)) fun r12 => (oB (qep Be) fun r13 => (bif decide (r12.length + r13.length ≤ 9223372036854775807) then (some ((r12 ++ r13), (0 : Int))) else none))) else (bif (v0 == (16 : Int)) then (oB (qi (Bg.length : Int) (1 : Int)) fun r14 => (bif decide (r14.length + Bg.length ≤ 9223372036854775807) then (some ((r14 ++ Bg), (0 : Int))) else none)) else (bif (v0 == (33 : Int)) then (oB (qi Bh (2 : Int)) fun r15 => (oB (qi Bi (2 : Int)) fun r16 => (bif decide (r15.length + r16.length ≤ 9223372036854775807) then (oB (qi Bj (2 : Int)) fun r17 => (bif decide ((r15 ++ r16).length + r17.length ≤ 9223372036854775807) then (oB (qep Be) fun r18 => (bif decide (((r15 ++ r16) ++ r17).length + r18.length ≤ 9223372036854775807) then (some ((((r15 ++ r16) ++ r17) ++ r18), (0 : Int))) else none)) else none)) else none))) else (qrn v0 Bb Bc Bd Be Bf Bg Bh Bi Bj Bl Bm Bn Bo (fun v87q19 => (bif v87q19 then (oB (qi Bh (2 : Int)) fun r20 => (oB (qi Bi (1 : Int)) fun r21 => (bif decide (r20.length + r21.length ≤ 9223372036854775807) then (oB (qi Bj (1 : Int)) fun r22 => (bif decide ((r20 ++ r21).length + r22.length ≤ 9223372036854775807) then (bif decide (((r20 ++ r21) ++ r22).length + Bg.length ≤ 9223372036854775807) then (some ((((r20 ++ r21) ++ r22) ++ Bg), (0 : Int))) else none) else none)) else none))) else (bif (v0 == (46 : Int)) then (oB (qi Bh (2 : Int)) fun r23 => (oB (qi (253 : Int) (1 : Int)) fun r24 => (bif decide (r23.length + r24.length ≤ 9223372036854775807) then (oB (qi Bi (1 : Int)) fun r25 => (bif decide ((r23 ++ r24).length + r25.length ≤ 9223372036854775807) then (oB (qi Bj (4 : Int)) fun r26 => (bif decide (((r23 ++ r24) ++ r25).length + r26.length ≤ 9223372036854775807) then (oB (qi Bl (4 : Int)) fun r27 => (bif decide ((((r23 ++ r24) ++ r25) ++ r26).length + r27.length ≤ 9223372036854775807) then (oB (qi Bm (4 : Int)) fun r28 => (bif decide (((((r23 ++ r24) ++ r25) ++ r26) ++ r27).length + r28.length ≤ 9223372036854775807) then (oB (qi Bn (2 : Int)) fun r29 => (bif decide ((((((r23 ++ r24) ++ r25) ++ r26) ++ r27) ++ r28).length + r29.length ≤ 9223372036854775807) then (oB (qep Be) fun r30 => (bif decide (((((((r23 ++ r24) ++ r25) ++ r26) ++ r27) ++ r28) ++ r29).length + r30.length ≤ 9223372036854775807) then (bif decide ((((((((r23 ++ r24) ++ r25) ++ r26) ++ r27) ++ r28) ++ r29) ++ r30).length + Bg.length ≤ 9223372036854775807) then (some (((((((((r23 ++ r24) ++ r25) ++ r26) ++ r27) ++ r28) ++ r29) ++ r30) ++ Bg), (0 : Int))) else none) else none)) else none)) else none)) else none)) else none)) else none)) else none))) else (bif (v0 == (47 : Int)) then none else (oB (qep Be) fun r31 => (some (r31, (0 : Int))))))))))))))))))))
def qqz := hull qke
theorem q6b : qqz = qke := qa _
def q7i {R : Type} : EntF Tryz.prog R := entB (nt := 157) (dec := ql0) (enc := (fun r => .tup [.str r.1, .int .i64 r.2])) tabOk follows Tryz.func85 [.t 4, .t 5] (hdeN fun _ => rfl) (.s .z (.s (.s (.r [(1, .c qi4.b)] []) .z) (.s (.s (.r [(2, .c qst.b)] []) .z) (.s (.s .z (.b (.s (.sub [.sel [3, 14] [0]] q01 []) (.s (.s (.r [(2, .c q7h.b)] []) .z) (.s .z (.s (.s (.d [] [(2, .c qcx.b), (5, .c qcx.b), (9, .c qj.b), (13, .c qj.b), (17, .c qj.b), (21, .c qj.b), (25, .c qj.b)] [] []) .z) (.s .z (.s (.s (.d [] [(2, .c qj.b)] [(0, .c qcx.b)] []) .z) (.s .z (.s (.s (.d [] [(3, .c qj.b)] [] []) .z) (.s .z (.s (.s (.d [] [(2, .c qj.b), (5, .c qj.b), (9, .c qj.b), (13, .c qcx.b)] [] []) .z) (.s (.sub [.sel [3, 14] [0]] q02 []) (.s (.s (.d [] [(2, .c qj.b), (5, .c qj.b), (9, .c qj.b)] [] []) .z) (.s .z (.s (.s (.d [] [(2, .c qj.b), (3, .c qj.b), (7, .c qj.b), (11, .c qj.b), (15, .c qj.b), (19, .c qj.b), (23, .c qj.b), (27, .c qcx.b)] [] []) .z) (.s .z (.s (.s (.r [(2, .c (eK (q8s (f := 123))))] []) .z) .z)))))))))))))))))) (.s (.r [(2, .c qcx.b)] []) .z))))) S34_ qke (fun f v => f (v.i 0 0) (v.b 5 0) (v.i 5 1) (v.i 5 2) (v.s 5 3) (v.s 5 4) (v.s 5 5) (v.i 5 6) (v.i 5 7) (v.i 5 8) (v.i 5 9) (v.i 5 10) (v.i 5 11) (v.i 5 12)) (by kernel_rfl) (by kernel_rfl) (by kernel_rfl) fun _ => (by kernel_rfl)
def qpd  (K : Ex → Env → Mem → Option Int) := (fun z_v3 => K (.exit 0) (qe [(3, (.int .i64 z_v3))]) (qd []))
def qf3  (v0 : List UInt8) (v3 v4 : Int) (next : Int → Int → Option Int) (kx0 : Int → Option Int) : Option Int :=
  (bif (decide (v4 < (v0.length : Int))) then (bif ((v4.tmod (2 : Int)) == (0 : Int)) then (oB (ixB v0 v4) fun c1 => (next (IntKind.i64.wrap (v3 + (IntKind.i64.wrap ((256 : Int) * (IntKind.i64.wrap (c1.toNat : Int)))))) (IntKind.i64.wrap (v4 + (1 : Int))))) else (oB (ixB v0 v4) fun c2 => (next (IntKind.i64.wrap (v3 + (IntKind.i64.wrap (c2.toNat : Int)))) (IntKind.i64.wrap (v4 + (1 : Int)))))) else (kx0 v3))
def qf4  (v0 : List UInt8) (kx0 : Int → Option Int) : Nat → Int → Int → Option Int
  | 0 => (fun _ _ => none)
  | n + 1 => (fun v3 v4 => qf3 v0 v3 v4 (qf4 v0 kx0 n) kx0)
def qui := hull (qf4)
theorem q2h : qui = qf4 := qa _
def q41 : SubB Tryz.prog (TIof Tryz.prog) 34 0 (kret [.t 2] (decI .i64)) := lpB tabOk follows Tryz.f86 75 (.s (.s .z (.s .z (.v [.sel [3] []]))) (.s .z (.v [.sel [0, 3, 4] []]))) S39_ (qf4) (fun f v K n => f (v.s 0 0) (qpd K) n) (fun v f K => qf3 (v.s 0 0) (v.i 12 0) (v.i 16 0) f (qpd K)) (fun f v => f (v.i 12 0) (v.i 16 0)) (fun k v => (fun z0 z1 => k ((v.ui 12 0 z0).ui 16 0 z1))) (by kernel_rfl) (fun _ _ => (by kernel_rfl)) (fun _ _ _ => (by kernel_rfl)) (fun _ _ _ => (by kernel_rfl)) (fun _ _ => (by kernel_rfl)) (fun _ _ _ _ _ => (by kernel_rfl))
def qlc (v0 : List UInt8) : Option Int :=
  (qui v0 (fun v3q1 => (some ((IntKind.i64.wrap (v3q1 + ((IntKind.i64.wrap (v3q1.tdiv (65536 : Int))).tmod (65536 : Int)))).tmod (65536 : Int)))) FU (0 : Int) (0 : Int))
def qsu := hull qlc
theorem q7j : qsu = qlc := qa _
def q9i {R : Type} : EntF Tryz.prog R := entB (nt := 34) (dec := (decI .i64)) (enc := (AV.int .i64)) tabOk follows Tryz.func86 [.t 2] hdeI (.s .z (.s .z (.s (.s .z (.b (.sub [.sel [0, 3, 4] []] q41 []))) .z))) S16_ qlc (fun f v => f (v.s 0 0)) (by kernel_rfl) (by kernel_rfl) (by kernel_rfl) fun _ => (by kernel_rfl)
def qld (Aa : Bool) (Ab Ac : Int) (Ad Ae Af : List UInt8) (Ag Bp Bq Br Bs Bt Bu : Int) : Option Int :=
  (oB (qlb (48 : Int) Aa Ab Ac Ad Ae Af Ag Bp Bq Br Bs Bt Bu) fun r1 => (bif (!r1) then (some (0 : Int)) else (oB (qqz (48 : Int) Aa Ab Ac Ad Ae Af Ag Bp Bq Br Bs Bt Bu) fun r2 => (oB (qsu r2.1) fun r3 => (some r3)))))
def qsv := hull qld
theorem q7k : qsv = qld := qa _
def q9j {R : Type} : EntF Tryz.prog R := entB (nt := 15) (dec := (decI .i64)) (enc := (AV.int .i64)) tabOk follows Tryz.func63 [.t 2] hdeI (.s .z (.s (.s (.r [(1, .c qst.b)] []) .z) (.s (.r [(1, .c q7i.b)] []) (.s (.r [(1, .c q9i.b)] []) .z)))) S40_ qld (fun f v => f (v.b 1 0) (v.i 1 1) (v.i 1 2) (v.s 1 3) (v.s 1 4) (v.s 1 5) (v.i 1 6) (v.i 1 7) (v.i 1 8) (v.i 1 9) (v.i 1 10) (v.i 1 11) (v.i 1 12)) (by kernel_rfl) (by kernel_rfl) (by kernel_rfl) fun _ => (by kernel_rfl)
def qle (Aa : List UInt8) (Ab : Bool) (Ac : Int) : Option Int :=
  (oB (qmt Aa Ab Ac) fun r1 => (oB (qsv (gB r1.1.cells 0) (gI r1.1.cells 1) (gI r1.1.cells 2) (gS r1.1.cells 3) (gS r1.1.cells 4) (gS r1.1.cells 5) (gI r1.1.cells 6) (gI r1.1.cells 7) (gI r1.1.cells 8) (gI r1.1.cells 9) (gI r1.1.cells 10) (gI r1.1.cells 11) (gI r1.1.cells 12)) fun r2 => (some r2)))
def qom := hull qle
theorem q7l : qom = qle := qa _
def qwl {R : Type} : EntF Tryz.prog R := entB (nt := 12) (dec := (decI .i64)) (enc := (AV.int .i64)) tabOk follows Tryz.func43 [.t 2] hdeI (.s .z (.s (.r [(1, .c quf.b)] []) (.s (.r [(1, .c q9j.b)] []) .z))) S25_ qle (fun f v => f (v.s 1 0) (v.b 1 1) (v.i 1 2)) (by kernel_rfl) (by kernel_rfl) (by kernel_rfl) fun _ => (by kernel_rfl)
def S65_ : Shp := ⟨[(0, .one (.l (.sl 7))), (3, .one (.l (.i .i64))), (4, .one (.ptr 0 0)), (6, .one (.l (.i .i64)))], [.box true (lk qc)]⟩
def S66_ : Shp := ⟨[(0, .one (.l (.sl 7))), (3, .one (.l (.i .i64))), (4, .one (.ptr 0 0)), (7, .one (.l (.i .i64)))], [.box true (lk qc)]⟩
def S67_ : Shp := ⟨[(0, .one (.l (.sl 7))), (3, .one (.l (.i .i64)))], []⟩
def qwm  (v0 : List AV) (v3 : Int) (Al : List UInt8) (Am : Bool) (An A1 A2 A3 A4 : Int) (K : Ex → Env → Mem → Option Int) := (fun z_v39 => K .norm (qe [(0, (.sl 7 v0)), (3, (.int .i64 v3)), (4, (.ptr 0 0)), (39, (.bool z_v39))]) (qd [(some (.box true (q9 Al Am An A1 A2 A3 A4)))]))
def qgb  (v0 : List AV) (v3 v6 : Int) (Al : List UInt8) (Am : Bool) (An A1 A2 A3 A4 : Int) (kn : Bool → Option Int) : Option Int :=
  (bif (v6 != (0 : Int)) then (kn true) else (oB (ixB v0 (0 : Int)) fun y1 => (bif fitC qc y1.cells then (kn (!(Al == (gS y1.cells 0)))) else none)))
def qqh := hull (qgb)
theorem qwn : qqh = qgb := qa _
def qyi : SubB Tryz.prog (TIof Tryz.prog) 84 0 (kret [.t 2] (decI .i64)) := jnB tabOk follows Tryz.f23 9803 (.d [] [(7, .e 34 qc)] [] [.sel [0, 3, 4, 39] [0]]) S65_ (qgb) (fun f v K => f (v.l 0 0) (v.i 12 0) (v.i 24 0) (v.s 3 0) (v.b 3 1) (v.i 3 2) (v.i 3 3) (v.i 3 4) (v.i 3 5) (v.i 3 6) (qwm (v.l 0 0) (v.i 12 0) (v.s 3 0) (v.b 3 1) (v.i 3 2) (v.i 3 3) (v.i 3 4) (v.i 3 5) (v.i 3 6) K)) (by kernel_rfl) (fun _ _ => (by kernel_rfl))
def qmf  (v0 : List AV) (v3 : Int) (Al : List UInt8) (Am : Bool) (An A1 A2 A3 A4 : Int) (K : Ex → Env → Mem → Option Int) := (fun (_ : Unit) => K (.exit 2) (qe [(0, (.sl 7 v0)), (3, (.int .i64 v3)), (4, (.ptr 0 0))]) (qd [(some (.box true (q9 Al Am An A1 A2 A3 A4)))]))
def qed  (v0 : List AV) (v3 v7 : Int) (Al : List UInt8) (Am : Bool) (An A1 A2 A3 A4 : Int) (next : Int → Option Int) (kx2 : Unit → Option Int) : Option Int :=
  (bif (decide (v7 < v3)) then (oB (ixB v0 v7) fun y1 => (bif fitC qc y1.cells then (oB (qom (gS y1.cells 0) (gB y1.cells 1) (gI y1.cells 2)) fun r2 => (oB (qom Al Am An) fun r3 => (bif (r2 == r3) then (some (18 : Int)) else (next (IntKind.i64.wrap (v7 + (1 : Int))))))) else none)) else (kx2 ()))
def qee  (v0 : List AV) (v3 : Int) (Al : List UInt8) (Am : Bool) (An A1 A2 A3 A4 : Int) (kx2 : Unit → Option Int) : Nat → Int → Option Int
  | 0 => (fun _ => none)
  | n + 1 => (fun v7 => qed v0 v3 v7 Al Am An A1 A2 A3 A4 (qee v0 v3 Al Am An A1 A2 A3 A4 kx2 n) kx2)
def qkr := hull (qee)
theorem qwo : qkr = qee := qa _
def qyj : SubB Tryz.prog (TIof Tryz.prog) 84 0 (kret [.t 2] (decI .i64)) := lpB tabOk follows Tryz.f23 77387 (.s (.s .z (.s .z (.v [.sel [0, 3, 4] [0]]))) (.s (.b (.s (.d [] [(2, .e 47 qc), (5, .c qwl.b)] [(0, .c qwl.b)] []) .z)) (.v [.sel [0, 3, 4, 7] [0]]))) S66_ (qee) (fun f v K n => f (v.l 0 0) (v.i 12 0) (v.s 3 0) (v.b 3 1) (v.i 3 2) (v.i 3 3) (v.i 3 4) (v.i 3 5) (v.i 3 6) (qmf (v.l 0 0) (v.i 12 0) (v.s 3 0) (v.b 3 1) (v.i 3 2) (v.i 3 3) (v.i 3 4) (v.i 3 5) (v.i 3 6) K) n) (fun v f K => qed (v.l 0 0) (v.i 12 0) (v.i 28 0) (v.s 3 0) (v.b 3 1) (v.i 3 2) (v.i 3 3) (v.i 3 4) (v.i 3 5) (v.i 3 6) f (qmf (v.l 0 0) (v.i 12 0) (v.s 3 0) (v.b 3 1) (v.i 3 2) (v.i 3 3) (v.i 3 4) (v.i 3 5) (v.i 3 6) K)) (fun f v => f (v.i 28 0)) (fun k v => (fun z0 => k (v.ui 28 0 z0))) (by kernel_rfl) (fun _ _ => (by kernel_rfl)) (fun _ _ _ => (by kernel_rfl)) (fun _ _ _ => (by kernel_rfl)) (fun _ _ => (by kernel_rfl)) (fun _ _ _ _ _ => (by kernel_rfl))
def qmg  (K : Ex → Env → Mem → Option Int) := (fun (_ : Unit) => K (.exit 0) (qe []) (qd []))
def qef  (v0 : List AV) (v3 : Int) (next : Int → Option Int) (kx0 : Unit → Option Int) : Option Int :=
  (bif (decide (v3 < (v0.length : Int))) then (oB (ixB v0 v3) fun y1 => (bif fitC qc y1.cells then (oB (qmt (gS y1.cells 0) (gB y1.cells 1) (gI y1.cells 2)) fun r2 => (qqh v0 v3 r2.2 (gS y1.cells 0) (gB y1.cells 1) (gI y1.cells 2) (gI y1.cells 3) (gI y1.cells 4) (gI y1.cells 5) (gI y1.cells 6) (fun v39q3 => (bif v39q3 then (some (18 : Int)) else (qkr v0 v3 (gS y1.cells 0) (gB y1.cells 1) (gI y1.cells 2) (gI y1.cells 3) (gI y1.cells 4) (gI y1.cells 5) (gI y1.cells 6) (fun (_ : Unit) => (bif (((((decide ((gI y1.cells 3) < (0 : Int))) || (decide ((gI y1.cells 3) > (gI y1.cells 4)))) || (decide ((gI y1.cells 4) > (gI y1.cells 5)))) || (decide ((gI y1.cells 5) > (gI y1.cells 6)))) || (decide ((gI y1.cells 6) > (4294967295 : Int)))) then (some (20 : Int)) else (next (IntKind.i64.wrap (v3 + (1 : Int)))))) FU (0 : Int)))))) else none)) else (kx0 ()))
def qcv  (v0 : List AV) (kx0 : Unit → Option Int) : Nat → Int → Option Int
  | 0 => (fun _ => none)
  | n + 1 => (fun v3 => qef v0 v3 (qcv v0 kx0 n) kx0)
def qqi := hull (qcv)
theorem qwp : qqi = qcv := qa _
def qyk : SubB Tryz.prog (TIof Tryz.prog) 84 0 (kret [.t 2] (decI .i64)) := lpB tabOk follows Tryz.f23 75 (.s (.s .z (.s .z (.v [.sel [] []]))) (.s (.b (.s (.r [(2, .p (.etac 19 qc))] []) (.s (.r [(2, .c quf.b)] []) (.s (.s (.sub [.sel [0, 3, 4, 6] [0]] qyi []) .z) (.s (.s .z (.b (.sub [.sel [0, 3, 4, 7] [0]] qyj []))) (.s (.r [(4, .g 5), (11, .g 5), (18, .g 5), (25, .g 3)] []) .z)))))) (.v [.sel [0, 3] []]))) S67_ (qcv) (fun f v K n => f (v.l 0 0) (qmg K) n) (fun v f K => qef (v.l 0 0) (v.i 12 0) f (qmg K)) (fun f v => f (v.i 12 0)) (fun k v => (fun z0 => k (v.ui 12 0 z0))) (by kernel_rfl) (fun _ _ => (by kernel_rfl)) (fun _ _ _ => (by kernel_rfl)) (fun _ _ _ => (by kernel_rfl)) (fun _ _ => (by kernel_rfl)) (fun _ _ _ _ _ => (by kernel_rfl))
def qi7 (v0 : List AV) : Option Int :=
  (bif (decide ((v0.length : Int) > (16 : Int))) then (some (9 : Int)) else (qqi v0 (fun (_ : Unit) => (some (0 : Int))) FU (0 : Int)))
def qlf := hull qi7
theorem q42 : qlf = qi7 := qa _
def qsw {R : Type} : EntF Tryz.prog R := entB (nt := 84) (dec := (decI .i64)) (enc := (AV.int .i64)) tabOk follows Tryz.func23 [.t 2] hdeI (.s .z (.s .z (.s (.s .z (.b (.sub [.sel [0, 3] []] qyk []))) .z))) S1_ qi7 (fun f v => f (v.l 0 0)) (by kernel_rfl) (by kernel_rfl) (by kernel_rfl) fun _ => (by kernel_rfl)
def S68_ : Shp := ⟨[(0, .st (lk qc)), (1, .one (.l (.i .i64)))], []⟩
def qi8 (Aa : List UInt8) (Ab : Bool) (Ac Ad Ae Af Ag v1 : Int) : Option Bool :=
  (some ((decide (Ad ≤ v1)) && (decide (v1 < Ag))))
def qhs := hull qi8
theorem qwq : qhs = qi8 := qa _
def qon {R : Type} : EntF Tryz.prog R := entB (nt := 15) (dec := decB) (enc := AV.bool) tabOk follows Tryz.func39 [.t 4] hdeB (.s .z (.s (.r [(5, .g 4)] []) .z)) S68_ qi8 (fun f v => f (v.s 1 0) (v.b 1 1) (v.i 1 2) (v.i 1 3) (v.i 1 4) (v.i 1 5) (v.i 1 6) (v.i 4 0)) (by kernel_rfl) (by kernel_rfl) (by kernel_rfl) fun _ => (by kernel_rfl)
def S70_ : Shp := ⟨[(0, .st (lk qc)), (1, .one (.ptr 0 0))], [.box true [(.l (.i .i64))], .arr true 3, .box true (lk qc)]⟩
def qru {R : Type} (KK : AV → Mem → Option R) := (fun v3 Al a1 Bv Bw Bx By Bz B0 B1 => KK (.bool v3) (qd [(some (.box true [(.int .i64 Al)])), (some (.arr true 3 a1)), (some (.box true (q9 Bv Bw Bx By Bz B0 B1)))]))
def qeg {R : Type}  (Aa : List UInt8) (Ab : Bool) (Ac Ad Ae Af Ag Al : Int) (a1 : List AV) (Bv : List UInt8) (Bw : Bool) (Bx By Bz B0 B1 : Int) (kr : Bool → Int → (List AV) → (List UInt8) → Bool → Int → Int → Int → Int → Int → Option R) : Option R :=
  (oB (qhs Aa Ab Ac Ad Ae Af Ag Al) fun r1 => (kr r1 Al a1 Bv Bw Bx By Bz B0 B1))
def qh0 {R : Type} := hull (qeg (R := R))
theorem qrv {R : Type} : qh0 (R := R) = qeg := qa _
def qsx {R : Type} : RefB Tryz.prog R := refB (nt := 7) (nb := 3) tabOk follows Tryz.func38 [.t 3] (fun KK => .s .z (.s (.r [(2, .c qon.b)] []) (.v [.sel [3] [0, 1, 2]]))) S70_ (qeg (R := R)) (fun f v KK => f (v.s 1 0) (v.b 1 1) (v.i 1 2) (v.i 1 3) (v.i 1 4) (v.i 1 5) (v.i 1 6) (v.i 3 0) (v.r 1) (v.s 11 0) (v.b 11 1) (v.i 11 2) (v.i 11 3) (v.i 11 4) (v.i 11 5) (v.i 11 6) (qru KK)) (by kernel_rfl) (by kernel_rfl) (fun _ => (by kernel_rfl)) rfl fun _ _ => (by kernel_rfl)
def S71_ : Shp := ⟨[(1, .one (.fn 38 [(0, 0)])), (5, .one (.own 1)), (8, .one (.l (.sl 7))), (9, .one (.l (.i .i64))), (10, .one (.l (.i .i64)))], [.box true [(.l (.i .i64))], .arr true 3]⟩
def S72_ : Shp := ⟨[(0, .one (.l (.sl 7))), (1, .one (.fn 38 [(0, 0)]))], [.box true [(.l (.i .i64))]]⟩
def qdt {R : Type}  (K : Ex → Env → Mem → Option R) := (fun z_b0_0 z_a1 => K (.exit 0) (qe [(5, (.own 1 z_a1.length))]) (qd [(some (.box true [(.int .i64 z_b0_0)])), (some (.arr true 3 z_a1))]))
def qbf {R : Type}  (v8 : List AV) (v9 v10 Al : Int) (a1 : List AV) (next : Int → Int → (List AV) → Option R) (kx0 : Int → (List AV) → Option R) : Option R :=
  (bif (decide (v10 < v9)) then (oB (ixB v8 v10) fun y1 => (bif fitC qc y1.cells then (qh0 (gS y1.cells 0) (gB y1.cells 1) (gI y1.cells 2) (gI y1.cells 3) (gI y1.cells 4) (gI y1.cells 5) (gI y1.cells 6) Al a1 (gS y1.cells 0) (gB y1.cells 1) (gI y1.cells 2) (gI y1.cells 3) (gI y1.cells 4) (gI y1.cells 5) (gI y1.cells 6) fun v3q2 b0_0q3 a1q4 b2_0q5 b2_1q6 b2_2q7 b2_3q8 b2_4q9 b2_5q10 b2_6q11 => (bif v3q2 then (bif hd a1q4 a1.length then (bif hd ([(.agg [(.str b2_0q5), (.bool b2_1q6), (.int .i64 b2_2q7)])] : List AV) (([(.agg [(.str b2_0q5), (.bool b2_1q6), (.int .i64 b2_2q7)])] : List AV).length) then (bif decide ((a1q4.length + ([(.agg [(.str b2_0q5), (.bool b2_1q6), (.int .i64 b2_2q7)])] : List AV).length) * 32 ≤ 140737488355328) then (bif hd (a1q4 ++ ([(.agg [(.str b2_0q5), (.bool b2_1q6), (.int .i64 b2_2q7)])] : List AV)) ((a1q4 ++ ([(.agg [(.str b2_0q5), (.bool b2_1q6), (.int .i64 b2_2q7)])] : List AV)).length) then (next (IntKind.i64.wrap (v10 + (1 : Int))) b0_0q3 (a1q4 ++ ([(.agg [(.str b2_0q5), (.bool b2_1q6), (.int .i64 b2_2q7)])] : List AV))) else none) else none) else none) else none) else (bif hd a1q4 a1.length then (next (IntKind.i64.wrap (v10 + (1 : Int))) b0_0q3 a1q4) else none))) else none)) else (kx0 Al a1))
def qbg {R : Type}  (v8 : List AV) (v9 : Int) (kx0 : Int → (List AV) → Option R) : Nat → Int → Int → (List AV) → Option R
  | 0 => (fun _ _ _ => none)
  | n + 1 => (fun v10 Al a1 => qbf v8 v9 v10 Al a1 (qbg v8 v9 kx0 n) kx0)
def qe0 {R : Type} := hull (qbg (R := R))
theorem qir {R : Type} : qe0 (R := R) = qbg := qa _
def qi9 {R : Type} (KK : AV → Mem → Option R) : SubB Tryz.prog (TIof Tryz.prog) 24 1 (qfv [.t 4] KK) := lpB tabOk follows Tryz.f37 75 (.s .z (.s (.s .z (.v [.sel [5] [0, 1]])) (.s (.b (.s (.r [(0, .p (.etac 12 qc))] []) (.s (.r [(2, .s (.sel [1, 5, 7, 8, 9, 10, 14, 15] [0, 1, 2])), (2, .r qsx)] []) .z))) (.v [.hd 5, .sel [1, 5, 8, 9, 10] [0, 1]])))) S71_ (qbg (R := R)) (fun f v K n => f (v.l 32 0) (v.i 36 0) (qdt K) n) (fun v f K => qbf (v.l 32 0) (v.i 36 0) (v.i 40 0) (v.i 3 0) (v.r 1) f (qdt K)) (fun f v => f (v.i 40 0) (v.i 3 0) (v.r 1)) (fun k v => (fun z0 z1 z2 => k (((v.ui 40 0 z0).ui 3 0 z1).ur 1 z2))) (by kernel_rfl) (fun _ _ => (by kernel_rfl)) (fun _ _ _ => (by kernel_rfl)) (fun _ _ _ => (by kernel_rfl)) (fun _ _ => (by kernel_rfl)) (fun _ _ _ _ _ => (by kernel_rfl))
def qjz {R : Type} (KK : AV → Mem → Option R) := (fun Al a1 => KK (.own 1 a1.length) (qd [(some (.box true [(.int .i64 Al)])), (some (.arr true 3 a1))]))
def qb3 {R : Type}  (v0 : List AV) (Al : Int) (kr : Int → (List AV) → Option R) : Option R :=
  (bif (hd ([] : List AV) (([] : List AV).length) && true) then (qe0 v0 (v0.length : Int) (fun b0_0q1 a1q2 => (kr b0_0q1 a1q2)) FU (0 : Int) Al ([] : List AV)) else none)
def qcw {R : Type} := hull (qb3 (R := R))
theorem qj0 {R : Type} : qcw (R := R) = qb3 := qa _
def qkk {R : Type} : RefB Tryz.prog R := refB (nt := 24) (nb := 1) tabOk follows Tryz.func37 [.t 4] (fun KK => .s .z (.s .z (.s (.s .z (.b (.sub [.own 5 3, .sel [1, 5, 8, 9, 10] [0, 1]] (qi9 KK) []))) (.s .z (.v [.sel [4] [0, 1]]))))) S72_ (qb3 (R := R)) (fun f v KK => f (v.l 0 0) (v.i 3 0) (qjz KK)) (by kernel_rfl) (by kernel_rfl) (fun _ => (by kernel_rfl)) rfl fun _ _ => (by kernel_rfl)
def qgc (v0 : List AV) (v1 : Int) : Option (List AV) :=
  (qcw v0 v1 fun b0_0q1 a1q2 => (bif hd a1q2 a1q2.length then (some a1q2) else none))
def qfq := hull qgc
theorem qwr : qfq = qgc := qa _
def qyl {R : Type} : EntF Tryz.prog R := entB (nt := 8) (dec := (decF true 3)) (enc := (AV.fr true 3)) tabOk follows Tryz.func19 [.t 4] hdeF (.s .z (.s (.r [(2, .s (.sel [5, 6] [0])), (2, .r qkk)] []) .z)) S6_ qgc (fun f v => f (v.l 0 0) (v.i 4 0)) (by kernel_rfl) (by kernel_rfl) (by kernel_rfl) fun _ => (by kernel_rfl)
def qm4 (Aa : List UInt8) (Ab : Bool) (Ac Ad Ae Af Ag v1 : Int) : Option Bool :=
  (some ((decide (Ae ≤ v1)) && (decide (v1 < Af))))
def qgi := hull qm4
theorem q43 : qgi = qm4 := qa _
def qja {R : Type} : EntF Tryz.prog R := entB (nt := 15) (dec := decB) (enc := AV.bool) tabOk follows Tryz.func41 [.t 4] hdeB (.s .z (.s (.r [(5, .g 4)] []) .z)) S68_ qm4 (fun f v => f (v.s 1 0) (v.b 1 1) (v.i 1 2) (v.i 1 3) (v.i 1 4) (v.i 1 5) (v.i 1 6) (v.i 4 0)) (by kernel_rfl) (by kernel_rfl) (by kernel_rfl) fun _ => (by kernel_rfl)
def qtw {R : Type} (KK : AV → Mem → Option R) := (fun v3 Al a1 Bv Bw Bx By Bz B0 B1 => KK (.bool v3) (qd [(some (.box true [(.int .i64 Al)])), (some (.arr true 3 a1)), (some (.box true (q9 Bv Bw Bx By Bz B0 B1)))]))
def qfi {R : Type}  (Aa : List UInt8) (Ab : Bool) (Ac Ad Ae Af Ag Al : Int) (a1 : List AV) (Bv : List UInt8) (Bw : Bool) (Bx By Bz B0 B1 : Int) (kr : Bool → Int → (List AV) → (List UInt8) → Bool → Int → Int → Int → Int → Int → Option R) : Option R :=
  (oB (qgi Aa Ab Ac Ad Ae Af Ag Al) fun r1 => (kr r1 Al a1 Bv Bw Bx By Bz B0 B1))
def qjb {R : Type} := hull (qfi (R := R))
theorem qtx {R : Type} : qjb (R := R) = qfi := qa _
def qvf {R : Type} : RefB Tryz.prog R := refB (nt := 7) (nb := 3) tabOk follows Tryz.func40 [.t 3] (fun KK => .s .z (.s (.r [(2, .c qja.b)] []) (.v [.sel [3] [0, 1, 2]]))) S70_ (qfi (R := R)) (fun f v KK => f (v.s 1 0) (v.b 1 1) (v.i 1 2) (v.i 1 3) (v.i 1 4) (v.i 1 5) (v.i 1 6) (v.i 3 0) (v.r 1) (v.s 11 0) (v.b 11 1) (v.i 11 2) (v.i 11 3) (v.i 11 4) (v.i 11 5) (v.i 11 6) (qtw KK)) (by kernel_rfl) (by kernel_rfl) (fun _ => (by kernel_rfl)) rfl fun _ _ => (by kernel_rfl)
def S76_ : Shp := ⟨[(1, .one (.fn 40 [(0, 0)])), (5, .one (.own 1)), (8, .one (.l (.sl 7))), (9, .one (.l (.i .i64))), (10, .one (.l (.i .i64)))], [.box true [(.l (.i .i64))], .arr true 3]⟩
def S77_ : Shp := ⟨[(0, .one (.l (.sl 7))), (1, .one (.fn 40 [(0, 0)]))], [.box true [(.l (.i .i64))]]⟩
def qeh {R : Type}  (K : Ex → Env → Mem → Option R) := (fun z_b0_0 z_a1 => K (.exit 0) (qe [(5, (.own 1 z_a1.length))]) (qd [(some (.box true [(.int .i64 z_b0_0)])), (some (.arr true 3 z_a1))]))
def qbk {R : Type}  (v8 : List AV) (v9 v10 Al : Int) (a1 : List AV) (next : Int → Int → (List AV) → Option R) (kx0 : Int → (List AV) → Option R) : Option R :=
  (bif (decide (v10 < v9)) then (oB (ixB v8 v10) fun y1 => (bif fitC qc y1.cells then (qjb (gS y1.cells 0) (gB y1.cells 1) (gI y1.cells 2) (gI y1.cells 3) (gI y1.cells 4) (gI y1.cells 5) (gI y1.cells 6) Al a1 (gS y1.cells 0) (gB y1.cells 1) (gI y1.cells 2) (gI y1.cells 3) (gI y1.cells 4) (gI y1.cells 5) (gI y1.cells 6) fun v3q2 b0_0q3 a1q4 b2_0q5 b2_1q6 b2_2q7 b2_3q8 b2_4q9 b2_5q10 b2_6q11 => (bif v3q2 then (bif hd a1q4 a1.length then (bif hd ([(.agg [(.str b2_0q5), (.bool b2_1q6), (.int .i64 b2_2q7)])] : List AV) (([(.agg [(.str b2_0q5), (.bool b2_1q6), (.int .i64 b2_2q7)])] : List AV).length) then (bif decide ((a1q4.length + ([(.agg [(.str b2_0q5), (.bool b2_1q6), (.int .i64 b2_2q7)])] : List AV).length) * 32 ≤ 140737488355328) then (bif hd (a1q4 ++ ([(.agg [(.str b2_0q5), (.bool b2_1q6), (.int .i64 b2_2q7)])] : List AV)) ((a1q4 ++ ([(.agg [(.str b2_0q5), (.bool b2_1q6), (.int .i64 b2_2q7)])] : List AV)).length) then (next (IntKind.i64.wrap (v10 + (1 : Int))) b0_0q3 (a1q4 ++ ([(.agg [(.str b2_0q5), (.bool b2_1q6), (.int .i64 b2_2q7)])] : List AV))) else none) else none) else none) else none) else (bif hd a1q4 a1.length then (next (IntKind.i64.wrap (v10 + (1 : Int))) b0_0q3 a1q4) else none))) else none)) else (kx0 Al a1))
def qbl {R : Type}  (v8 : List AV) (v9 : Int) (kx0 : Int → (List AV) → Option R) : Nat → Int → Int → (List AV) → Option R
  | 0 => (fun _ _ _ => none)
  | n + 1 => (fun v10 Al a1 => qbk v8 v9 v10 Al a1 (qbl v8 v9 kx0 n) kx0)
def qfr {R : Type} := hull (qbl (R := R))
theorem qjr {R : Type} : qfr (R := R) = qbl := qa _
def qj1 {R : Type} (KK : AV → Mem → Option R) : SubB Tryz.prog (TIof Tryz.prog) 24 1 (qfv [.t 4] KK) := lpB tabOk follows Tryz.f37 75 (.s .z (.s (.s .z (.v [.sel [5] [0, 1]])) (.s (.b (.s (.r [(0, .p (.etac 12 qc))] []) (.s (.r [(2, .s (.sel [1, 5, 7, 8, 9, 10, 14, 15] [0, 1, 2])), (2, .r qvf)] []) .z))) (.v [.hd 5, .sel [1, 5, 8, 9, 10] [0, 1]])))) S76_ (qbl (R := R)) (fun f v K n => f (v.l 32 0) (v.i 36 0) (qeh K) n) (fun v f K => qbk (v.l 32 0) (v.i 36 0) (v.i 40 0) (v.i 3 0) (v.r 1) f (qeh K)) (fun f v => f (v.i 40 0) (v.i 3 0) (v.r 1)) (fun k v => (fun z0 z1 z2 => k (((v.ui 40 0 z0).ui 3 0 z1).ur 1 z2))) (by kernel_rfl) (fun _ _ => (by kernel_rfl)) (fun _ _ _ => (by kernel_rfl)) (fun _ _ _ => (by kernel_rfl)) (fun _ _ => (by kernel_rfl)) (fun _ _ _ _ _ => (by kernel_rfl))
def qks {R : Type} (KK : AV → Mem → Option R) := (fun Al a1 => KK (.own 1 a1.length) (qd [(some (.box true [(.int .i64 Al)])), (some (.arr true 3 a1))]))
def qca {R : Type}  (v0 : List AV) (Al : Int) (kr : Int → (List AV) → Option R) : Option R :=
  (bif (hd ([] : List AV) (([] : List AV).length) && true) then (qfr v0 (v0.length : Int) (fun b0_0q1 a1q2 => (kr b0_0q1 a1q2)) FU (0 : Int) Al ([] : List AV)) else none)
def qc4 {R : Type} := hull (qca (R := R))
theorem qkt {R : Type} : qc4 (R := R) = qca := qa _
def qlg {R : Type} : RefB Tryz.prog R := refB (nt := 24) (nb := 1) tabOk follows Tryz.func37 [.t 4] (fun KK => .s .z (.s .z (.s (.s .z (.b (.sub [.own 5 3, .sel [1, 5, 8, 9, 10] [0, 1]] (qj1 KK) []))) (.s .z (.v [.sel [4] [0, 1]]))))) S77_ (qca (R := R)) (fun f v KK => f (v.l 0 0) (v.i 3 0) (qks KK)) (by kernel_rfl) (by kernel_rfl) (fun _ => (by kernel_rfl)) rfl fun _ _ => (by kernel_rfl)
def qht (v0 : List AV) (v1 : Int) : Option (List AV) :=
  (qc4 v0 v1 fun b0_0q1 a1q2 => (bif hd a1q2 a1q2.length then (some a1q2) else none))
def qgp := hull qht
theorem q03 : qgp = qht := qa _
def q2i {R : Type} : EntF Tryz.prog R := entB (nt := 8) (dec := (decF true 3)) (enc := (AV.fr true 3)) tabOk follows Tryz.func20 [.t 4] hdeF (.s .z (.s (.r [(2, .s (.sel [5, 6] [0])), (2, .r qlg)] []) .z)) S6_ qht (fun f v => f (v.l 0 0) (v.i 4 0)) (by kernel_rfl) (by kernel_rfl) (by kernel_rfl) fun _ => (by kernel_rfl)
end
end Go.Proofs.YtmoedhehjonnhaaGreatDoor.Dn
