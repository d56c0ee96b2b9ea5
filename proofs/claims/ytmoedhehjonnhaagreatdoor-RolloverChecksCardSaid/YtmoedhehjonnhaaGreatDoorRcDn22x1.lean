import Derived.Test.YtmoedhehjonnhaaGreatDoorProg
import Derived.Test.YtmoedhehjonnhaaGreatDoorRcLibD
import Derived.Test.YtmoedhehjonnhaaGreatDoorRcPl22
import Derived.Test.YtmoedhehjonnhaaGreatDoorRcLy22
set_option linter.all false
namespace Go.Proofs.YtmoedhehjonnhaaGreatDoor.Dn
open Go Go.Pev
set_option linter.unusedVariables false
set_option linter.unusedSimpArgs false
set_option maxRecDepth 100000
set_option maxHeartbeats 4000000
theorem zT : True := True.intro
theorem zA {a b : Prop} (x : a) (y : b) : a ∧ b := ⟨x, y⟩
theorem tabOk : Tab.ok (TIof Tryz.prog) Tryz.prog := fun _ _ h => h
theorem follows : Tryz.prog.follows .mixedOrders = true := by kernel_rfl
def qb : List LT := [.s, .b, (.i .i64), (.i .i64), (.i .i64), (.i .i64), (.i .i64)]
def S0_ : Shp := ⟨[(0, .one (.l (.sl 7))), (3, .one (.own 0)), (4, .one (.l (.i .i64)))], [.arr true 7]⟩
def S1_ : Shp := ⟨[(0, .one (.l (.sl 7)))], []⟩
def qp7  (K : Ex → Env → Mem → Option (List AV)) := (fun z_a0 => K (.exit 0) (qe [(3, (.own 0 z_a0.length))]) (qd [(some (.arr true 7 z_a0))]))
noncomputable section
def qgf  (v0 : List AV) (v4 : Int) (a0 : List AV) (next : Int → (List AV) → Option (List AV)) (kx0 : (List AV) → Option (List AV)) : Option (List AV) :=
  (bif ((decide (v4 < (v0.length : Int))) && (decide (v4 < (20 : Int)))) then (oB (ixB v0 v4) fun y1 => (bif fitC qb y1.cells then (oB (cutI (gS y1.cells 0) none (some (if (300 : Int) < ((gS y1.cells 0).length : Int) then (300 : Int) else ((gS y1.cells 0).length : Int)))) fun s2 => (bif hd a0 a0.length then (bif hd ([(.agg [(.str s2), (.bool (gB y1.cells 1)), (.int .i64 (gI y1.cells 2)), (.int .i64 (gI y1.cells 3)), (.int .i64 (gI y1.cells 4)), (.int .i64 (gI y1.cells 5)), (.int .i64 (gI y1.cells 6))])] : List AV) (([(.agg [(.str s2), (.bool (gB y1.cells 1)), (.int .i64 (gI y1.cells 2)), (.int .i64 (gI y1.cells 3)), (.int .i64 (gI y1.cells 4)), (.int .i64 (gI y1.cells 5)), (.int .i64 (gI y1.cells 6))])] : List AV).length) then (bif decide ((a0.length + ([(.agg [(.str s2), (.bool (gB y1.cells 1)), (.int .i64 (gI y1.cells 2)), (.int .i64 (gI y1.cells 3)), (.int .i64 (gI y1.cells 4)), (.int .i64 (gI y1.cells 5)), (.int .i64 (gI y1.cells 6))])] : List AV).length) * 64 ≤ 140737488355328) then (next (IntKind.i64.wrap (v4 + (1 : Int))) (a0 ++ ([(.agg [(.str s2), (.bool (gB y1.cells 1)), (.int .i64 (gI y1.cells 2)), (.int .i64 (gI y1.cells 3)), (.int .i64 (gI y1.cells 4)), (.int .i64 (gI y1.cells 5)), (.int .i64 (gI y1.cells 6))])] : List AV))) else none) else none) else none)) else none)) else (kx0 a0))
def qex  (v0 : List AV) (kx0 : (List AV) → Option (List AV)) : Nat → Int → (List AV) → Option (List AV)
  | 0 => (fun _ _ => none)
  | n + 1 => (fun v4 a0 => qgf v0 v4 a0 (qex v0 kx0 n) kx0)
def qvg := hull (qex)
theorem q25 : qvg = qex := qa _
def q5t : SubB Tryz.prog (TIof Tryz.prog) 36 0 (kret [.t 2] (decF true 7)) := lpB tabOk follows Tryz.f9 75 (.s (.s (.r [(5, .g 2)] []) (.s .z (.v [.sel [3] [0]]))) (.s (.b (.s (.r [(2, .p (.etac 18 qb))] []) .z)) (.v [.sel [0, 3, 4] [0]]))) S0_ (qex) (fun f v K n => f (v.l 0 0) (qp7 K) n) (fun v f K => qgf (v.l 0 0) (v.i 16 0) (v.r 0) f (qp7 K)) (fun f v => f (v.i 16 0) (v.r 0)) (fun k v => (fun z0 z1 => k ((v.ui 16 0 z0).ur 0 z1))) (by kernel_rfl) (fun _ _ => (by kernel_rfl)) (fun _ _ _ => (by kernel_rfl)) (fun _ _ _ => (by kernel_rfl)) (fun _ _ => (by kernel_rfl)) (fun _ _ _ _ _ => (by kernel_rfl))
def qlx (v0 : List AV) : Option (List AV) :=
  (bif (hd ([] : List AV) (([] : List AV).length) && true) then (qvg v0 (fun a0q1 => (bif hd a0q1 a0q1.length then (some a0q1) else none)) FU (0 : Int) ([] : List AV)) else none)
def qtm := hull qlx
theorem q8o : qtm = qlx := qa _
def qbau {R : Type} : EntF Tryz.prog R := entB (nt := 36) (dec := (decF true 7)) (enc := (AV.fr true 7)) tabOk follows Tryz.func9 [.t 2] hdeF (.s .z (.s .z (.s (.s .z (.b (.sub [.own 3 7, .sel [0, 3, 4] [0]] q5t []))) .z))) S1_ qlx (fun f v => f (v.l 0 0)) (by kernel_rfl) (by kernel_rfl) (by kernel_rfl) fun _ => (by kernel_rfl)
def S2_ : Shp := ⟨[(0, .st (lk qb))], []⟩
def qnr (Aa : List UInt8) (Ab : Bool) (Ac Ad Ae Af Ag : Int) : Option AV :=
  (some (.agg [(.int .i64 Ad), (.int .i64 Ae), (.int .i64 Af), (.int .i64 Ag)]))
def qfp := hull qnr
theorem q5u : qfp = qnr := qa _
def qns {R : Type} : EntF Tryz.prog R := entB (nt := 12) (dec := (decT [(.i .i64), (.i .i64), (.i .i64), (.i .i64)])) (enc := (qp0 (.st [(.i .i64), (.i .i64), (.i .i64), (.i .i64)]))) tabOk follows Tryz.func35 [(.cell 2 true 4)] hdeT (.z) S2_ qnr (fun f v => f (v.s 1 0) (v.b 1 1) (v.i 1 2) (v.i 1 3) (v.i 1 4) (v.i 1 5) (v.i 1 6)) (by kernel_rfl) (by kernel_rfl) (by kernel_rfl) fun _ => (by kernel_rfl)
def q5c : List LT := [(.i .i64), (.i .i64), (.i .i64), (.i .i64)]
def q8p (x0 x1 x2 x3 : Int) : List AV := [.int .i64 x0, .int .i64 x1, .int .i64 x2, .int .i64 x3]
def S3_ : Shp := ⟨[(1, .one (.l (.i .i64))), (6, .one (.l (.i .i64))), (7, .one (.l .b)), (11, .one (.l (.i .i64))), (12, .one (.l (.sl 7))), (13, .one (.l (.i .i64))), (14, .one (.l (.i .i64))), (19, .st (lk q5c)), (20, .one (.l (.i .i64)))], []⟩
def S4_ : Shp := ⟨[(1, .one (.l (.i .i64))), (6, .one (.l (.i .i64))), (7, .one (.l .b)), (12, .one (.l (.sl 7))), (13, .one (.l (.i .i64))), (14, .one (.l (.i .i64))), (19, .st (lk q5c)), (20, .one (.l (.i .i64)))], []⟩
def S5_ : Shp := ⟨[(1, .one (.l (.i .i64))), (6, .one (.l (.i .i64))), (7, .one (.l .b)), (12, .one (.l (.sl 7))), (13, .one (.l (.i .i64))), (14, .one (.l (.i .i64)))], []⟩
def S6_ : Shp := ⟨[(0, .one (.l (.sl 7))), (1, .one (.l (.i .i64)))], []⟩
def qio : AV → Option (Int × Bool) := decN [(.one (.i .i64)), (.one .b)] fun z => (aI (gC (tpL z) 0), aB (gC (tpL z) 1))
def qy2  (v1 v6 : Int) (v7 : Bool) (v11 : Int) (v12 : List AV) (v13 v14 Ah Ai Aj Ak v20 : Int) (K : Ex → Env → Mem → Option (Int × Bool)) := (fun z_v34 => K .norm (qe [(1, (.int .i64 v1)), (6, (.int .i64 v6)), (7, (.bool v7)), (11, (.int .i64 v11)), (12, (.sl 7 v12)), (13, (.int .i64 v13)), (14, (.int .i64 v14)), (19, .agg (q8p Ah Ai Aj Ak)), (20, (.int .i64 v20)), (34, (.bool z_v34))]) (qd []))
def qhc  (v1 v6 : Int) (v7 : Bool) (v11 : Int) (v12 : List AV) (v13 v14 Ah Ai Aj Ak v20 : Int) (kn : Bool → Option (Int × Bool)) : Option (Int × Bool) :=
  (bif (decide (v11 > v1)) then (bif (!v7) then (kn true) else (kn (decide (v11 < v6)))) else (kn false))
def qr9 := hull (qhc)
theorem qy3 : qr9 = qhc := qa _
def q1z : SubB Tryz.prog (TIof Tryz.prog) 40 0 (kret [.t 4, .t 5] qio) := jnB tabOk follows Tryz.f17 1363147 (.v [.sel [1, 6, 7, 11, 12, 13, 14, 19, 20, 34] []]) S3_ (qhc) (fun f v K => f (v.i 4 0) (v.i 24 0) (v.b 28 0) (v.i 44 0) (v.l 48 0) (v.i 52 0) (v.i 56 0) (v.i 77 0) (v.i 77 1) (v.i 77 2) (v.i 77 3) (v.i 80 0) (qy2 (v.i 4 0) (v.i 24 0) (v.b 28 0) (v.i 44 0) (v.l 48 0) (v.i 52 0) (v.i 56 0) (v.i 77 0) (v.i 77 1) (v.i 77 2) (v.i 77 3) (v.i 80 0) K)) (by kernel_rfl) (fun _ _ => (by kernel_rfl))
def qn9  (v1 : Int) (v12 : List AV) (v13 v14 : Int) (K : Ex → Env → Mem → Option (Int × Bool)) := (fun z_v6 z_v7 => K (.exit 2) (qe [(1, (.int .i64 v1)), (6, (.int .i64 z_v6)), (7, (.bool z_v7)), (12, (.sl 7 v12)), (13, (.int .i64 v13)), (14, (.int .i64 v14))]) (qd []))
def qe9  (v1 v6 : Int) (v7 : Bool) (v12 : List AV) (v13 v14 Ah Ai Aj Ak v20 : Int) (next : Int → Bool → Int → Option (Int × Bool)) (kx2 : Int → Bool → Option (Int × Bool)) : Option (Int × Bool) :=
  (bif (decide (v20 < (4 : Int))) then (oI (vixa false 4 1 (.agg [(.int .i64 Ah), (.int .i64 Ai), (.int .i64 Aj), (.int .i64 Ak)]) (.int .i64 v20)) fun q1 => (bif fitV (.one (.i .i64)) q1 then (qr9 v1 v6 v7 (aI q1) v12 v13 v14 Ah Ai Aj Ak v20 (fun v34q2 => (bif v34q2 then (next (aI q1) true (IntKind.i64.wrap (v20 + (1 : Int)))) else (next v6 v7 (IntKind.i64.wrap (v20 + (1 : Int))))))) else none)) else (kx2 v6 v7))
def qfa  (v1 : Int) (v12 : List AV) (v13 v14 Ah Ai Aj Ak : Int) (kx2 : Int → Bool → Option (Int × Bool)) : Nat → Int → Bool → Int → Option (Int × Bool)
  | 0 => (fun _ _ _ => none)
  | n + 1 => (fun v6 v7 v20 => qe9 v1 v6 v7 v12 v13 v14 Ah Ai Aj Ak v20 (qfa v1 v12 v13 v14 Ah Ai Aj Ak kx2 n) kx2)
def qmq := hull (qfa)
theorem qy4 : qmq = qfa := qa _
def q10 : SubB Tryz.prog (TIof Tryz.prog) 40 0 (kret [.t 4, .t 5] qio) := lpB tabOk follows Tryz.f17 19659 (.s .z (.s (.s .z (.v [.sel [1, 6, 7, 12, 13, 14] []])) (.s (.b (.s (.r [(0, .p (.eta 22 (.one (.i .i64))))] []) (.s (.sub [.sel [1, 6, 7, 11, 12, 13, 14, 19, 20] []] q1z []) .z))) (.v [.sel [1, 6, 7, 12, 13, 14, 19, 20] []])))) S4_ (qfa) (fun f v K n => f (v.i 4 0) (v.l 48 0) (v.i 52 0) (v.i 56 0) (v.i 77 0) (v.i 77 1) (v.i 77 2) (v.i 77 3) (qn9 (v.i 4 0) (v.l 48 0) (v.i 52 0) (v.i 56 0) K) n) (fun v f K => qe9 (v.i 4 0) (v.i 24 0) (v.b 28 0) (v.l 48 0) (v.i 52 0) (v.i 56 0) (v.i 77 0) (v.i 77 1) (v.i 77 2) (v.i 77 3) (v.i 80 0) f (qn9 (v.i 4 0) (v.l 48 0) (v.i 52 0) (v.i 56 0) K)) (fun f v => f (v.i 24 0) (v.b 28 0) (v.i 80 0)) (fun k v => (fun z0 z1 z2 => k (((v.ui 24 0 z0).ub 28 0 z1).ui 80 0 z2))) (by kernel_rfl) (fun _ _ => (by kernel_rfl)) (fun _ _ _ => (by kernel_rfl)) (fun _ _ _ => (by kernel_rfl)) (fun _ _ => (by kernel_rfl)) (fun _ _ _ _ _ => (by kernel_rfl))
def qow  (K : Ex → Env → Mem → Option (Int × Bool)) := (fun z_v6 z_v7 => K (.exit 0) (qe [(6, (.int .i64 z_v6)), (7, (.bool z_v7))]) (qd []))
def qf5  (v1 v6 : Int) (v7 : Bool) (v12 : List AV) (v13 v14 : Int) (next : Int → Bool → Int → Option (Int × Bool)) (kx0 : Int → Bool → Option (Int × Bool)) : Option (Int × Bool) :=
  (bif (decide (v14 < v13)) then (oB (ixB v12 v14) fun y1 => (bif fitC qb y1.cells then (oB (qfp (gS y1.cells 0) (gB y1.cells 1) (gI y1.cells 2) (gI y1.cells 3) (gI y1.cells 4) (gI y1.cells 5) (gI y1.cells 6)) fun r2 => (qmq v1 v12 v13 v14 (gI r2.cells 0) (gI r2.cells 1) (gI r2.cells 2) (gI r2.cells 3) (fun v6q3 v7q4 => (next v6q3 v7q4 (IntKind.i64.wrap (v14 + (1 : Int))))) FU v6 v7 (0 : Int))) else none)) else (kx0 v6 v7))
def qf6  (v1 : Int) (v12 : List AV) (v13 : Int) (kx0 : Int → Bool → Option (Int × Bool)) : Nat → Int → Bool → Int → Option (Int × Bool)
  | 0 => (fun _ _ _ => none)
  | n + 1 => (fun v6 v7 v14 => qf5 v1 v6 v7 v12 v13 v14 (qf6 v1 v12 v13 kx0 n) kx0)
def qtn := hull (qf6)
theorem q11 : qtn = qf6 := qa _
def q26 : SubB Tryz.prog (TIof Tryz.prog) 40 0 (kret [.t 4, .t 5] qio) := lpB tabOk follows Tryz.f17 75 (.s .z (.s (.s .z (.v [.sel [6, 7] []])) (.s (.b (.s (.r [(0, .p (.etac 16 qb))] []) (.s (.r [(1, .c qns.b)] []) (.b (.sub [.sel [1, 6, 7, 12, 13, 14, 19, 20] []] q10 []))))) (.v [.sel [1, 6, 7, 12, 13, 14] []])))) S5_ (qf6) (fun f v K n => f (v.i 4 0) (v.l 48 0) (v.i 52 0) (qow K) n) (fun v f K => qf5 (v.i 4 0) (v.i 24 0) (v.b 28 0) (v.l 48 0) (v.i 52 0) (v.i 56 0) f (qow K)) (fun f v => f (v.i 24 0) (v.b 28 0) (v.i 56 0)) (fun k v => (fun z0 z1 z2 => k (((v.ui 24 0 z0).ub 28 0 z1).ui 56 0 z2))) (by kernel_rfl) (fun _ _ => (by kernel_rfl)) (fun _ _ _ => (by kernel_rfl)) (fun _ _ _ => (by kernel_rfl)) (fun _ _ => (by kernel_rfl)) (fun _ _ _ _ _ => (by kernel_rfl))
def qkq (v0 : List AV) (v1 : Int) : Option (Int × Bool) :=
  (qtn v1 v0 (v0.length : Int) (fun v6q1 v7q2 => (some (v6q1, v7q2))) FU (0 : Int) false (0 : Int))
def qhv := hull qkq
theorem q7f : qhv = qkq := qa _
def qvh {R : Type} : EntF Tryz.prog R := entB (nt := 40) (dec := qio) (enc := (fun r => .tup [.int .i64 r.1, .bool r.2])) tabOk follows Tryz.func17 [.t 4, .t 5] (hdeN fun _ => rfl) (.s .z (.s .z (.s (.s .z (.b (.sub [.sel [1, 6, 7, 12, 13, 14] []] q26 []))) .z))) S6_ qkq (fun f v => f (v.l 0 0) (v.i 4 0)) (by kernel_rfl) (by kernel_rfl) (by kernel_rfl) fun _ => (by kernel_rfl)
def S7_ : Shp := ⟨[(0, .one (.l (.sl 7))), (1, .one (.l (.i .i64))), (6, .one (.l (.i .i64))), (7, .one (.l .b)), (8, .one (.l (.i .i64))), (9, .one (.own 0)), (10, .one (.l (.i .i64)))], [.arr true 1]⟩
def S8_ : Shp := ⟨[(0, .one (.l (.sl 7))), (1, .one (.l (.i .i64))), (6, .one (.l (.i .i64))), (7, .one (.l .b)), (8, .one (.l (.i .i64)))], []⟩
def qip : AV → Option (Int × Bool) := decN [(.one (.i .i64)), (.one .b)] fun z => (aI (gC (tpL z) 0), aB (gC (tpL z) 1))
def qy5  (v0 : List AV) (v1 v6 : Int) (v7 : Bool) (v8 v10 : Int) (a0 : List AV) (K : Ex → Env → Mem → Option (Int × Bool)) := (fun z_v61 => K .norm (qe [(0, (.sl 7 v0)), (1, (.int .i64 v1)), (6, (.int .i64 v6)), (7, (.bool v7)), (8, (.int .i64 v8)), (9, (.own 0 a0.length)), (10, (.int .i64 v10)), (61, (.bool z_v61))]) (qd [(some (.arr true 1 a0))]))
def qhd  (v0 : List AV) (v1 v6 : Int) (v7 : Bool) (v8 v10 : Int) (a0 : List AV) (kn : Bool → Option (Int × Bool)) : Option (Int × Bool) :=
  (bif hd a0 a0.length then (bif decide (0 ≤ v10 ∧ v10 < a0.length) then (bif hd a0 a0.length then (oB (a0[v10.toNat]?) fun y1 => (oB (rdE y1 0 false 1) fun z2 => (bif fitV (.one (.i .i64)) z2 then (bif (decide ((aI z2) > v1)) then (bif (!v7) then (kn true) else (bif hd a0 a0.length then (bif decide (0 ≤ v10 ∧ v10 < a0.length) then (bif hd a0 a0.length then (oB (a0[v10.toNat]?) fun y3 => (oB (rdE y3 0 false 1) fun z4 => (bif fitV (.one (.i .i64)) z4 then (kn (decide ((aI z4) < v6))) else none))) else none) else none) else none)) else (kn false)) else none))) else none) else none) else none)
def qsa := hull (qhd)
theorem qy6 : qsa = qhd := qa _
def q12 : SubB Tryz.prog (TIof Tryz.prog) 68 0 (kret [.t 4, .t 5] qip) := jnB tabOk follows Tryz.f22 281751 (.r [(3, .p (.eta 47 (.one (.i .i64)))), (13, .p (.eta 57 (.one (.i .i64))))] [.sel [0, 1, 6, 7, 8, 9, 10, 61] [0]]) S7_ (qhd) (fun f v K => f (v.l 0 0) (v.i 4 0) (v.i 24 0) (v.b 28 0) (v.i 32 0) (v.i 40 0) (v.r 0) (qy5 (v.l 0 0) (v.i 4 0) (v.i 24 0) (v.b 28 0) (v.i 32 0) (v.i 40 0) (v.r 0) K)) (by kernel_rfl) (fun _ _ => (by kernel_rfl))
def qoa  (v0 : List AV) (v1 v8 : Int) (K : Ex → Env → Mem → Option (Int × Bool)) := (fun z_v6 z_v7 => K (.exit 2) (qe [(0, (.sl 7 v0)), (1, (.int .i64 v1)), (6, (.int .i64 z_v6)), (7, (.bool z_v7)), (8, (.int .i64 v8))]) (qd []))
def qfb  (v0 : List AV) (v1 v6 : Int) (v7 : Bool) (v8 v10 : Int) (a0 : List AV) (next : Int → Bool → Int → Option (Int × Bool)) (kx2 : Int → Bool → Option (Int × Bool)) : Option (Int × Bool) :=
  (bif (decide (v10 < (a0.length : Int))) then (bif (hd a0 (a0.length) && true) then (qsa v0 v1 v6 v7 v8 v10 a0 (fun v61q1 => (bif v61q1 then (bif hd a0 a0.length then (bif decide (0 ≤ v10 ∧ v10 < a0.length) then (bif hd a0 a0.length then (oB (a0[v10.toNat]?) fun y2 => (oB (rdE y2 0 false 1) fun z3 => (bif fitV (.one (.i .i64)) z3 then (next (aI z3) true (IntKind.i64.wrap (v10 + (1 : Int)))) else none))) else none) else none) else none) else (next v6 v7 (IntKind.i64.wrap (v10 + (1 : Int))))))) else none) else (kx2 v6 v7))
def qfc  (v0 : List AV) (v1 v8 : Int) (a0 : List AV) (kx2 : Int → Bool → Option (Int × Bool)) : Nat → Int → Bool → Int → Option (Int × Bool)
  | 0 => (fun _ _ _ => none)
  | n + 1 => (fun v6 v7 v10 => qfb v0 v1 v6 v7 v8 v10 a0 (qfc v0 v1 v8 a0 kx2 n) kx2)
def qmr := hull (qfc)
theorem qy7 : qmr = qfc := qa _
def q13 : SubB Tryz.prog (TIof Tryz.prog) 68 0 (kret [.t 4, .t 5] qip) := lpB tabOk follows Tryz.f22 19607 (.s (.s .z (.s .z (.v [.sel [0, 1, 6, 7, 8] []]))) (.s (.b (.s (.sub [.sel [0, 1, 6, 7, 8, 9, 10] [0]] q12 []) (.s (.s (.r [(3, .p (.eta 65 (.one (.i .i64))))] []) .z) .z))) (.v [.sel [0, 1, 6, 7, 8, 9, 10] [0]]))) S7_ (qfc) (fun f v K n => f (v.l 0 0) (v.i 4 0) (v.i 32 0) (v.r 0) (qoa (v.l 0 0) (v.i 4 0) (v.i 32 0) K) n) (fun v f K => qfb (v.l 0 0) (v.i 4 0) (v.i 24 0) (v.b 28 0) (v.i 32 0) (v.i 40 0) (v.r 0) f (qoa (v.l 0 0) (v.i 4 0) (v.i 32 0) K)) (fun f v => f (v.i 24 0) (v.b 28 0) (v.i 40 0)) (fun k v => (fun z0 z1 z2 => k (((v.ui 24 0 z0).ub 28 0 z1).ui 40 0 z2))) (by kernel_rfl) (fun _ _ => (by kernel_rfl)) (fun _ _ _ => (by kernel_rfl)) (fun _ _ _ => (by kernel_rfl)) (fun _ _ => (by kernel_rfl)) (fun _ _ _ _ _ => (by kernel_rfl))
def qob  (K : Ex → Env → Mem → Option (Int × Bool)) := (fun z_v6 z_v7 => K (.exit 0) (qe [(6, (.int .i64 z_v6)), (7, (.bool z_v7))]) (qd []))
def qfd  (v0 : List AV) (v1 v6 : Int) (v7 : Bool) (v8 : Int) (next : Int → Bool → Int → Option (Int × Bool)) (kx0 : Int → Bool → Option (Int × Bool)) : Option (Int × Bool) :=
  (bif (decide (v8 < (v0.length : Int))) then (oB (ixB v0 v8) fun y1 => (bif fitC qb y1.cells then (oB (ixB v0 v8) fun y2 => (bif fitC qb y2.cells then (oB (ixB v0 v8) fun y3 => (bif fitC qb y3.cells then (oB (ixB v0 v8) fun y4 => (bif fitC qb y4.cells then (bif (hd ([(.int .i64 (gI y1.cells 3)), (.int .i64 (gI y2.cells 4)), (.int .i64 (gI y3.cells 5)), (.int .i64 (gI y4.cells 6))] : List AV) (([(.int .i64 (gI y1.cells 3)), (.int .i64 (gI y2.cells 4)), (.int .i64 (gI y3.cells 5)), (.int .i64 (gI y4.cells 6))] : List AV).length) && true) then (qmr v0 v1 v8 ([(.int .i64 (gI y1.cells 3)), (.int .i64 (gI y2.cells 4)), (.int .i64 (gI y3.cells 5)), (.int .i64 (gI y4.cells 6))] : List AV) (fun v6q5 v7q6 => (next v6q5 v7q6 (IntKind.i64.wrap (v8 + (1 : Int))))) FU v6 v7 (0 : Int)) else none) else none)) else none)) else none)) else none)) else (kx0 v6 v7))
def qfe  (v0 : List AV) (v1 : Int) (kx0 : Int → Bool → Option (Int × Bool)) : Nat → Int → Bool → Int → Option (Int × Bool)
  | 0 => (fun _ _ _ => none)
  | n + 1 => (fun v6 v7 v8 => qfd v0 v1 v6 v7 v8 (qfe v0 v1 kx0 n) kx0)
def qsb := hull (qfe)
theorem qy8 : qsb = qfe := qa _
def q14 : SubB Tryz.prog (TIof Tryz.prog) 68 0 (kret [.t 4, .t 5] qip) := lpB tabOk follows Tryz.f22 151 (.s (.s .z (.s .z (.v [.sel [6, 7] []]))) (.s (.b (.s (.d [] [(2, .e 19 qb), (7, .e 24 qb), (12, .e 29 qb), (17, .e 34 qb)] [] []) (.s .z (.b (.sub [.sel [0, 1, 6, 7, 8, 9, 10] [0]] q13 []))))) (.v [.sel [0, 1, 6, 7, 8] []]))) S8_ (qfe) (fun f v K n => f (v.l 0 0) (v.i 4 0) (qob K) n) (fun v f K => qfd (v.l 0 0) (v.i 4 0) (v.i 24 0) (v.b 28 0) (v.i 32 0) f (qob K)) (fun f v => f (v.i 24 0) (v.b 28 0) (v.i 32 0)) (fun k v => (fun z0 z1 z2 => k (((v.ui 24 0 z0).ub 28 0 z1).ui 32 0 z2))) (by kernel_rfl) (fun _ _ => (by kernel_rfl)) (fun _ _ _ => (by kernel_rfl)) (fun _ _ _ => (by kernel_rfl)) (fun _ _ => (by kernel_rfl)) (fun _ _ _ _ _ => (by kernel_rfl))
def qkr (v0 : List AV) (v1 : Int) : Option (Int × Bool) :=
  (qsb v0 v1 (fun v6q1 v7q2 => (some (v6q1, v7q2))) FU (0 : Int) false (0 : Int))
def qrx := hull qkr
theorem q7g : qrx = qkr := qa _
def q8q {R : Type} : EntF Tryz.prog R := entB (nt := 68) (dec := qip) (enc := (fun r => .tup [.int .i64 r.1, .bool r.2])) tabOk follows Tryz.func22 [.t 4, .t 5] (hdeN fun _ => rfl) (.s .z (.s .z (.s .z (.s (.s .z (.b (.sub [.sel [0, 1, 6, 7, 8] []] q14 []))) .z)))) S6_ qkr (fun f v => f (v.l 0 0) (v.i 4 0)) (by kernel_rfl) (by kernel_rfl) (by kernel_rfl) fun _ => (by kernel_rfl)
def S9_ : Shp := ⟨[(0, .one (.l .s)), (1, .one (.l .s))], []⟩
def qe4 (v0 v1 : List UInt8) : Option Bool :=
  (bif (decide ((v0.length : Int) ≥ (v1.length : Int))) then (oB (cutI v0 (some (IntKind.i64.wrap ((v0.length : Int) - (v1.length : Int)))) none) fun s1 => (some (s1 == v1))) else (some false))
def qoc := hull qe4
theorem qto : qoc = qe4 := qa _
def quw {R : Type} : EntF Tryz.prog R := entB (nt := 21) (dec := decB) (enc := AV.bool) tabOk follows Tryz.func97 [.t 4] hdeB (.z) S9_ qe4 (fun f v => f (v.s 0 0) (v.s 4 0)) (by kernel_rfl) (by kernel_rfl) (by kernel_rfl) fun _ => (by kernel_rfl)
def qhe (v0 v1 : List UInt8) : Option Bool :=
  (oB (qoc v0 v1) fun r1 => (some r1))
def qms := hull qhe
theorem qy9 : qms = qhe := qa _
def q15 {R : Type} : EntF Tryz.prog R := entB (nt := 8) (dec := decB) (enc := AV.bool) tabOk follows Tryz.func67 [.t 4] hdeB (.s .z (.s (.r [(2, .c quw.b)] []) .z)) S9_ qhe (fun f v => f (v.s 0 0) (v.s 4 0)) (by kernel_rfl) (by kernel_rfl) (by kernel_rfl) fun _ => (by kernel_rfl)
theorem qbd6 {R : Type} : qj8 Tryz.prog 146 (qqy (R := R)) := qbgp Tryz.func146 (by kernel_rfl) (by kernel_rfl) (by kernel_rfl) (by kernel_rfl)
theorem qbd7 {R : Type} : qj8 Tryz.prog 165 (qqz (R := R)) := qbgq Tryz.func165 (by kernel_rfl) (by kernel_rfl) (by kernel_rfl) (by kernel_rfl)
def S10_ : Shp := ⟨[(0, .one (.l .s)), (1, .one (.l (.i .u8)))], []⟩
def qe5 (v0 : List UInt8) (v1 : Int) : Option Int :=
  (oB (qtf v0 v1) fun r1 => (some r1))
def qod := hull qe5
theorem qtp : qod = qe5 := qa _
def qux {R : Type} : EntF Tryz.prog R := entB (nt := 8) (dec := (decI .i64)) (enc := (AV.int .i64)) tabOk follows Tryz.func157 [.t 4] hdeI (.s .z (.s (.r [(2, .c (eK qbd7))] []) .z)) S10_ qe5 (fun f v => f (v.s 0 0) (v.i 4 0)) (by kernel_rfl) (by kernel_rfl) (by kernel_rfl) fun _ => (by kernel_rfl)
def qhf (v0 v1 : List UInt8) : Option Int :=
  (bif (((v1.length : Int) == (0 : Int)) || (v1 == v0)) then (some (0 : Int)) else (bif ((v1.length : Int) == (1 : Int)) then (oB (ixB v1 (0 : Int)) fun c1 => (oB (qod v0 (c1.toNat : Int)) fun r2 => (some r2))) else (bif (decide ((v1.length : Int) ≥ (v0.length : Int))) then (some (-1 : Int)) else none)))
def qsc := hull qhf
theorem qza : qsc = qhf := qa _
def q16 {R : Type} : EntF Tryz.prog R := entB (nt := 143) (dec := (decI .i64)) (enc := (AV.int .i64)) tabOk follows Tryz.func147 [.t 4] hdeI (.s .z (.s .z (.s (.b (.s (.r [(3, .g 3)] []) (.s .z (.s .z (.s (.s (.r [(3, .c qux.b)] []) .z) .z))))) (.s .z (.s .z (.s .z (.s .z (.s .z (.s (.b .x) .z))))))))) S9_ qhf (fun f v => f (v.s 0 0) (v.s 4 0)) (by kernel_rfl) (by kernel_rfl) (by kernel_rfl) fun _ => (by kernel_rfl)
def qks (v0 v1 : List UInt8) : Option Int :=
  (oB (qsc v0 v1) fun r1 => (some r1))
def qnc := hull qks
theorem q7h : qnc = qks := qa _
def qvi {R : Type} : EntF Tryz.prog R := entB (nt := 8) (dec := (decI .i64)) (enc := (AV.int .i64)) tabOk follows Tryz.func131 [.t 4] hdeI (.s .z (.s (.r [(2, .c q16.b)] []) .z)) S9_ qks (fun f v => f (v.s 0 0) (v.s 4 0)) (by kernel_rfl) (by kernel_rfl) (by kernel_rfl) fun _ => (by kernel_rfl)
def S11_ : Shp := ⟨[(0, .one (.l .s)), (1, .one (.l .s)), (5, .one (.l (.i .i64)))], []⟩
def qp8  (v0 v1 : List UInt8) (v5 : Int) (next : (List UInt8) → Int → Option Int) : Option Int :=
  (oB (qnc v0 v1) fun r1 => (bif (r1 == (-1 : Int)) then (some v5) else (oB (cutI v0 (some (IntKind.i64.wrap (r1 + (v1.length : Int)))) none) fun s2 => (next s2 (IntKind.i64.wrap (v5 + (1 : Int)))))))
def qkk  (v1 : List UInt8) : Nat → (List UInt8) → Int → Option Int
  | 0 => (fun _ _ => none)
  | n + 1 => (fun v0 v5 => qp8 v0 v1 v5 (qkk v1 n))
def q5v := hull (qkk)
def q17 : SubB Tryz.prog (TIof Tryz.prog) 34 0 (kret [.t 4] (decI .i64)) := lpB tabOk follows Tryz.f130 79 (.b (.s (.r [(2, .c qvi.b)] []) (.s .z (.s .z (.v [.sel [0, 1, 5] []]))))) S11_ (qkk) (fun f v K n => f (v.s 4 0) n) (fun v f K => qp8 (v.s 0 0) (v.s 4 0) (v.i 20 0) f) (fun f v => f (v.s 0 0) (v.i 20 0)) (fun k v => (fun z0 z1 => k ((v.us 0 0 z0).ui 20 0 z1))) (by kernel_rfl) (fun _ _ => (by kernel_rfl)) (fun _ _ _ => (by kernel_rfl)) (fun _ _ _ => (by kernel_rfl)) (fun _ _ => (by kernel_rfl)) (fun _ _ _ _ _ => (by kernel_rfl))
def qkt (v0 v1 : List UInt8) : Option Int :=
  (bif ((v1.length : Int) == (0 : Int)) then none else (bif ((v1.length : Int) == (1 : Int)) then (oB (ixB v1 (0 : Int)) fun c1 => (oB (qte v0 (c1.toNat : Int)) fun r2 => (some r2))) else (q5v v1 FU v0 (0 : Int))))
def qry := hull qkt
theorem q7i : qry = qkt := qa _
def q8r {R : Type} : EntF Tryz.prog R := entB (nt := 34) (dec := (decI .i64)) (enc := (AV.int .i64)) tabOk follows Tryz.func130 [.t 4] hdeI (.s .z (.s (.s .z (.s (.s (.r [(1, .c (eK (qbai (f := 144))))] []) .z) .z)) (.s (.s .z (.s (.s (.r [(3, .c (eK qbd6))] []) .z) .z)) (.s .z (.b (.sub [.sel [0, 1, 5] []] q17 [])))))) S9_ qkt (fun f v => f (v.s 0 0) (v.s 4 0)) (by kernel_rfl) (by kernel_rfl) (by kernel_rfl) fun _ => (by kernel_rfl)
def S12_ : Shp := ⟨[(0, .one (.l .s)), (1, .one (.l .s)), (2, .one (.l (.i .i64))), (3, .one (.l (.i .i64)))], []⟩
def S13_ : Shp := ⟨[(0, .one (.l .s)), (1, .one (.l .s)), (2, .one (.l (.i .i64))), (3, .one (.l (.i .i64))), (9, .one (.own 0)), (10, .one (.l (.i .i64)))], [.arr true 1]⟩
def quy  (v0 v1 : List UInt8) (v2 : Int) (K : Ex → Env → Mem → Option (List AV)) := (fun z_v3 => K .norm (qe [(0, (.str v0)), (1, (.str v1)), (2, (.int .i64 v2)), (3, (.int .i64 z_v3))]) (qd []))
def qfw  (v0 v1 : List UInt8) (v2 v3 : Int) (kn : Int → Option (List AV)) : Option (List AV) :=
  (bif (decide (v3 < (0 : Int))) then (oB (qry v0 v1) fun r1 => (kn (IntKind.i64.wrap (r1 + (1 : Int))))) else (kn v3))
def qox := hull (qfw)
theorem quz : qox = qfw := qa _
def qwk : SubB Tryz.prog (TIof Tryz.prog) 66 0 (kret [.t 8] (decX (.one (.sl 1)) fun z => aL z)) := jnB tabOk follows Tryz.f98 23 (.s .z (.s (.r [(2, .c q8r.b)] [.sel [0, 1, 2, 3] []]) (.v [.sel [0, 1, 2, 3] []]))) S12_ (qfw) (fun f v K => f (v.s 0 0) (v.s 4 0) (v.i 8 0) (v.i 12 0) (quy (v.s 0 0) (v.s 4 0) (v.i 8 0) K)) (by kernel_rfl) (fun _ _ => (by kernel_rfl))
def qlb  (K : Ex → Env → Mem → Option (List AV)) := (fun z_v0 z_v10 z_a0 => K (.exit 0) (qe [(0, (.str z_v0)), (9, (.own 0 z_a0.length)), (10, (.int .i64 z_v10))]) (qd [(some (.arr true 1 z_a0))]))
def qc7  (v0 v1 : List UInt8) (v2 v3 v10 : Int) (a0 : List AV) (next : (List UInt8) → Int → (List AV) → Option (List AV)) (kx0 : (List UInt8) → Int → (List AV) → Option (List AV)) : Option (List AV) :=
  (bif (decide (v10 < v3)) then (oB (qnc v0 v1) fun r1 => (bif (decide (r1 < (0 : Int))) then (kx0 v0 v10 a0) else (oB (cutI v0 none (some (IntKind.i64.wrap (r1 + v2)))) fun s2 => (bif hd a0 a0.length then (bif decide (0 ≤ v10 ∧ v10 < a0.length) then (bif hd a0 a0.length then (oB (a0[v10.toNat]?) fun y3 => (oB (putE y3 0 1 [(.str s2)]) fun z4 => (oB (cutI v0 (some (IntKind.i64.wrap (r1 + (v1.length : Int)))) none) fun s5 => (bif hd (a0.set v10.toNat z4) a0.length then (next s5 (IntKind.i64.wrap (v10 + (1 : Int))) (a0.set v10.toNat z4)) else none)))) else none) else none) else none)))) else (kx0 v0 v10 a0))
def qcd  (v1 : List UInt8) (v2 v3 : Int) (kx0 : (List UInt8) → Int → (List AV) → Option (List AV)) : Nat → (List UInt8) → Int → (List AV) → Option (List AV)
  | 0 => (fun _ _ _ => none)
  | n + 1 => (fun v0 v10 a0 => qc7 v0 v1 v2 v3 v10 a0 (qcd v1 v2 v3 kx0 n) kx0)
def qoy := hull (qcd)
theorem qu0 : qoy = qcd := qa _
def qwl : SubB Tryz.prog (TIof Tryz.prog) 66 0 (kret [.t 8] (decX (.one (.sl 1)) fun z => aL z)) := lpB tabOk follows Tryz.f98 2303 (.s (.s .z (.s .z (.v [.sel [0, 9, 10] [0]]))) (.b (.s (.r [(2, .c qvi.b)] []) (.s (.s .z (.s (.v [.sel [0, 9, 10] [0]]) .z)) (.s .z (.s .z (.v [.hd 9, .sel [0, 1, 2, 3, 9, 10] [0]]))))))) S13_ (qcd) (fun f v K n => f (v.s 4 0) (v.i 8 0) (v.i 12 0) (qlb K) n) (fun v f K => qc7 (v.s 0 0) (v.s 4 0) (v.i 8 0) (v.i 12 0) (v.i 40 0) (v.r 0) f (qlb K)) (fun f v => f (v.s 0 0) (v.i 40 0) (v.r 0)) (fun k v => (fun z0 z1 z2 => k (((v.us 0 0 z0).ui 40 0 z1).ur 0 z2))) (by kernel_rfl) (fun _ _ => (by kernel_rfl)) (fun _ _ _ => (by kernel_rfl)) (fun _ _ _ => (by kernel_rfl)) (fun _ _ => (by kernel_rfl)) (fun _ _ _ _ _ => (by kernel_rfl))
def qhy (v0 v1 : List UInt8) (v2 v3 : Int) : Option (List AV) :=
  (bif (v3 == (0 : Int)) then (some ([] : List AV)) else (bif (v1 == ([] : List UInt8)) then none else (qox v0 v1 v2 v3 (fun v3q1 => (bif decide (0 ≤ (if (IntKind.i64.wrap ((v0.length : Int) + (1 : Int))) < v3q1 then (IntKind.i64.wrap ((v0.length : Int) + (1 : Int))) else v3q1) ∧ (if (IntKind.i64.wrap ((v0.length : Int) + (1 : Int))) < v3q1 then (IntKind.i64.wrap ((v0.length : Int) + (1 : Int))) else v3q1) ≤ (if (IntKind.i64.wrap ((v0.length : Int) + (1 : Int))) < v3q1 then (IntKind.i64.wrap ((v0.length : Int) + (1 : Int))) else v3q1) ∧ (if (IntKind.i64.wrap ((v0.length : Int) + (1 : Int))) < v3q1 then (IntKind.i64.wrap ((v0.length : Int) + (1 : Int))) else v3q1) * 16 ≤ 281474976710656) then (bif (hd (List.replicate (if (IntKind.i64.wrap ((v0.length : Int) + (1 : Int))) < v3q1 then (IntKind.i64.wrap ((v0.length : Int) + (1 : Int))) else v3q1).toNat ((.str ([] : List UInt8)) : AV)) ((List.replicate (if (IntKind.i64.wrap ((v0.length : Int) + (1 : Int))) < v3q1 then (IntKind.i64.wrap ((v0.length : Int) + (1 : Int))) else v3q1).toNat ((.str ([] : List UInt8)) : AV)).length) && true) then (qoy v1 v2 (IntKind.i64.wrap ((if (IntKind.i64.wrap ((v0.length : Int) + (1 : Int))) < v3q1 then (IntKind.i64.wrap ((v0.length : Int) + (1 : Int))) else v3q1) - (1 : Int))) (fun v0q2 v10q3 a0q4 => (bif hd a0q4 a0q4.length then (bif decide (0 ≤ v10q3 ∧ v10q3 < a0q4.length) then (bif hd a0q4 a0q4.length then (oB (a0q4[v10q3.toNat]?) fun y5 => (oB (putE y5 0 1 [(.str v0q2)]) fun z6 => (bif hd (a0q4.set v10q3.toNat z6) a0q4.length then (oB (cutI (a0q4.set v10q3.toNat z6) none (some (IntKind.i64.wrap (v10q3 + (1 : Int))))) fun s7 => (some s7)) else none))) else none) else none) else none)) FU v0 (0 : Int) (List.replicate (if (IntKind.i64.wrap ((v0.length : Int) + (1 : Int))) < v3q1 then (IntKind.i64.wrap ((v0.length : Int) + (1 : Int))) else v3q1).toNat ((.str ([] : List UInt8)) : AV))) else none) else none)))))
def qtq := hull qhy
theorem q18 : qtq = qhy := qa _
def q27 {R : Type} : EntF Tryz.prog R := entB (nt := 66) (dec := (decX (.one (.sl 1)) fun z => aL z)) (enc := (fun r => .sl 1 r)) tabOk follows Tryz.func98 [.t 8] (hdeX fun _ => rfl) (.s .z (.s (.s .z (.s (.s .z (.v [.eta 8 (.one (.sl 1))])) .z)) (.s (.s .z (.s (.s (.r [(2, .c (eK (qbai (f := 129))))] []) .z) .z)) (.s (.sub [.sel [0, 1, 2, 3] []] qwk []) (.s .z (.s .z (.s .z (.s .z (.s (.b (.sub [.sel [0, 1, 2, 3, 9, 10] [0]] qwl [])) .z))))))))) S12_ qhy (fun f v => f (v.s 0 0) (v.s 4 0) (v.i 8 0) (v.i 12 0)) (by kernel_rfl) (by kernel_rfl) (by kernel_rfl) fun _ => (by kernel_rfl)
def qku (v0 v1 : List UInt8) : Option (List AV) :=
  (oB (qtq v0 v1 (0 : Int) (-1 : Int)) fun r1 => (some r1))
def qnd := hull qku
theorem q7j : qnd = qku := qa _
def qvj {R : Type} : EntF Tryz.prog R := entB (nt := 8) (dec := (decX (.one (.sl 1)) fun z => aL z)) (enc := (fun r => .sl 1 r)) tabOk follows Tryz.func68 [.t 4] (hdeX fun _ => rfl) (.s .z (.s (.r [(2, .k q27.b)] []) .z)) S9_ qku (fun f v => f (v.s 0 0) (v.s 4 0)) (by kernel_rfl) (by kernel_rfl) (by kernel_rfl) fun _ => (by kernel_rfl)
def S14_ : Shp := ⟨[(0, .one (.l .s)), (4, .one (.l (.i .u8))), (13, .one (.l (.i .i64))), (14, .one (.l (.i .i64)))], []⟩
def S15_ : Shp := ⟨[(0, .one (.l .s)), (13, .one (.l (.i .i64))), (14, .one (.l (.i .i64)))], []⟩
def S16_ : Shp := ⟨[(0, .one (.l .s))], []⟩
def qw7  (v0 : List UInt8) (v13 v14 : Int) (K : Ex → Env → Mem → Option Bool) := (fun z_v41 => K .norm (qe [(0, (.str v0)), (13, (.int .i64 v13)), (14, (.int .i64 v14)), (41, (.bool z_v41))]) (qd []))
def qgm  (v0 : List UInt8) (v4 v13 v14 : Int) (kn : Bool → Option Bool) : Option Bool :=
  (bif ((decide (v4 < (97 : Int))) || (decide (v4 > (122 : Int)))) then (bif (decide (v4 < (48 : Int))) then (kn ((v4 != (45 : Int)) && (v4 != (95 : Int)))) else (kn (((decide (v4 > (57 : Int))) && (v4 != (45 : Int))) && (v4 != (95 : Int))))) else (kn false))
def qlc := hull (qgm)
theorem qw8 : qlc = qgm := qa _
def qzb : SubB Tryz.prog (TIof Tryz.prog) 43 0 (kret [.t 2] decB) := jnB tabOk follows Tryz.f69 11467 (.r [(3, .g 2), (15, .g 2), (19, .g 2)] [.sel [0, 13, 14, 41] []]) S14_ (qgm) (fun f v K => f (v.s 0 0) (v.i 16 0) (v.i 52 0) (v.i 56 0) (qw7 (v.s 0 0) (v.i 52 0) (v.i 56 0) K)) (by kernel_rfl) (fun _ _ => (by kernel_rfl))
def qm3  (K : Ex → Env → Mem → Option Bool) := (fun (_ : Unit) => K (.exit 0) (qe []) (qd []))
def qej  (v0 : List UInt8) (v13 v14 : Int) (next : Int → Option Bool) (kx0 : Unit → Option Bool) : Option Bool :=
  (bif (decide (v14 < v13)) then (oB (ixB v0 v14) fun c1 => (qlc v0 (c1.toNat : Int) v13 v14 (fun v41q2 => (bif v41q2 then (some false) else (next (IntKind.i64.wrap (v14 + (1 : Int)))))))) else (kx0 ()))
def qek  (v0 : List UInt8) (v13 : Int) (kx0 : Unit → Option Bool) : Nat → Int → Option Bool
  | 0 => (fun _ => none)
  | n + 1 => (fun v14 => qej v0 v13 v14 (qek v0 v13 kx0 n) kx0)
def qrc := hull (qek)
theorem qw9 : qrc = qek := qa _
def qzc : SubB Tryz.prog (TIof Tryz.prog) 43 0 (kret [.t 2] decB) := lpB tabOk follows Tryz.f69 75 (.s .z (.s (.s .z (.v [.sel [] []])) (.s (.b (.s .z (.s .z (.s (.sub [.sel [0, 4, 13, 14] []] qzb []) .z)))) (.v [.sel [0, 13, 14] []])))) S15_ (qek) (fun f v K n => f (v.s 0 0) (v.i 52 0) (qm3 K) n) (fun v f K => qej (v.s 0 0) (v.i 52 0) (v.i 56 0) f (qm3 K)) (fun f v => f (v.i 56 0)) (fun k v => (fun z0 => k (v.ui 56 0 z0))) (by kernel_rfl) (fun _ _ => (by kernel_rfl)) (fun _ _ _ => (by kernel_rfl)) (fun _ _ _ => (by kernel_rfl)) (fun _ _ => (by kernel_rfl)) (fun _ _ _ _ _ => (by kernel_rfl))
def qjg (v0 : List UInt8) : Option Bool :=
  (bif ((v0 == ([] : List UInt8)) || (decide ((v0.length : Int) > (63 : Int)))) then (some false) else (qrc v0 (v0.length : Int) (fun (_ : Unit) => (some true)) FU (0 : Int)))
def qql := hull qjg
theorem q5w : qql = qjg := qa _
def q7k {R : Type} : EntF Tryz.prog R := entB (nt := 43) (dec := decB) (enc := AV.bool) tabOk follows Tryz.func69 [.t 2] hdeB (.s .z (.s (.s (.r [(3, .g 3)] []) .z) (.s (.s .z (.b (.sub [.sel [0, 13, 14] []] qzc []))) .z))) S16_ qjg (fun f v => f (v.s 0 0)) (by kernel_rfl) (by kernel_rfl) (by kernel_rfl) fun _ => (by kernel_rfl)
def S17_ : Shp := ⟨[(3, .one (.l (.i .i64))), (4, .one (.l .s)), (20, .one (.l (.sl 1))), (21, .one (.l (.i .i64))), (22, .one (.l (.i .i64)))], []⟩
def S18_ : Shp := ⟨[(20, .one (.l (.sl 1))), (21, .one (.l (.i .i64))), (22, .one (.l (.i .i64)))], []⟩
def q28  (v0 : List UInt8) (K : Ex → Env → Mem → Option Bool) := (fun z_v14 => K .norm (qe [(0, (.str v0)), (14, (.bool z_v14))]) (qd []))
def qiq  (v0 : List UInt8) (kn : Bool → Option Bool) : Option Bool :=
  (bif (decide ((v0.length : Int) ≥ (255 : Int))) then (kn true) else (oB (qms v0 ([46] : List UInt8)) fun r1 => (kn (!r1))))
def qvk := hull (qiq)
theorem q29 : qvk = qiq := qa _
def q5x : SubB Tryz.prog (TIof Tryz.prog) 39 0 (kret [.t 2] decB) := jnB tabOk follows Tryz.f52 19 (.r [(5, .c q15.b)] [.sel [0, 14] []]) S16_ (qiq) (fun f v K => f (v.s 0 0) (q28 (v.s 0 0) K)) (by kernel_rfl) (fun _ _ => (by kernel_rfl))
def q3a  (v20 : List AV) (v21 v22 : Int) (K : Ex → Env → Mem → Option Bool) := (fun z_v37 => K .norm (qe [(20, (.sl 1 v20)), (21, (.int .i64 v21)), (22, (.int .i64 v22)), (37, (.bool z_v37))]) (qd []))
def qir  (v3 : Int) (v4 : List UInt8) (v20 : List AV) (v21 v22 : Int) (kn : Bool → Option Bool) : Option Bool :=
  (oB (qql v4) fun r1 => (bif (!r1) then (bif (decide (v3 > (0 : Int))) then (kn true) else (kn (!(v4 == ([42] : List UInt8))))) else (kn false)))
def qvl := hull (qir)
theorem q3b : qvl = qir := qa _
def q5y : SubB Tryz.prog (TIof Tryz.prog) 39 0 (kret [.t 2] decB) := jnB tabOk follows Tryz.f52 10647 (.r [(1, .c q7k.b)] [.sel [20, 21, 22, 37] []]) S17_ (qir) (fun f v K => f (v.i 12 0) (v.s 16 0) (v.l 80 0) (v.i 84 0) (v.i 88 0) (q3a (v.l 80 0) (v.i 84 0) (v.i 88 0) K)) (by kernel_rfl) (fun _ _ => (by kernel_rfl))
def qp9  (K : Ex → Env → Mem → Option Bool) := (fun (_ : Unit) => K (.exit 0) (qe []) (qd []))
def qgg  (v20 : List AV) (v21 v22 : Int) (next : Int → Option Bool) (kx0 : Unit → Option Bool) : Option Bool :=
  (bif (decide (v22 < v21)) then (oB (ixB v20 v22) fun y1 => (bif fitC [.s] y1.cells then (qvl v22 (gS y1.cells 0) v20 v21 v22 (fun v37q2 => (bif v37q2 then (some false) else (next (IntKind.i64.wrap (v22 + (1 : Int))))))) else none)) else (kx0 ()))
def qgh  (v20 : List AV) (v21 : Int) (kx0 : Unit → Option Bool) : Nat → Int → Option Bool
  | 0 => (fun _ => none)
  | n + 1 => (fun v22 => qgg v20 v21 v22 (qgh v20 v21 kx0 n) kx0)
def qoz := hull (qgh)
theorem q3c : qoz = qgh := qa _
def q5z : SubB Tryz.prog (TIof Tryz.prog) 39 0 (kret [.t 2] decB) := lpB tabOk follows Tryz.f52 151 (.s .z (.s (.s .z (.v [.sel [] []])) (.s (.b (.s (.r [(1, .p (.etac 25 [.s]))] []) (.s (.sub [.sel [3, 4, 20, 21, 22] []] q5y []) .z))) (.v [.sel [20, 21, 22] []])))) S18_ (qgh) (fun f v K n => f (v.l 80 0) (v.i 84 0) (qp9 K) n) (fun v f K => qgg (v.l 80 0) (v.i 84 0) (v.i 88 0) f (qp9 K)) (fun f v => f (v.i 88 0)) (fun k v => (fun z0 => k (v.ui 88 0 z0))) (by kernel_rfl) (fun _ _ => (by kernel_rfl)) (fun _ _ _ => (by kernel_rfl)) (fun _ _ _ => (by kernel_rfl)) (fun _ _ => (by kernel_rfl)) (fun _ _ _ _ _ => (by kernel_rfl))
def qne (v0 : List UInt8) : Option Bool :=
  (bif (v0 == ([46] : List UInt8)) then (some true) else (qvk v0 (fun v14q1 => (bif v14q1 then (some false) else (oB (cutI v0 none (some (IntKind.i64.wrap ((v0.length : Int) - (1 : Int))))) fun s2 => (oB (qnd s2 ([46] : List UInt8)) fun r3 => (qoz r3 (r3.length : Int) (fun (_ : Unit) => (some true)) FU (0 : Int))))))))
def qil := hull qne
theorem qbav : qil = qne := qa _
def qnf {R : Type} : EntF Tryz.prog R := entB (nt := 39) (dec := decB) (enc := AV.bool) tabOk follows Tryz.func52 [.t 2] hdeB (.s .z (.s .z (.s (.s (.sub [.sel [0] []] q5x []) .z) (.s (.s (.r [(5, .k qvj.b)] []) (.b (.sub [.sel [20, 21, 22] []] q5z []))) .z)))) S16_ qne (fun f v => f (v.s 0 0)) (by kernel_rfl) (by kernel_rfl) (by kernel_rfl) fun _ => (by kernel_rfl)
theorem qbmy {R : Type} : qp5 Tryz.prog 54 (q48 (R := R)) := qbo4 Tryz.laysItoa (List.mem_singleton.2 rfl)
def S19_ : Shp := ⟨[(0, .one (.l (.i .u64))), (3, .one (.own 0)), (7, .one (.l (.i .i64))), (8, .one (.l (.i .i64)))], [.arr true 1]⟩
def S20_ : Shp := ⟨[(0, .one (.l (.i .u64)))], []⟩
def qrd  (K : Ex → Env → Mem → Option (List UInt8)) := (fun z_a0 => K (.exit 0) (qe [(3, (.own 0 z_a0.length))]) (qd [(some (.arr true 1 z_a0))]))
def qg3  (v0 v7 v8 : Int) (a0 : List AV) (next : Int → (List AV) → Option (List UInt8)) (kx0 : (List AV) → Option (List UInt8)) : Option (List UInt8) :=
  (bif (decide (v8 < v7)) then (bif decide ((IntKind.u64.wrap (IntKind.i64.wrap ((8 : Int) * v8))) < 0) then none else (bif hd a0 a0.length then (bif decide (0 ≤ (IntKind.i64.wrap ((7 : Int) - v8)) ∧ (IntKind.i64.wrap ((7 : Int) - v8)) < a0.length) then (bif hd a0 a0.length then (oB (a0[(IntKind.i64.wrap ((7 : Int) - v8)).toNat]?) fun y1 => (oB (putE y1 0 1 [(.int .u8 (IntKind.u8.wrap (v0.fdiv (2 ^ min (IntKind.u64.wrap (IntKind.i64.wrap ((8 : Int) * v8))).toNat IntKind.u64.bits))))]) fun z2 => (bif hd (a0.set ((IntKind.i64.wrap ((7 : Int) - v8)).toNat) z2) a0.length then (next (IntKind.i64.wrap (v8 + (1 : Int))) (a0.set ((IntKind.i64.wrap ((7 : Int) - v8)).toNat) z2)) else none))) else none) else none) else none)) else (kx0 a0))
def qg4  (v0 v7 : Int) (kx0 : (List AV) → Option (List UInt8)) : Nat → Int → (List AV) → Option (List UInt8)
  | 0 => (fun _ _ => none)
  | n + 1 => (fun v8 a0 => qg3 v0 v7 v8 a0 (qg4 v0 v7 kx0 n) kx0)
def qxa := hull (qg4)
theorem q50 : qxa = qg4 := qa _
def q7l : SubB Tryz.prog (TIof Tryz.prog) 24 0 (kret [.t 2] decS) := lpB tabOk follows Tryz.f70 75 (.s .z (.s (.s .z (.v [.sel [3] [0]])) (.s .z (.v [.hd 3, .sel [0, 3, 7, 8] [0]])))) S19_ (qg4) (fun f v K n => f (v.i 0 0) (v.i 28 0) (qrd K) n) (fun v f K => qg3 (v.i 0 0) (v.i 28 0) (v.i 32 0) (v.r 0) f (qrd K)) (fun f v => f (v.i 32 0) (v.r 0)) (fun k v => (fun z0 z1 => k ((v.ui 32 0 z0).ur 0 z1))) (by kernel_rfl) (fun _ _ => (by kernel_rfl)) (fun _ _ _ => (by kernel_rfl)) (fun _ _ _ => (by kernel_rfl)) (fun _ _ => (by kernel_rfl)) (fun _ _ _ _ _ => (by kernel_rfl))
def qng (v0 : Int) : Option (List UInt8) :=
  (bif decide (0 ≤ (8 : Int) ∧ (8 : Int) ≤ (8 : Int) ∧ (8 : Int) * 1 ≤ 281474976710656) then (bif (hd (List.replicate (8 : Int).toNat ((.int .u8 (0 : Int)) : AV)) ((List.replicate (8 : Int).toNat ((.int .u8 (0 : Int)) : AV)).length) && true) then (qxa v0 (((List.replicate (8 : Int).toNat ((.int .u8 (0 : Int)) : AV)).length) : Int) (fun a0q1 => (bif hd a0q1 a0q1.length then (oB (qy a0q1) fun s2 => (some s2)) else none)) FU (0 : Int) (List.replicate (8 : Int).toNat ((.int .u8 (0 : Int)) : AV))) else none) else none)
def qq1 := hull qng
theorem qbaw : qq1 = qng := qa _
def q1n {R : Type} : EntF Tryz.prog R := entB (nt := 24) (dec := decS) (enc := AV.str) tabOk follows Tryz.func70 [.t 2] hdeS (.s .z (.s .z (.s (.s .z (.b (.sub [.sel [0, 3, 7, 8] [0]] q7l []))) .z))) S20_ qng (fun f v => f (v.i 0 0)) (by kernel_rfl) (by kernel_rfl) (by kernel_rfl) fun _ => (by kernel_rfl)
def S21_ : Shp := ⟨[(0, .one (.l .s)), (3, .one (.l (.i .u64))), (4, .one (.l (.i .i64)))], []⟩
def S22_ : Shp := ⟨[(3, .one (.l (.i .u64))), (18, .one (.l (.i .i64)))], []⟩
def qsd  (K : Ex → Env → Mem → Option Int) := (fun z_v3 => K (.exit 0) (qe [(3, (.int .u64 z_v3))]) (qd []))
def qhz  (v0 : List UInt8) (v3 v4 : Int) (next : Int → Int → Option Int) (kx0 : Int → Option Int) : Option Int :=
  (bif (decide (v4 < (v0.length : Int))) then (oB (ixB v0 v4) fun c1 => (next (IntKind.u64.wrap ((qdm .xor .u64 v3 (IntKind.u64.wrap (c1.toNat : Int))) * (1099511628211 : Int))) (IntKind.i64.wrap (v4 + (1 : Int))))) else (kx0 v3))
def qh0  (v0 : List UInt8) (kx0 : Int → Option Int) : Nat → Int → Int → Option Int
  | 0 => (fun _ _ => none)
  | n + 1 => (fun v3 v4 => qhz v0 v3 v4 (qh0 v0 kx0 n) kx0)
def q1o := hull (qh0)
theorem q7m : q1o = qh0 := qa _
def q8s : SubB Tryz.prog (TIof Tryz.prog) 27 0 (kret [.t 2] (decI .u64)) := lpB tabOk follows Tryz.f71 75 (.s (.s .z (.s .z (.v [.sel [3] []]))) (.s .z (.v [.sel [0, 3, 4] []]))) S21_ (qh0) (fun f v K n => f (v.s 0 0) (qsd K) n) (fun v f K => qhz (v.s 0 0) (v.i 12 0) (v.i 16 0) f (qsd K)) (fun f v => f (v.i 12 0) (v.i 16 0)) (fun k v => (fun z0 z1 => k ((v.ui 12 0 z0).ui 16 0 z1))) (by kernel_rfl) (fun _ _ => (by kernel_rfl)) (fun _ _ _ => (by kernel_rfl)) (fun _ _ _ => (by kernel_rfl)) (fun _ _ => (by kernel_rfl)) (fun _ _ _ _ _ => (by kernel_rfl))
def qre  (K : Ex → Env → Mem → Option Int) := (fun z_v3 => K (.exit 2) (qe [(3, (.int .u64 z_v3))]) (qd []))
def qfq  (v3 v18 : Int) (next : Int → Int → Option Int) (kx2 : Int → Option Int) : Option Int :=
  (bif (decide (v18 < (3 : Int))) then (next (IntKind.u64.wrap ((qdm .xor .u64 v3 (v3.fdiv (2 ^ min (32 : Int).toNat IntKind.u64.bits))) * (11400714819323198485 : Int))) (IntKind.i64.wrap (v18 + (1 : Int)))) else (kx2 v3))
def qdo  (kx2 : Int → Option Int) : Nat → Int → Int → Option Int
  | 0 => (fun _ _ => none)
  | n + 1 => (fun v3 v18 => qfq v3 v18 (qdo kx2 n) kx2)
def qi3 := hull (qdo)
theorem q51 : qi3 = qdo := qa _
def q7n : SubB Tryz.prog (TIof Tryz.prog) 27 0 (kret [.t 2] (decI .u64)) := lpB tabOk follows Tryz.f71 151 (.s .z (.s (.s .z (.v [.sel [3] []])) (.s .z (.v [.sel [3, 18] []])))) S22_ (qdo) (fun f v K n => f (qre K) n) (fun v f K => qfq (v.i 12 0) (v.i 72 0) f (qre K)) (fun f v => f (v.i 12 0) (v.i 72 0)) (fun k v => (fun z0 z1 => k ((v.ui 12 0 z0).ui 72 0 z1))) (by kernel_rfl) (fun _ _ => (by kernel_rfl)) (fun _ _ _ => (by kernel_rfl)) (fun _ _ _ => (by kernel_rfl)) (fun _ _ => (by kernel_rfl)) (fun _ _ _ _ _ => (by kernel_rfl))
def qo0 (v0 : List UInt8) : Option Int :=
  (q1o v0 (fun v3q1 => (qi3 (fun v3q2 => (some v3q2)) FU v3q1 (0 : Int))) FU (14695981039346656037 : Int) (0 : Int))
def qzd := hull qo0
theorem qbc6 : qzd = qo0 := qa _
def qbd8 {R : Type} : EntF Tryz.prog R := entB (nt := 27) (dec := (decI .u64)) (enc := (AV.int .u64)) tabOk follows Tryz.func71 [.t 2] hdeI (.s .z (.s .z (.s (.s .z (.b (.sub [.sel [0, 3, 4] []] q8s []))) (.s (.s .z (.b (.sub [.sel [3, 18] []] q7n []))) .z)))) S16_ qo0 (fun f v => f (v.s 0 0)) (by kernel_rfl) (by kernel_rfl) (by kernel_rfl) fun _ => (by kernel_rfl)
def qo1 (v0 v1 : List UInt8) : Option (List UInt8) :=
  (oB (qq1 (IntKind.u64.wrap (v0.length : Int))) fun r1 => (bif decide (r1.length + v0.length ≤ 9223372036854775807) then (bif decide ((r1 ++ v0).length + v1.length ≤ 9223372036854775807) then (oB (qzd ((r1 ++ v0) ++ v1)) fun r2 => (oB (qq1 r2) fun r3 => (some r3))) else none) else none))
def qze := hull qo1
theorem qbc7 : qze = qo1 := qa _
def qbd9 {R : Type} : EntF Tryz.prog R := entB (nt := 15) (dec := decS) (enc := AV.str) tabOk follows Tryz.func53 [.t 4] hdeS (.s .z (.s (.r [(3, .c q1n.b), (8, .c qbd8.b), (9, .c q1n.b)] []) .z)) S9_ qo1 (fun f v => f (v.s 0 0) (v.s 4 0)) (by kernel_rfl) (by kernel_rfl) (by kernel_rfl) fun _ => (by kernel_rfl)
def qc3 : List LT := [.s, .b, (.i .i64)]
def qg5 (x0 : List UInt8) (x1 : Bool) (x2 : Int) : List AV := [.str x0, .bool x1, .int .i64 x2]
def qca : List LT := [.b, (.i .u64), (.i .u64), .s, .s, .s, (.i .i64), (.i .i64), (.i .i64), (.i .i64), (.i .i64), (.i .i64), (.i .u64)]
def q8 (x0 : Bool) (x1 x2 : Int) (x3 x4 x5 : List UInt8) (x6 x7 x8 x9 x10 x11 x12 : Int) : List AV := [.bool x0, .int .u64 x1, .int .u64 x2, .str x3, .str x4, .str x5, .int .i64 x6, .int .i64 x7, .int .i64 x8, .int .i64 x9, .int .i64 x10, .int .i64 x11, .int .u64 x12]
def S23_ : Shp := ⟨[(1, .one (.ptr 0 0)), (2, .one (.ptr 1 0))], [.box true (lk qc3), .box true (lk qca)]⟩
def S24_ : Shp := ⟨[(1, .one (.ptr 0 0)), (2, .one (.ptr 1 0)), (4, .one (.l (.i .i64))), (5, .one (.l .s))], [.box true (lk qc3), .box true (lk qca)]⟩
def S25_ : Shp := ⟨[(0, .st (lk qc3))], []⟩
def qo2 : AV → Option (AV × Int) := decN [(.st [.b, (.i .u64), (.i .u64), .s, .s, .s, (.i .i64), (.i .i64), (.i .i64), (.i .i64), (.i .i64), (.i .i64), (.i .u64)]), (.one (.i .i64))] fun z => ((gC (tpL z) 0), aI (gC (tpL z) 1))
def q52  (Al : List UInt8) (Am : Bool) (An : Int) (Ao : Bool) (Ap Aq : Int) (Ar As At : List UInt8) (Au Av Aw Ax Ay Az A0 : Int) (K : Ex → Env → Mem → Option (AV × Int)) := (fun z_v15 => K .norm (qe [(1, (.ptr 0 0)), (2, (.ptr 1 0)), (15, (.bool z_v15))]) (qd [(some (.box true (qg5 Al Am An))), (some (.box true (q8 Ao Ap Aq Ar As At Au Av Aw Ax Ay Az A0)))]))
def qjh  (Al : List UInt8) (Am : Bool) (An : Int) (Ao : Bool) (Ap Aq : Int) (Ar As At : List UInt8) (Au Av Aw Ax Ay Az A0 : Int) (kn : Bool → Option (AV × Int)) : Option (AV × Int) :=
  (oB (qil Al) fun r1 => (bif (!r1) then (kn true) else (oB (ixB Al (0 : Int)) fun c2 => (kn ((c2.toNat : Int) == (42 : Int))))))
def qxb := hull (qjh)
theorem q53 : qxb = qjh := qa _
def q7o : SubB Tryz.prog (TIof Tryz.prog) 38 0 (kret [(.cell 2 true 13), .t 3] qo2) := jnB tabOk follows Tryz.f32 9 (.r [(2, .c qnf.b)] [.sel [1, 2, 15] [0, 1]]) S23_ (qjh) (fun f v K => f (v.s 3 0) (v.b 3 1) (v.i 3 2) (v.b 7 0) (v.i 7 1) (v.i 7 2) (v.s 7 3) (v.s 7 4) (v.s 7 5) (v.i 7 6) (v.i 7 7) (v.i 7 8) (v.i 7 9) (v.i 7 10) (v.i 7 11) (v.i 7 12) (q52 (v.s 3 0) (v.b 3 1) (v.i 3 2) (v.b 7 0) (v.i 7 1) (v.i 7 2) (v.s 7 3) (v.s 7 4) (v.s 7 5) (v.i 7 6) (v.i 7 7) (v.i 7 8) (v.i 7 9) (v.i 7 10) (v.i 7 11) (v.i 7 12) K)) (by kernel_rfl) (fun _ _ => (by kernel_rfl))
def q3d  (Al : List UInt8) (Am : Bool) (An : Int) (Ao : Bool) (Ap Aq : Int) (Ar As At : List UInt8) (Au Av Aw Ax Ay Az A0 : Int) (K : Ex → Env → Mem → Option (AV × Int)) := (fun z_v4 z_v5 => K .norm (qe [(1, (.ptr 0 0)), (2, (.ptr 1 0)), (4, (.int .i64 z_v4)), (5, (.str z_v5))]) (qd [(some (.box true (qg5 Al Am An))), (some (.box true (q8 Ao Ap Aq Ar As At Au Av Aw Ax Ay Az A0)))]))
def qis  (v4 : Int) (v5 Al : List UInt8) (Am : Bool) (An : Int) (Ao : Bool) (Ap Aq : Int) (Ar As At : List UInt8) (Au Av Aw Ax Ay Az A0 : Int) (kn : Int → (List UInt8) → Option (AV × Int)) : Option (AV × Int) :=
  (bif Am then (kn (257 : Int) ([75] : List UInt8)) else (kn v4 v5))
def qvm := hull (qis)
theorem q3e : qvm = qis := qa _
def q54 : SubB Tryz.prog (TIof Tryz.prog) 38 0 (kret [(.cell 2 true 13), .t 3] qo2) := jnB tabOk follows Tryz.f32 47 (.s .z (.s (.v [.sel [1, 2, 4, 5] [0, 1]]) (.v [.sel [1, 2, 4, 5] [0, 1]]))) S24_ (qis) (fun f v K => f (v.i 16 0) (v.s 20 0) (v.s 3 0) (v.b 3 1) (v.i 3 2) (v.b 7 0) (v.i 7 1) (v.i 7 2) (v.s 7 3) (v.s 7 4) (v.s 7 5) (v.i 7 6) (v.i 7 7) (v.i 7 8) (v.i 7 9) (v.i 7 10) (v.i 7 11) (v.i 7 12) (q3d (v.s 3 0) (v.b 3 1) (v.i 3 2) (v.b 7 0) (v.i 7 1) (v.i 7 2) (v.s 7 3) (v.s 7 4) (v.s 7 5) (v.i 7 6) (v.i 7 7) (v.i 7 8) (v.i 7 9) (v.i 7 10) (v.i 7 11) (v.i 7 12) K)) (by kernel_rfl) (fun _ _ => (by kernel_rfl))
def qnh (Aa : List UInt8) (Ab : Bool) (Ac : Int) : Option (AV × Int) :=
  (qxb Aa Ab Ac false (0 : Int) (0 : Int) ([] : List UInt8) ([] : List UInt8) ([] : List UInt8) (0 : Int) (0 : Int) (0 : Int) (0 : Int) (0 : Int) (0 : Int) (0 : Int) (fun v15q1 => (bif v15q1 then (some ((.agg [(.bool false), (.int .u64 (0 : Int)), (.int .u64 (0 : Int)), (.str ([] : List UInt8)), (.str ([] : List UInt8)), (.str ([] : List UInt8)), (.int .i64 (0 : Int)), (.int .i64 (0 : Int)), (.int .i64 (0 : Int)), (.int .i64 (0 : Int)), (.int .i64 (0 : Int)), (.int .i64 (0 : Int)), (.int .u64 (0 : Int))]), (2 : Int))) else (bif ((decide (Ac < (0 : Int))) || (decide (Ac ≥ (2147483648 : Int)))) then (some ((.agg [(.bool false), (.int .u64 (0 : Int)), (.int .u64 (0 : Int)), (.str ([] : List UInt8)), (.str ([] : List UInt8)), (.str ([] : List UInt8)), (.int .i64 (0 : Int)), (.int .i64 (0 : Int)), (.int .i64 (0 : Int)), (.int .i64 (0 : Int)), (.int .i64 (0 : Int)), (.int .i64 (0 : Int)), (.int .u64 (0 : Int))]), (1 : Int))) else (qvm (256 : Int) ([90] : List UInt8) Aa Ab Ac false (0 : Int) (0 : Int) ([] : List UInt8) ([] : List UInt8) ([] : List UInt8) (0 : Int) (0 : Int) (0 : Int) (0 : Int) (0 : Int) (0 : Int) (0 : Int) (fun v4q2 v5q3 => (oB (qbam Ac) fun r4 => (bif decide (v5q3.length + r4.length ≤ 9223372036854775807) then (oB (qze Aa (v5q3 ++ r4)) fun r5 => (some ((.agg [(.bool false), (.int .u64 (0 : Int)), (.int .u64 (0 : Int)), (.str ([] : List UInt8)), (.str ([] : List UInt8)), (.str r5), (.int .i64 v4q2), (.int .i64 (3 : Int)), (.int .i64 (253 : Int)), (.int .i64 (0 : Int)), (.int .i64 (0 : Int)), (.int .i64 (0 : Int)), (.int .u64 (0 : Int))]), (0 : Int)))) else none))))))))
def qwm := hull qnh
theorem qbax : qwm = qnh := qa _
def qbc8 {R : Type} : EntF Tryz.prog R := entB (nt := 38) (dec := qo2) (enc := (fun r => .tup [qp0 (.st [.b, (.i .u64), (.i .u64), .s, .s, .s, (.i .i64), (.i .i64), (.i .i64), (.i .i64), (.i .i64), (.i .i64), (.i .u64)]) r.1, .int .i64 r.2])) tabOk follows Tryz.func32 [(.cell 2 true 13), .t 3] (hdeN fun _ => rfl) (.s .z (.s (.s (.sub [.sel [1, 2] [0, 1]] q7o []) .z) (.s (.s (.r [(4, .g 3)] []) .z) (.s .z (.s (.sub [.sel [1, 2, 4, 5] [0, 1]] q54 []) (.s (.d [] [(6, .c (eB qbmy)), (8, .c qbd9.b)] [] []) .z)))))) S25_ qnh (fun f v => f (v.s 1 0) (v.b 1 1) (v.i 1 2)) (by kernel_rfl) (by kernel_rfl) (by kernel_rfl) fun _ => (by kernel_rfl)
def qrz : Option (List AV) :=
  (bif hd ([(.agg [(.int .i64 (1 : Int)), (.str ([65] : List UInt8)), (.str ([52] : List UInt8))]), (.agg [(.int .i64 (2 : Int)), (.str ([78, 83] : List UInt8)), (.str ([104] : List UInt8))]), (.agg [(.int .i64 (5 : Int)), (.str ([67, 78, 65, 77, 69] : List UInt8)), (.str ([104] : List UInt8))]), (.agg [(.int .i64 (6 : Int)), (.str ([83, 79, 65] : List UInt8)), (.str ([104, 109, 118, 119, 120, 121, 122] : List UInt8))]), (.agg [(.int .i64 (12 : Int)), (.str ([80, 84, 82] : List UInt8)), (.str ([104] : List UInt8))]), (.agg [(.int .i64 (15 : Int)), (.str ([77, 88] : List UInt8)), (.str ([65, 104] : List UInt8))]), (.agg [(.int .i64 (16 : Int)), (.str ([84, 88, 84] : List UInt8)), (.str ([116] : List UInt8))]), (.agg [(.int .i64 (28 : Int)), (.str ([65, 65, 65, 65] : List UInt8)), (.str ([54] : List UInt8))]), (.agg [(.int .i64 (33 : Int)), (.str ([83, 82, 86] : List UInt8)), (.str ([65, 66, 67, 104] : List UInt8))]), (.agg [(.int .i64 (39 : Int)), (.str ([68, 78, 65, 77, 69] : List UInt8)), (.str ([104] : List UInt8))]), (.agg [(.int .i64 (43 : Int)), (.str ([68, 83] : List UInt8)), (.str ([65, 98, 99, 114] : List UInt8))]), (.agg [(.int .i64 (46 : Int)), (.str ([82, 82, 83, 73, 71] : List UInt8)), (.str ([65, 115, 98, 120, 121, 122, 70, 104, 114] : List UInt8))]), (.agg [(.int .i64 (47 : Int)), (.str ([78, 83, 69, 67] : List UInt8)), (.str ([104, 110] : List UInt8))]), (.agg [(.int .i64 (48 : Int)), (.str ([68, 78, 83, 75, 69, 89] : List UInt8)), (.str ([65, 98, 99, 114] : List UInt8))])] : List AV) (([(.agg [(.int .i64 (1 : Int)), (.str ([65] : List UInt8)), (.str ([52] : List UInt8))]), (.agg [(.int .i64 (2 : Int)), (.str ([78, 83] : List UInt8)), (.str ([104] : List UInt8))]), (.agg [(.int .i64 (5 : Int)), (.str ([67, 78, 65, 77, 69] : List UInt8)), (.str ([104] : List UInt8))]), (.agg [(.int .i64 (6 : Int)), (.str ([83, 79, 65] : List UInt8)), (.str ([104, 109, 118, 119, 120, 121, 122] : List UInt8))]), (.agg [(.int .i64 (12 : Int)), (.str ([80, 84, 82] : List UInt8)), (.str ([104] : List UInt8))]), (.agg [(.int .i64 (15 : Int)), (.str ([77, 88] : List UInt8)), (.str ([65, 104] : List UInt8))]), (.agg [(.int .i64 (16 : Int)), (.str ([84, 88, 84] : List UInt8)), (.str ([116] : List UInt8))]), (.agg [(.int .i64 (28 : Int)), (.str ([65, 65, 65, 65] : List UInt8)), (.str ([54] : List UInt8))]), (.agg [(.int .i64 (33 : Int)), (.str ([83, 82, 86] : List UInt8)), (.str ([65, 66, 67, 104] : List UInt8))]), (.agg [(.int .i64 (39 : Int)), (.str ([68, 78, 65, 77, 69] : List UInt8)), (.str ([104] : List UInt8))]), (.agg [(.int .i64 (43 : Int)), (.str ([68, 83] : List UInt8)), (.str ([65, 98, 99, 114] : List UInt8))]), (.agg [(.int .i64 (46 : Int)), (.str ([82, 82, 83, 73, 71] : List UInt8)), (.str ([65, 115, 98, 120, 121, 122, 70, 104, 114] : List UInt8))]), (.agg [(.int .i64 (47 : Int)), (.str ([78, 83, 69, 67] : List UInt8)), (.str ([104, 110] : List UInt8))]), (.agg [(.int .i64 (48 : Int)), (.str ([68, 78, 83, 75, 69, 89] : List UInt8)), (.str ([65, 98, 99, 114] : List UInt8))])] : List AV).length) then (some ([(.agg [(.int .i64 (1 : Int)), (.str ([65] : List UInt8)), (.str ([52] : List UInt8))]), (.agg [(.int .i64 (2 : Int)), (.str ([78, 83] : List UInt8)), (.str ([104] : List UInt8))]), (.agg [(.int .i64 (5 : Int)), (.str ([67, 78, 65, 77, 69] : List UInt8)), (.str ([104] : List UInt8))]), (.agg [(.int .i64 (6 : Int)), (.str ([83, 79, 65] : List UInt8)), (.str ([104, 109, 118, 119, 120, 121, 122] : List UInt8))]), (.agg [(.int .i64 (12 : Int)), (.str ([80, 84, 82] : List UInt8)), (.str ([104] : List UInt8))]), (.agg [(.int .i64 (15 : Int)), (.str ([77, 88] : List UInt8)), (.str ([65, 104] : List UInt8))]), (.agg [(.int .i64 (16 : Int)), (.str ([84, 88, 84] : List UInt8)), (.str ([116] : List UInt8))]), (.agg [(.int .i64 (28 : Int)), (.str ([65, 65, 65, 65] : List UInt8)), (.str ([54] : List UInt8))]), (.agg [(.int .i64 (33 : Int)), (.str ([83, 82, 86] : List UInt8)), (.str ([65, 66, 67, 104] : List UInt8))]), (.agg [(.int .i64 (39 : Int)), (.str ([68, 78, 65, 77, 69] : List UInt8)), (.str ([104] : List UInt8))]), (.agg [(.int .i64 (43 : Int)), (.str ([68, 83] : List UInt8)), (.str ([65, 98, 99, 114] : List UInt8))]), (.agg [(.int .i64 (46 : Int)), (.str ([82, 82, 83, 73, 71] : List UInt8)), (.str ([65, 115, 98, 120, 121, 122, 70, 104, 114] : List UInt8))]), (.agg [(.int .i64 (47 : Int)), (.str ([78, 83, 69, 67] : List UInt8)), (.str ([104, 110] : List UInt8))]), (.agg [(.int .i64 (48 : Int)), (.str ([68, 78, 83, 75, 69, 89] : List UInt8)), (.str ([65, 98, 99, 114] : List UInt8))])] : List AV)) else none)
def qwn := hull qrz
theorem qbay : qwn = qrz := qa _
def q1p {R : Type} : EntF Tryz.prog R := entB (nt := 16) (dec := (decF true 3)) (enc := (AV.fr true 3)) tabOk follows Tryz.func100 [.t 0] hdeF (.z) (⟨[], []⟩ : Shp) qrz (fun f v => f) (by kernel_rfl) (by kernel_rfl) (by kernel_rfl) fun _ => (by kernel_rfl)
def qg6 : List LT := [(.i .i64), .s, .s]
def qo3 (x0 : Int) (x1 x2 : List UInt8) : List AV := [.int .i64 x0, .str x1, .str x2]
def S26_ : Shp := ⟨[(0, .one (.l (.i .i64))), (2, .one (.ptr 0 0)), (6, .one (.l (.sl 3))), (7, .one (.l (.i .i64))), (8, .one (.l (.i .i64)))], [.box true (lk qg6)]⟩
def S27_ : Shp := ⟨[(0, .one (.l (.i .i64)))], []⟩
def qxc : AV → Option (AV × Bool) := decN [(.st [(.i .i64), .s, .s]), (.one .b)] fun z => ((gC (tpL z) 0), aB (gC (tpL z) 1))
def qse  (Al : Int) (Am An : List UInt8) (K : Ex → Env → Mem → Option (AV × Bool)) := (fun (_ : Unit) => K (.exit 0) (qe [(2, (.ptr 0 0))]) (qd [(some (.box true (qo3 Al Am An)))]))
def qvn  (v0 : Int) (v6 : List AV) (v7 v8 Al : Int) (Am An : List UInt8) (next : Int → Option (AV × Bool)) (kx0 : Unit → Option (AV × Bool)) : Option (AV × Bool) :=
  (bif (decide (v8 < v7)) then (oB (ixB v6 v8) fun y1 => (bif fitC qg6 y1.cells then (bif ((gI y1.cells 0) == v0) then (some ((.agg [(.int .i64 (gI y1.cells 0)), (.str (gS y1.cells 1)), (.str (gS y1.cells 2))]), true)) else (next (IntKind.i64.wrap (v8 + (1 : Int))))) else none)) else (kx0 ()))
def qkv  (v0 : Int) (v6 : List AV) (v7 Al : Int) (Am An : List UInt8) (kx0 : Unit → Option (AV × Bool)) : Nat → Int → Option (AV × Bool)
  | 0 => (fun _ => none)
  | n + 1 => (fun v8 => qvn v0 v6 v7 v8 Al Am An (qkv v0 v6 v7 Al Am An kx0 n) kx0)
def q1q := hull (qkv)
theorem q7p : q1q = qkv := qa _
def q8t : SubB Tryz.prog (TIof Tryz.prog) 19 0 (kret [(.cell 2 true 3), .t 3] qxc) := lpB tabOk follows Tryz.f73 37 (.s .z (.s (.s .z (.v [.sel [2] [0]])) (.s (.b (.s (.r [(0, .p (.etac 10 qg6))] []) .z)) (.v [.sel [0, 2, 6, 7, 8] [0]])))) S26_ (qkv) (fun f v K n => f (v.i 0 0) (v.l 24 0) (v.i 28 0) (v.i 3 0) (v.s 3 1) (v.s 3 2) (qse (v.i 3 0) (v.s 3 1) (v.s 3 2) K) n) (fun v f K => qvn (v.i 0 0) (v.l 24 0) (v.i 28 0) (v.i 32 0) (v.i 3 0) (v.s 3 1) (v.s 3 2) f (qse (v.i 3 0) (v.s 3 1) (v.s 3 2) K)) (fun f v => f (v.i 32 0)) (fun k v => (fun z0 => k (v.ui 32 0 z0))) (by kernel_rfl) (fun _ _ => (by kernel_rfl)) (fun _ _ _ => (by kernel_rfl)) (fun _ _ _ => (by kernel_rfl)) (fun _ _ => (by kernel_rfl)) (fun _ _ _ _ _ => (by kernel_rfl))
def qo4 (v0 : Int) : Option (AV × Bool) :=
  (oB (qwn) fun r1 => (q1q v0 r1 (r1.length : Int) (0 : Int) ([] : List UInt8) ([] : List UInt8) (fun (_ : Unit) => (some ((.agg [(.int .i64 (0 : Int)), (.str ([] : List UInt8)), (.str ([] : List UInt8))]), false))) FU (0 : Int)))
def qsy := hull qo4
theorem qbc9 : qsy = qo4 := qa _
def q3f {R : Type} : EntF Tryz.prog R := entB (nt := 19) (dec := qxc) (enc := (fun r => .tup [qp0 (.st [(.i .i64), .s, .s]) r.1, .bool r.2])) tabOk follows Tryz.func73 [(.cell 2 true 3), .t 3] (hdeN fun _ => rfl) (.s .z (.s (.s (.r [(0, .k q1p.b)] []) (.b (.sub [.sel [0, 2, 6, 7, 8] [0]] q8t []))) .z)) S27_ qo4 (fun f v => f (v.i 0 0)) (by kernel_rfl) (by kernel_rfl) (by kernel_rfl) fun _ => (by kernel_rfl)
def qbhl : List LT := [.b, (.i .u64), (.i .u64)]
def S28_ : Shp := ⟨[(0, .st (lk qbhl))], []⟩
def q3g (Aa : Bool) (Ab Ac : Int) : Option Bool :=
  (bif Aa then (some true) else (bif (Ab == (0 : Int)) then (some (decide (Ac ≤ (4294967295 : Int)))) else (some false)))
def q8u := hull q3g
def q3h {R : Type} : EntF Tryz.prog R := entB (nt := 15) (dec := decB) (enc := AV.bool) tabOk follows Tryz.func101 [.t 2] hdeB (.z) S28_ q3g (fun f v => f (v.b 1 0) (v.i 1 1) (v.i 1 2)) (by kernel_rfl) (by kernel_rfl) (by kernel_rfl) fun _ => (by kernel_rfl)
def qmh (v0 v1 : List UInt8) : Option Bool :=
  (bif (decide ((v0.length : Int) ≥ (v1.length : Int))) then (oB (cutI v0 none (some (v1.length : Int))) fun s1 => (some (s1 == v1))) else (some false))
def qxd := hull qmh
def qu1 {R : Type} : EntF Tryz.prog R := entB (nt := 18) (dec := decB) (enc := AV.bool) tabOk follows Tryz.func152 [.t 4] hdeB (.z) S9_ qmh (fun f v => f (v.s 0 0) (v.s 4 0)) (by kernel_rfl) (by kernel_rfl) (by kernel_rfl) fun _ => (by kernel_rfl)
def qqa (v0 v1 : List UInt8) : Option Bool :=
  (oB (qxd v0 v1) fun r1 => (some r1))
def q55 := hull qqa
def q19 {R : Type} : EntF Tryz.prog R := entB (nt := 8) (dec := decB) (enc := AV.bool) tabOk follows Tryz.func136 [.t 4] hdeB (.s .z (.s (.r [(2, .c qu1.b)] []) .z)) S9_ qqa (fun f v => f (v.s 0 0) (v.s 4 0)) (by kernel_rfl) (by kernel_rfl) (by kernel_rfl) fun _ => (by kernel_rfl)
def q3i (v0 : List UInt8) : Option Bool :=
  (oB (qil v0) fun r1 => (bif r1 then (oB (q55 v0 ([42] : List UInt8)) fun r2 => (some (!r2))) else (some false)))
def qly := hull q3i
def qi4 {R : Type} : EntF Tryz.prog R := entB (nt := 10) (dec := decB) (enc := AV.bool) tabOk follows Tryz.func102 [.t 2] hdeB (.s .z (.s (.r [(1, .c qnf.b), (4, .c q19.b)] []) .z)) S16_ q3i (fun f v => f (v.s 0 0)) (by kernel_rfl) (by kernel_rfl) (by kernel_rfl) fun _ => (by kernel_rfl)
def qxe (v0 : Int) : Option Bool :=
  (some ((decide (v0 ≥ (0 : Int))) && (decide (v0 < (4294967296 : Int)))))
def qbea := hull qxe
def qbaz {R : Type} : EntF Tryz.prog R := entB (nt := 9) (dec := decB) (enc := AV.bool) tabOk follows Tryz.func103 [.t 2] hdeB (.s .z (.s (.r [(3, .g 2)] []) .z)) S27_ qxe (fun f v => f (v.i 0 0)) (by kernel_rfl) (by kernel_rfl) (by kernel_rfl) fun _ => (by kernel_rfl)
def S29_ : Shp := ⟨[(0, .one (.l (.i .i64))), (1, .one (.l (.i .i64)))], []⟩
def qqm (v0 v1 : Int) : Option Bool :=
  (some ((decide (v0 ≥ (0 : Int))) && (decide (v0 ≤ v1))))
def q9 := hull qqm
theorem q8v : q9 = qqm := qa _
def qba {R : Type} : EntF Tryz.prog R := entB (nt := 12) (dec := decB) (enc := AV.bool) tabOk follows Tryz.func104 [.t 4] hdeB (.s .z (.s (.r [(3, .g 3)] []) .z)) S29_ qqm (fun f v => f (v.i 0 0) (v.i 4 0)) (by kernel_rfl) (by kernel_rfl) (by kernel_rfl) fun _ => (by kernel_rfl)
def qo5 (v0 : List UInt8) : Option Bool :=
  (some ((decide ((v0.length : Int) ≥ (1 : Int))) && (decide ((v0.length : Int) ≤ (255 : Int)))))
def qo6 := hull qo5
theorem qbda : qo6 = qo5 := qa _
def qtr {R : Type} : EntF Tryz.prog R := entB (nt := 11) (dec := decB) (enc := AV.bool) tabOk follows Tryz.func105 [.t 2] hdeB (.s .z (.s (.r [(4, .g 3)] []) .z)) S16_ qo5 (fun f v => f (v.s 0 0)) (by kernel_rfl) (by kernel_rfl) (by kernel_rfl) fun _ => (by kernel_rfl)
def q1r (v0 : Int) : Option Bool :=
  (oB (qsy v0) fun r1 => (some r1.2))
def qbf5 := hull q1r
def qbdb {R : Type} : EntF Tryz.prog R := entB (nt := 11) (dec := decB) (enc := AV.bool) tabOk follows Tryz.func106 [.t 2] hdeB (.s .z (.s (.r [(1, .c q3f.b)] []) .z)) S27_ q1r (fun f v => f (v.i 0 0)) (by kernel_rfl) (by kernel_rfl) (by kernel_rfl) fun _ => (by kernel_rfl)
def S30_ : Shp := ⟨[(1, .one (.l (.i .u64))), (4, .one (.l (.sl 3))), (5, .one (.l (.i .i64))), (6, .one (.l (.i .i64)))], []⟩
def qts  (K : Ex → Env → Mem → Option Int) := (fun z_v1 => K (.exit 0) (qe [(1, (.int .u64 z_v1))]) (qd []))
def qxf  (v1 : Int) (v4 : List AV) (v5 v6 : Int) (next : Int → Int → Option Int) (kx0 : Int → Option Int) : Option Int :=
  (bif (decide (v6 < v5)) then (oB (ixB v4 v6) fun y1 => (bif fitC qg6 y1.cells then (bif decide ((gI y1.cells 0) < 0) then none else (next (qdm .or .u64 v1 (IntKind.u64.wrap ((1 : Int) * 2 ^ min (gI y1.cells 0).toNat IntKind.u64.bits))) (IntKind.i64.wrap (v6 + (1 : Int))))) else none)) else (kx0 v1))
def qqn  (v4 : List AV) (v5 : Int) (kx0 : Int → Option Int) : Nat → Int → Int → Option Int
  | 0 => (fun _ _ => none)
  | n + 1 => (fun v1 v6 => qxf v1 v4 v5 v6 (qqn v4 v5 kx0 n) kx0)
def qbeb := hull (qqn)
def qba0 : SubB Tryz.prog (TIof Tryz.prog) 17 0 (kret [.t 0] (decI .u64)) := lpB tabOk follows Tryz.f107 75 (.s .z (.s (.s .z (.v [.sel [1] []])) (.s (.b (.s (.r [(0, .p (.etac 8 qg6))] []) .z)) (.v [.sel [1, 4, 5, 6] []])))) S30_ (qqn) (fun f v K n => f (v.l 16 0) (v.i 20 0) (qts K) n) (fun v f K => qxf (v.i 4 0) (v.l 16 0) (v.i 20 0) (v.i 24 0) f (qts K)) (fun f v => f (v.i 4 0) (v.i 24 0)) (fun k v => (fun z0 z1 => k ((v.ui 4 0 z0).ui 24 0 z1))) (by kernel_rfl) (fun _ _ => (by kernel_rfl)) (fun _ _ _ => (by kernel_rfl)) (fun _ _ _ => (by kernel_rfl)) (fun _ _ => (by kernel_rfl)) (fun _ _ _ _ _ => (by kernel_rfl))
def q6x : Option Int :=
  (oB (qwn) fun r1 => (qbeb r1 (r1.length : Int) (fun v1q2 => (some v1q2)) FU (0 : Int) (0 : Int)))
def qbij := hull q6x
def qbf6 {R : Type} : EntF Tryz.prog R := entB (nt := 17) (dec := (decI .u64)) (enc := (AV.int .u64)) tabOk follows Tryz.func107 [.t 0] hdeI (.s .z (.s .z (.s (.s (.r [(0, .k q1p.b)] []) (.b (.sub [.sel [1, 4, 5, 6] []] qba0 []))) .z))) (⟨[], []⟩ : Shp) q6x (fun f v => f) (by kernel_rfl) (by kernel_rfl) (by kernel_rfl) fun _ => (by kernel_rfl)
def S31_ : Shp := ⟨[(0, .one (.l (.i .i64))), (3, .one (.ptr 0 0)), (5, .one (.l (.i .i64)))], [.box true (lk qca)]⟩
def S32_ : Shp := ⟨[(3, .one (.ptr 0 0)), (5, .one (.l (.i .i64)))], [.box true (lk qca)]⟩
def S33_ : Shp := ⟨[(3, .one (.ptr 0 0))], [.box true (lk qca)]⟩
def S34_ : Shp := ⟨[(0, .one (.l (.i .i64))), (1, .st (lk qca))], []⟩
def q56  (v0 v5 : Int) (Al : Bool) (Am An : Int) (A1 A2 A3 : List UInt8) (A4 A5 A6 A7 A8 A9 Ba : Int) (K : Ex → Env → Mem → Option Bool) := (fun z_v6 => K .norm (qe [(0, (.int .i64 v0)), (3, (.ptr 0 0)), (5, (.int .i64 v5)), (6, (.bool z_v6))]) (qd [(some (.box true (q8 Al Am An A1 A2 A3 A4 A5 A6 A7 A8 A9 Ba)))]))
def qji  (v0 v5 : Int) (Al : Bool) (Am An : Int) (A1 A2 A3 : List UInt8) (A4 A5 A6 A7 A8 A9 Ba : Int) (kn : Bool → Option Bool) : Option Bool :=
  (bif (v5 == (1 : Int)) then (kn true) else (kn (v5 == (28 : Int))))
def qxg := hull (qji)
theorem q57 : qxg = qji := qa _
def q7q : SubB Tryz.prog (TIof Tryz.prog) 324 0 (kret [.t 4] decB) := jnB tabOk follows Tryz.f74 37 (.s .z (.s (.v [.sel [0, 3, 5, 6] [0]]) (.v [.sel [0, 3, 5, 6] [0]]))) S31_ (qji) (fun f v K => f (v.i 0 0) (v.i 20 0) (v.b 3 0) (v.i 3 1) (v.i 3 2) (v.s 3 3) (v.s 3 4) (v.s 3 5) (v.i 3 6) (v.i 3 7) (v.i 3 8) (v.i 3 9) (v.i 3 10) (v.i 3 11) (v.i 3 12) (q56 (v.i 0 0) (v.i 20 0) (v.b 3 0) (v.i 3 1) (v.i 3 2) (v.s 3 3) (v.s 3 4) (v.s 3 5) (v.i 3 6) (v.i 3 7) (v.i 3 8) (v.i 3 9) (v.i 3 10) (v.i 3 11) (v.i 3 12) K)) (by kernel_rfl) (fun _ _ => (by kernel_rfl))
def q3j  (v5 : Int) (Al : Bool) (Am An : Int) (A1 A2 A3 : List UInt8) (A4 A5 A6 A7 A8 A9 Ba : Int) (K : Ex → Env → Mem → Option Bool) := (fun z_v27 => K .norm (qe [(3, (.ptr 0 0)), (5, (.int .i64 v5)), (27, (.bool z_v27))]) (qd [(some (.box true (q8 Al Am An A1 A2 A3 A4 A5 A6 A7 A8 A9 Ba)))]))
def qit  (v5 : Int) (Al : Bool) (Am An : Int) (A1 A2 A3 : List UInt8) (A4 A5 A6 A7 A8 A9 Ba : Int) (kn : Bool → Option Bool) : Option Bool :=
  (bif (v5 == (2 : Int)) then (kn true) else (bif (v5 == (5 : Int)) then (kn true) else (bif (v5 == (12 : Int)) then (kn true) else (kn (v5 == (39 : Int))))))
def qvo := hull (qit)
theorem q3k : qvo = qit := qa _
def q58 : SubB Tryz.prog (TIof Tryz.prog) 324 0 (kret [.t 4] decB) := jnB tabOk follows Tryz.f74 181 (.s .z (.s (.v [.sel [3, 5, 27] [0]]) (.s .z (.s (.v [.sel [3, 5, 27] [0]]) (.s .z (.s (.v [.sel [3, 5, 27] [0]]) (.v [.sel [3, 5, 27] [0]]))))))) S32_ (qit) (fun f v K => f (v.i 20 0) (v.b 3 0) (v.i 3 1) (v.i 3 2) (v.s 3 3) (v.s 3 4) (v.s 3 5) (v.i 3 6) (v.i 3 7) (v.i 3 8) (v.i 3 9) (v.i 3 10) (v.i 3 11) (v.i 3 12) (q3j (v.i 20 0) (v.b 3 0) (v.i 3 1) (v.i 3 2) (v.s 3 3) (v.s 3 4) (v.s 3 5) (v.i 3 6) (v.i 3 7) (v.i 3 8) (v.i 3 9) (v.i 3 10) (v.i 3 11) (v.i 3 12) K)) (by kernel_rfl) (fun _ _ => (by kernel_rfl))
def q3l  (K : Ex → Env → Mem → Option Bool) := (fun z_v4 => K .norm (qe [(4, (.bool z_v4))]) (qd []))
def qsf  (Al : Bool) (Am An : Int) (A1 A2 A3 : List UInt8) (A4 A5 A6 A7 A8 A9 Ba : Int) (kn : Bool → Option Bool) : Option Bool :=
  (bif ((Al == false) && ((Am == (0 : Int)) && ((An == (0 : Int)) && ((A1 == A1) && ((A2 == A2) && ((A3 == ([] : List UInt8)) && ((A4 == A4) && ((A5 == A5) && ((A6 == A6) && ((A7 == A7) && ((A8 == A8) && ((A9 == (0 : Int)) && ((Ba == (0 : Int)) && true))))))))))))) then (oB (qly A1) fun r1 => (bif r1 then (oB (qly A2) fun r2 => (bif r2 then (oB (qbea A4) fun r3 => (bif r3 then (oB (q9 A5 (2147483647 : Int)) fun r4 => (bif r4 then (oB (q9 A6 (2147483647 : Int)) fun r5 => (bif r5 then (oB (q9 A7 (2147483647 : Int)) fun r6 => (bif r6 then (oB (q9 A8 (2147483647 : Int)) fun r7 => (kn r7)) else (kn false))) else (kn false))) else (kn false))) else (kn false))) else (kn false))) else (kn false))) else (kn false))
def q8w := hull (qsf)
def q59 : SubB Tryz.prog (TIof Tryz.prog) 324 0 (kret [.t 4] decB) := jnB tabOk follows Tryz.f74 2549 (.r [(20, .c qi4.b), (25, .c qi4.b), (30, .c qbaz.b), (35, .c qba.b), (40, .c qba.b), (45, .c qba.b), (50, .c qba.b)] [.sel [4] []]) S33_ (qsf) (fun f v K => f (v.b 3 0) (v.i 3 1) (v.i 3 2) (v.s 3 3) (v.s 3 4) (v.s 3 5) (v.i 3 6) (v.i 3 7) (v.i 3 8) (v.i 3 9) (v.i 3 10) (v.i 3 11) (v.i 3 12) (q3l K)) (by kernel_rfl) (fun _ _ => (by kernel_rfl))
def q3m  (K : Ex → Env → Mem → Option Bool) := (fun z_v4 => K .norm (qe [(4, (.bool z_v4))]) (qd []))
def qsg  (Al : Bool) (Am An : Int) (A1 A2 A3 : List UInt8) (A4 A5 A6 A7 A8 A9 Ba : Int) (kn : Bool → Option Bool) : Option Bool :=
  (bif ((Al == false) && ((Am == (0 : Int)) && ((An == (0 : Int)) && ((A1 == A1) && ((A2 == ([] : List UInt8)) && ((A3 == A3) && ((A4 == A4) && ((A5 == A5) && ((A6 == A6) && ((A7 == A7) && ((A8 == A8) && ((A9 == A9) && ((Ba == (0 : Int)) && true))))))))))))) then (oB (qo6 A3) fun r1 => (bif r1 then (oB (qly A1) fun r2 => (bif r2 then (oB (qbf5 A4) fun r3 => (bif (r3 && (A4 != (46 : Int))) then (oB (q9 A5 (127 : Int)) fun r4 => (bif r4 then (oB (q9 A6 (2147483647 : Int)) fun r5 => (bif r5 then (oB (q9 A7 (4294967295 : Int)) fun r6 => (bif r6 then (oB (q9 A8 (4294967295 : Int)) fun r7 => (bif r7 then (oB (q9 A9 (65535 : Int)) fun r8 => (kn r8)) else (kn false))) else (kn false))) else (kn false))) else (kn false))) else (kn false))) else (kn false))) else (kn false))) else (kn false))
def q8x := hull (qsg)
def q6a : SubB Tryz.prog (TIof Tryz.prog) 324 0 (kret [.t 4] decB) := jnB tabOk follows Tryz.f74 2621429 (.r [(22, .c qtr.b), (27, .c qi4.b), (32, .c qbdb.b), (35, .g 3), (42, .c qba.b), (47, .c qba.b), (52, .c qba.b), (57, .c qba.b), (62, .c qba.b)] [.sel [4] []]) S33_ (qsg) (fun f v K => f (v.b 3 0) (v.i 3 1) (v.i 3 2) (v.s 3 3) (v.s 3 4) (v.s 3 5) (v.i 3 6) (v.i 3 7) (v.i 3 8) (v.i 3 9) (v.i 3 10) (v.i 3 11) (v.i 3 12) (q3m K)) (by kernel_rfl) (fun _ _ => (by kernel_rfl))
def q3n  (K : Ex → Env → Mem → Option Bool) := (fun z_v4 => K .norm (qe [(4, (.bool z_v4))]) (qd []))
def qiu  (Al : Bool) (Am An : Int) (A1 A2 A3 : List UInt8) (A4 A5 A6 A7 A8 A9 Ba : Int) (kn : Bool → Option Bool) : Option Bool :=
  (bif ((Al == false) && ((Am == (0 : Int)) && ((An == (0 : Int)) && ((A1 == ([] : List UInt8)) && ((A2 == ([] : List UInt8)) && ((A3 == A3) && ((A4 == A4) && ((A5 == A5) && ((A6 == A6) && ((A7 == (0 : Int)) && ((A8 == (0 : Int)) && ((A9 == (0 : Int)) && ((Ba == (0 : Int)) && true))))))))))))) then (oB (qo6 A3) fun r1 => (bif r1 then (bif (A4 == (256 : Int)) then (bif (A5 == (3 : Int)) then (oB (q9 A6 (255 : Int)) fun r2 => (kn r2)) else (kn false)) else (bif ((A4 == (257 : Int)) && (A5 == (3 : Int))) then (oB (q9 A6 (255 : Int)) fun r3 => (kn r3)) else (kn false))) else (kn false))) else (kn false))
def qvp := hull (qiu)
theorem q3o : qvp = qiu := qa _
def q6b : SubB Tryz.prog (TIof Tryz.prog) 324 0 (kret [.t 4] decB) := jnB tabOk follows Tryz.f74 41943029 (.r [(14, .c qtr.b), (27, .g 3), (34, .c qba.b)] [.sel [4] []]) S33_ (qiu) (fun f v K => f (v.b 3 0) (v.i 3 1) (v.i 3 2) (v.s 3 3) (v.s 3 4) (v.s 3 5) (v.i 3 6) (v.i 3 7) (v.i 3 8) (v.i 3 9) (v.i 3 10) (v.i 3 11) (v.i 3 12) (q3n K)) (by kernel_rfl) (fun _ _ => (by kernel_rfl))
def qni (v0 : Int) (Bb : Bool) (Bc Bd : Int) (Be Bf Bg : List UInt8) (Bh Bi Bj Bl Bm Bn Bo : Int) : Option Bool :=
  (qxg v0 v0 Bb Bc Bd Be Bf Bg Bh Bi Bj Bl Bm Bn Bo (fun v6q1 => (bif v6q1 then (bif ((Bb == Bb) && ((Bc == Bc) && ((Bd == Bd) && ((Be == ([] : List UInt8)) && ((Bf == ([] : List UInt8)) && ((Bg == ([] : List UInt8)) && ((Bh == (0 : Int)) && ((Bi == (0 : Int)) && ((Bj == (0 : Int)) && ((Bl == (0 : Int)) && ((Bm == (0 : Int)) && ((Bn == (0 : Int)) && ((Bo == (0 : Int)) && true))))))))))))) then (oB (q8u Bb Bc Bd) fun r2 => (some (r2 && ((Bb == (v0 == (28 : Int))) && true)))) else (some false)) else (qvo v0 Bb Bc Bd Be Bf Bg Bh Bi Bj Bl Bm Bn Bo (fun v27q3 => (bif v27q3 then (bif ((Bb == false) && ((Bc == (0 : Int)) && ((Bd == (0 : Int)) && ((Be == Be) && ((Bf == ([] : List UInt8)) && ((Bg == ([] : List UInt8)) && ((Bh == (0 : Int)) && ((Bi == (0 : Int)) && ((Bj == (0 : Int)) && ((Bl == (0 : Int)) && ((Bm == (0 : Int)) && ((Bn == (0 : Int)) && ((Bo == (0 : Int)) && true))))))))))))) then (oB (qly Be) fun r4 => (some r4)) else (some false)) else (bif (v0 == (6 : Int)) then (q8w Bb Bc Bd Be Bf Bg Bh Bi Bj Bl Bm Bn Bo (fun v4q5 => (some v4q5))) else (bif (v0 == (15 : Int)) then (bif ((Bb == false) && ((Bc == (0 : Int)) && ((Bd == (0 : Int)) && ((Be == Be) && ((Bf == ([] : List UInt8)) && ((Bg == ([] : List UInt8)) && ((Bh == Bh) && ((Bi == (0 : Int)) && ((Bj == (0 : Int)) && ((Bl == (0 : Int)) && ((Bm == (0 : Int)) && ((Bn == (0 : Int)) && ((Bo == (0 : Int)) && true))))))))))))) then (oB (qly Be) fun r6 => (bif r6 then (oB (q9 Bh (65535 : Int)) fun r7 => (some r7)) else (some false))) else (some false)) else (bif (v0 == (16 : Int)) then (some (((Bb == false) && ((Bc == (0 : Int)) && ((Bd == (0 : Int)) && ((Be == ([] : List UInt8)) && ((Bf == ([] : List UInt8)) && ((Bg == Bg) && ((Bh == (0 : Int)) && ((Bi == (0 : Int)) && ((Bj == (0 : Int)) && ((Bl == (0 : Int)) && ((Bm == (0 : Int)) && ((Bn == (0 : Int)) && ((Bo == (0 : Int)) && true))))))))))))) && (decide ((Bg.length : Int) ≤ (255 : Int))))) else (bif (v0 == (33 : Int)) then (bif ((Bb == false) && ((Bc == (0 : Int)) && ((Bd == (0 : Int)) && ((Be == Be) && ((Bf == ([] : List UInt8)) && ((Bg == ([] : List UInt8)) && ((Bh == Bh) && ((Bi == Bi) && ((Bj == Bj) && ((Bl == (0 : Int)) && ((Bm == (0 : Int)) && ((Bn == (0 : Int)) && ((Bo == (0 : Int)) && true))))))))))))) then (oB (qly Be) fun r8 => (bif r8 then (oB (q9 Bh (65535 : Int)) fun r9 => (bif r9 then (oB (q9 Bi (65535 : Int)) fun r10 => (bif r10 then (oB (q9 Bj (65535 : Int)) fun r11 => (some r11)) else (some false))) else (some false))) else (some false))) else (some false)) else (bif (v0 == (43 : Int)) then (bif ((Bb == false) && ((Bc == (0 : Int)) && ((Bd == (0 : Int)) && ((Be == ([] : List UInt8)) && ((Bf == ([] : List UInt8)) && ((Bg == Bg) && ((Bh == Bh) && ((Bi == Bi) && ((Bj == Bj) && ((Bl == (0 : Int)) && ((Bm == (0 : Int)) && ((Bn == (0 : Int)) && ((Bo == (0 : Int)) && true))))))))))))) then (oB (qo6 Bg) fun r12 => (bif r12 then (oB (q9 Bh (65535 : Int)) fun r13 => (bif r13 then (oB (q9 Bi (255 : Int)) fun r14 => (bif r14 then (oB (q9 Bj (255 : Int)) fun r15 => (some r15)) else (some false))) else (some false))) else (some false))) else (some false)) else (bif (v0 == (46 : Int)) then (q8x Bb Bc Bd Be Bf Bg Bh Bi Bj Bl Bm Bn Bo (fun v4q16 => (some v4q16))) else (bif (v0 == (47 : Int)) then (bif ((Bb == false) && ((Bc == (0 : Int)) && ((Bd == (0 : Int)) && ((Be == Be) && ((Bf == ([] : List UInt8)) && ((Bg == ([] : List UInt8)) && ((Bh == (0 : Int)) && ((Bi == (0 : Int)) && ((Bj == (0 : Int)) && ((Bl == (0 : Int)) && ((Bm == (0 : Int)) && ((Bn == (0 : Int)) && ((Bo == Bo) && true))))))))))))) then (oB (qil Be) fun r17 => (bif r17 then (bif (Bo != (0 : Int)) then (oB (qbij) fun r18 => (some ((qdm .andNot .u64 Bo r18) == (0 : Int)))) else (some false)) else (some false))) else (some false)) else (bif (v0 == (48 : Int)) then (qvp Bb Bc Bd Be Bf Bg Bh Bi Bj Bl Bm Bn Bo (fun v4q19 => (some v4q19))) else (some false)))))))))))))))
def qwo := hull qni
theorem qba1 : qwo = qni := qa _
def qbdc {R : Type} : EntF Tryz.prog R := entB (nt := 324) (dec := decB) (enc := AV.bool) tabOk follows Tryz.func74 [.t 4] hdeB (.s .z (.s (.s .z (.b (.s (.sub [.sel [0, 3, 5] [0]] q7q []) (.s (.s (.r [(8, .c q3h.b), (11, .g 6)] []) .z) (.s (.sub [.sel [3, 5] [0]] q58 []) (.s (.s (.r [(8, .c qi4.b)] []) .z) (.s .z (.s (.s (.sub [.sel [3] [0]] q59 []) .z) (.s .z (.s (.s (.r [(10, .c qi4.b), (15, .c qba.b)] []) .z) (.s .z (.s (.s (.r [(6, .g 4)] []) .z) (.s .z (.s (.s (.r [(14, .c qi4.b), (19, .c qba.b), (24, .c qba.b), (29, .c qba.b)] []) .z) (.s .z (.s (.s (.r [(14, .c qtr.b), (19, .c qba.b), (24, .c qba.b), (29, .c qba.b)] []) .z) (.s .z (.s (.s (.sub [.sel [3] [0]] q6a []) .z) (.s .z (.s (.s (.d [] [(10, .c qnf.b), (20, .c qbf6.b)] [] []) .z) (.s .z (.s (.s (.sub [.sel [3] [0]] q6b []) .z) .z)))))))))))))))))))))) .z)) S34_ qni (fun f v => f (v.i 0 0) (v.b 5 0) (v.i 5 1) (v.i 5 2) (v.s 5 3) (v.s 5 4) (v.s 5 5) (v.i 5 6) (v.i 5 7) (v.i 5 8) (v.i 5 9) (v.i 5 10) (v.i 5 11) (v.i 5 12)) (by kernel_rfl) (by kernel_rfl) (by kernel_rfl) fun _ => (by kernel_rfl)
def q3p  (v0 : List UInt8) (K : Ex → Env → Mem → Option (List AV)) := (fun z_v9 => K .norm (qe [(0, (.str v0)), (9, (.bool z_v9))]) (qd []))
def qsh  (v0 : List UInt8) (kn : Bool → Option (List AV)) : Option (List AV) :=
  (bif (v0 == ([46] : List UInt8)) then (kn true) else (oB (qil v0) fun r1 => (kn (!r1))))
def q8y := hull (qsh)
def q6c : SubB Tryz.prog (TIof Tryz.prog) 16 0 (kret [.t 2] (decX (.one (.sl 1)) fun z => aL z)) := jnB tabOk follows Tryz.f108 9 (.r [(4, .c qnf.b)] [.sel [0, 9] []]) S16_ (qsh) (fun f v K => f (v.s 0 0) (q3p (v.s 0 0) K)) (by kernel_rfl) (fun _ _ => (by kernel_rfl))
def qxh (v0 : List UInt8) : Option (List AV) :=
  (q8y v0 (fun v9q1 => (bif v9q1 then (some ([] : List AV)) else (oB (cutI v0 none (some (IntKind.i64.wrap ((v0.length : Int) - (1 : Int))))) fun s2 => (oB (qnd s2 ([46] : List UInt8)) fun r3 => (some r3))))))
def qbec := hull qxh
def qba2 {R : Type} : EntF Tryz.prog R := entB (nt := 16) (dec := (decX (.one (.sl 1)) fun z => aL z)) (enc := (fun r => .sl 1 r)) tabOk follows Tryz.func108 [.t 2] (hdeX fun _ => rfl) (.s .z (.s (.s (.sub [.sel [0] []] q6c []) (.s (.s .z (.v [.eta 2 (.one (.sl 1))])) .z)) (.s (.r [(5, .k qvj.b)] []) .z))) S16_ qxh (fun f v => f (v.s 0 0)) (by kernel_rfl) (by kernel_rfl) (by kernel_rfl) fun _ => (by kernel_rfl)
def S35_ : Shp := ⟨[(3, .one (.l .s)), (7, .one (.l (.sl 1))), (8, .one (.l (.i .i64))), (9, .one (.l (.i .i64)))], []⟩
def qsi  (K : Ex → Env → Mem → Option (List UInt8)) := (fun z_v3 => K (.exit 0) (qe [(3, (.str z_v3))]) (qd []))
def qvq  (v3 : List UInt8) (v7 : List AV) (v8 v9 : Int) (next : (List UInt8) → Int → Option (List UInt8)) (kx0 : (List UInt8) → Option (List UInt8)) : Option (List UInt8) :=
  (bif (decide (v9 < v8)) then (oB (ixB v7 v9) fun y1 => (bif fitC [.s] y1.cells then (bif hd ([(.int .u8 (IntKind.u8.wrap ((gS y1.cells 0).length : Int)))] : List AV) (([(.int .u8 (IntKind.u8.wrap ((gS y1.cells 0).length : Int)))] : List AV).length) then (oB (qy ([(.int .u8 (IntKind.u8.wrap ((gS y1.cells 0).length : Int)))] : List AV)) fun s2 => (bif decide (s2.length + (gS y1.cells 0).length ≤ 9223372036854775807) then (bif decide (v3.length + (s2 ++ (gS y1.cells 0)).length ≤ 9223372036854775807) then (next (v3 ++ (s2 ++ (gS y1.cells 0))) (IntKind.i64.wrap (v9 + (1 : Int)))) else none) else none)) else none) else none)) else (kx0 v3))
def qo7  (v7 : List AV) (v8 : Int) (kx0 : (List UInt8) → Option (List UInt8)) : Nat → (List UInt8) → Int → Option (List UInt8)
  | 0 => (fun _ _ => none)
  | n + 1 => (fun v3 v9 => qvq v3 v7 v8 v9 (qo7 v7 v8 kx0 n) kx0)
def qbdd := hull (qo7)
def q8z : SubB Tryz.prog (TIof Tryz.prog) 25 0 (kret [.t 2] decS) := lpB tabOk follows Tryz.f75 75 (.s .z (.s (.s .z (.v [.sel [3] []])) (.s (.b (.s (.r [(0, .p (.etac 11 [.s]))] []) .z)) (.v [.sel [3, 7, 8, 9] []])))) S35_ (qo7) (fun f v K n => f (v.l 28 0) (v.i 32 0) (qsi K) n) (fun v f K => qvq (v.s 12 0) (v.l 28 0) (v.i 32 0) (v.i 36 0) f (qsi K)) (fun f v => f (v.s 12 0) (v.i 36 0)) (fun k v => (fun z0 z1 => k ((v.us 12 0 z0).ui 36 0 z1))) (by kernel_rfl) (fun _ _ => (by kernel_rfl)) (fun _ _ _ => (by kernel_rfl)) (fun _ _ _ => (by kernel_rfl)) (fun _ _ => (by kernel_rfl)) (fun _ _ _ _ _ => (by kernel_rfl))
def q3q (v0 : List UInt8) : Option (List UInt8) :=
  (oB (qbec v0) fun r1 => (qbdd r1 (r1.length : Int) (fun v3q2 => (bif decide (v3q2.length + ([0] : List UInt8).length ≤ 9223372036854775807) then (some (v3q2 ++ ([0] : List UInt8))) else none)) FU ([] : List UInt8) (0 : Int)))
def q80 := hull q3q
def q3r {R : Type} : EntF Tryz.prog R := entB (nt := 25) (dec := decS) (enc := AV.str) tabOk follows Tryz.func75 [.t 2] hdeS (.s .z (.s .z (.s (.s (.r [(1, .k qba2.b)] []) (.b (.sub [.sel [3, 7, 8, 9] []] q8z []))) .z))) S16_ q3q (fun f v => f (v.s 0 0)) (by kernel_rfl) (by kernel_rfl) (by kernel_rfl) fun _ => (by kernel_rfl)
def qsj  (K : Ex → Env → Mem → Option (List AV)) := (fun z_a0 => K (.exit 0) (qe [(3, (.own 0 z_a0.length))]) (qd [(some (.arr true 1 z_a0))]))
def qvr  (v0 v7 v8 : Int) (a0 : List AV) (next : Int → (List AV) → Option (List AV)) (kx0 : (List AV) → Option (List AV)) : Option (List AV) :=
  (bif (decide (v8 < v7)) then (bif decide ((IntKind.i64.wrap ((56 : Int) - (IntKind.i64.wrap ((8 : Int) * v8)))) < 0) then none else (bif hd a0 a0.length then (bif decide (0 ≤ v8 ∧ v8 < a0.length) then (bif hd a0 a0.length then (oB (a0[v8.toNat]?) fun y1 => (oB (putE y1 0 1 [(.int .u8 (IntKind.u8.wrap (v0.fdiv (2 ^ min (IntKind.i64.wrap ((56 : Int) - (IntKind.i64.wrap ((8 : Int) * v8)))).toNat IntKind.u64.bits))))]) fun z2 => (bif hd (a0.set v8.toNat z2) a0.length then (next (IntKind.i64.wrap (v8 + (1 : Int))) (a0.set v8.toNat z2)) else none))) else none) else none) else none)) else (kx0 a0))
def qo8  (v0 v7 : Int) (kx0 : (List AV) → Option (List AV)) : Nat → Int → (List AV) → Option (List AV)
  | 0 => (fun _ _ => none)
  | n + 1 => (fun v8 a0 => qvr v0 v7 v8 a0 (qo8 v0 v7 kx0 n) kx0)
def qbde := hull (qo8)
def q81 : SubB Tryz.prog (TIof Tryz.prog) 22 0 (kret [.t 2] (decF true 1)) := lpB tabOk follows Tryz.f109 75 (.s .z (.s (.s .z (.v [.sel [3] [0]])) (.s .z (.v [.hd 3, .sel [0, 3, 7, 8] [0]])))) S19_ (qo8) (fun f v K n => f (v.i 0 0) (v.i 28 0) (qsj K) n) (fun v f K => qvr (v.i 0 0) (v.i 28 0) (v.i 32 0) (v.r 0) f (qsj K)) (fun f v => f (v.i 32 0) (v.r 0)) (fun k v => (fun z0 z1 => k ((v.ui 32 0 z0).ur 0 z1))) (by kernel_rfl) (fun _ _ => (by kernel_rfl)) (fun _ _ _ => (by kernel_rfl)) (fun _ _ _ => (by kernel_rfl)) (fun _ _ => (by kernel_rfl)) (fun _ _ _ _ _ => (by kernel_rfl))
def q3s (v0 : Int) : Option (List AV) :=
  (bif decide (0 ≤ (8 : Int) ∧ (8 : Int) ≤ (8 : Int) ∧ (8 : Int) * 1 ≤ 281474976710656) then (bif (hd (List.replicate (8 : Int).toNat ((.int .u8 (0 : Int)) : AV)) ((List.replicate (8 : Int).toNat ((.int .u8 (0 : Int)) : AV)).length) && true) then (qbde v0 (((List.replicate (8 : Int).toNat ((.int .u8 (0 : Int)) : AV)).length) : Int) (fun a0q1 => (bif hd a0q1 a0q1.length then (some a0q1) else none)) FU (0 : Int) (List.replicate (8 : Int).toNat ((.int .u8 (0 : Int)) : AV))) else none) else none)
def qzf := hull q3s
def qtt {R : Type} : EntF Tryz.prog R := entB (nt := 22) (dec := (decF true 1)) (enc := (AV.fr true 1)) tabOk follows Tryz.func109 [.t 2] hdeF (.s .z (.s .z (.s (.s .z (.b (.sub [.sel [0, 3, 7, 8] [0]] q81 []))) .z))) S20_ q3s (fun f v => f (v.i 0 0)) (by kernel_rfl) (by kernel_rfl) (by kernel_rfl) fun _ => (by kernel_rfl)
def qbdf : AV → Option ((List UInt8) × Int) := decN [(.one .s), (.one (.i .i64))] fun z => (aS (gC (tpL z) 0), aI (gC (tpL z) 1))
def q6y (Aa : Bool) (Ab Ac : Int) : Option ((List UInt8) × Int) :=
  (oB (q8u Aa Ab Ac) fun r1 => (bif (!r1) then (some (([] : List UInt8), (3 : Int))) else (bif (!Aa) then (oB (qzf Ac) fun r2 => (oB (cutI r2 (some (4 : Int)) none) fun s3 => (oB (qy s3) fun s4 => (some (s4, (0 : Int)))))) else (oB (qzf Ab) fun r5 => (oB (qy r5) fun s6 => (oB (qzf Ac) fun r7 => (oB (qy r7) fun s8 => (bif decide (s6.length + s8.length ≤ 9223372036854775807) then (some ((s6 ++ s8), (0 : Int))) else none))))))))
def qbik := hull q6y
def qbf7 {R : Type} : EntF Tryz.prog R := entB (nt := 26) (dec := qbdf) (enc := (fun r => .tup [.str r.1, .int .i64 r.2])) tabOk follows Tryz.func76 [.t 2, .t 3] (hdeN fun _ => rfl) (.s .z (.s (.b (.s (.r [(1, .c q3h.b)] []) (.s .z (.s .z (.s (.s (.r [(2, .k qtt.b)] []) .z) .z))))) (.s (.d [] [(2, .c qtt.b), (6, .c qtt.b)] [] []) .z))) S28_ q6y (fun f v => f (v.b 1 0) (v.i 1 1) (v.i 1 2)) (by kernel_rfl) (by kernel_rfl) (by kernel_rfl) fun _ => (by kernel_rfl)
def qbil {R : Type} (vs : List AV) (m : Mem) (K : AV → Mem → Option R) : Option R := q8h vs m K
theorem qbim {R : Type} : qnn Tryz.prog 78 (qbil (R := R)) := qblw
def S36_ : Shp := ⟨[(0, .one (.l (.i .i64))), (5, .one (.own 0)), (6, .one (.l (.i .i64)))], [.arr true 1]⟩
def qqb  (K : Ex → Env → Mem → Option (List UInt8)) := (fun z_a0 => K (.exit 0) (qe [(5, (.own 0 z_a0.length))]) (qd [(some (.arr true 1 z_a0))]))
def qsk  (v0 v6 : Int) (a0 : List AV) (next : Int → Int → (List AV) → Option (List UInt8)) (kx0 : (List AV) → Option (List UInt8)) : Option (List UInt8) :=
  (bif (decide (v6 ≥ (0 : Int))) then (bif hd a0 a0.length then (bif decide (0 ≤ v6 ∧ v6 < a0.length) then (bif hd a0 a0.length then (oB (a0[v6.toNat]?) fun y1 => (oB (putE y1 0 1 [(.int .u8 (IntKind.u8.wrap v0))]) fun z2 => (bif hd (a0.set v6.toNat z2) a0.length then (next (v0.fdiv (2 ^ min (8 : Int).toNat IntKind.i64.bits)) (IntKind.i64.wrap (v6 - (1 : Int))) (a0.set v6.toNat z2)) else none))) else none) else none) else none) else (kx0 a0))
def qiv  (kx0 : (List AV) → Option (List UInt8)) : Nat → Int → Int → (List AV) → Option (List UInt8)
  | 0 => (fun _ _ _ => none)
  | n + 1 => (fun v0 v6 a0 => qsk v0 v6 a0 (qiv kx0 n) kx0)
def qvs := hull (qiv)
theorem qld : qvs = qiv := qa _
def q6d : SubB Tryz.prog (TIof Tryz.prog) 24 0 (kret [.t 4] decS) := lpB tabOk follows Tryz.f79 75 (.s (.s .z (.s .z (.v [.sel [5] [0]]))) (.s .z (.v [.hd 5, .sel [0, 5, 6] [0]]))) S36_ (qiv) (fun f v K n => f (qqb K) n) (fun v f K => qsk (v.i 0 0) (v.i 24 0) (v.r 0) f (qqb K)) (fun f v => f (v.i 0 0) (v.i 24 0) (v.r 0)) (fun k v => (fun z0 z1 z2 => k (((v.ui 0 0 z0).ui 24 0 z1).ur 0 z2))) (by kernel_rfl) (fun _ _ => (by kernel_rfl)) (fun _ _ _ => (by kernel_rfl)) (fun _ _ _ => (by kernel_rfl)) (fun _ _ => (by kernel_rfl)) (fun _ _ _ _ _ => (by kernel_rfl))
def qgz (v0 v1 : Int) : Option (List UInt8) :=
  (bif decide (0 ≤ v1 ∧ v1 ≤ v1 ∧ v1 * 1 ≤ 281474976710656) then (bif (hd (List.replicate v1.toNat ((.int .u8 (0 : Int)) : AV)) ((List.replicate v1.toNat ((.int .u8 (0 : Int)) : AV)).length) && true) then (qvs (fun a0q1 => (bif hd a0q1 a0q1.length then (oB (qy a0q1) fun s2 => (some s2)) else none)) FU v0 (IntKind.i64.wrap (v1 - (1 : Int))) (List.replicate v1.toNat ((.int .u8 (0 : Int)) : AV))) else none) else none)
def qz := hull qgz
theorem qo9 : qz = qgz := qa _
def qba3 {R : Type} : EntF Tryz.prog R := entB (nt := 24) (dec := decS) (enc := AV.str) tabOk follows Tryz.func79 [.t 4] hdeS (.s .z (.s .z (.s (.s .z (.b (.sub [.sel [0, 5, 6] [0]] q6d []))) .z))) S29_ qgz (fun f v => f (v.i 0 0) (v.i 4 0)) (by kernel_rfl) (by kernel_rfl) (by kernel_rfl) fun _ => (by kernel_rfl)
def S37_ : Shp := ⟨[(3, .one (.ptr 0 0)), (6, .one (.ptr 1 0)), (8, .one (.l .s)), (10, .one (.l (.i .u8))), (31, .one (.l (.i .i64))), (32, .one (.l (.i .i64))), (39, .one (.l (.i .u8)))], [.box true (lk qca), .box true (lk qg6)]⟩
def S38_ : Shp := ⟨[(3, .one (.ptr 0 0)), (6, .one (.ptr 1 0)), (8, .one (.l .s)), (31, .one (.l (.i .i64))), (32, .one (.l (.i .i64)))], [.box true (lk qca), .box true (lk qg6)]⟩
def qlz : AV → Option ((List UInt8) × Int) := decN [(.one .s), (.one (.i .i64))] fun z => (aS (gC (tpL z) 0), aI (gC (tpL z) 1))
def q6e  (v8 : List UInt8) (v10 v31 v32 v39 : Int) (Al : Bool) (Am An : Int) (A1 A2 A3 : List UInt8) (A4 A5 A6 A7 A8 A9 Ba Ao : Int) (Ap Aq : List UInt8) (K : Ex → Env → Mem → Option ((List UInt8) × Int)) := (fun z_v66 => K .norm (qe [(3, (.ptr 0 0)), (6, (.ptr 1 0)), (8, (.str v8)), (10, (.int .u8 v10)), (31, (.int .i64 v31)), (32, (.int .i64 v32)), (39, (.int .u8 v39)), (66, (.bool z_v66))]) (qd [(some (.box true (q8 Al Am An A1 A2 A3 A4 A5 A6 A7 A8 A9 Ba))), (some (.box true (qo3 Ao Ap Aq)))]))
def qdp  (v8 : List UInt8) (v10 v31 v32 v39 : Int) (Al : Bool) (Am An : Int) (A1 A2 A3 : List UInt8) (A4 A5 A6 A7 A8 A9 Ba Ao : Int) (Ap Aq : List UInt8) (kn : Bool → Option ((List UInt8) × Int)) : Option ((List UInt8) × Int) :=
  (bif (v39 == (52 : Int)) then (kn true) else (kn (v39 == (54 : Int))))
def qxi := hull (qdp)
theorem qiw : qxi = qdp := qa _
def q7r : SubB Tryz.prog (TIof Tryz.prog) 118 0 (kret [.t 4, .t 5] qlz) := jnB tabOk follows Tryz.f55 3109679 (.s .z (.s (.v [.sel [3, 6, 8, 10, 31, 32, 39, 66] [0, 1]]) (.v [.sel [3, 6, 8, 10, 31, 32, 39, 66] [0, 1]]))) S37_ (qdp) (fun f v K => f (v.s 32 0) (v.i 40 0) (v.i 124 0) (v.i 128 0) (v.i 156 0) (v.b 3 0) (v.i 3 1) (v.i 3 2) (v.s 3 3) (v.s 3 4) (v.s 3 5) (v.i 3 6) (v.i 3 7) (v.i 3 8) (v.i 3 9) (v.i 3 10) (v.i 3 11) (v.i 3 12) (v.i 7 0) (v.s 7 1) (v.s 7 2) (q6e (v.s 32 0) (v.i 40 0) (v.i 124 0) (v.i 128 0) (v.i 156 0) (v.b 3 0) (v.i 3 1) (v.i 3 2) (v.s 3 3) (v.s 3 4) (v.s 3 5) (v.i 3 6) (v.i 3 7) (v.i 3 8) (v.i 3 9) (v.i 3 10) (v.i 3 11) (v.i 3 12) (v.i 7 0) (v.s 7 1) (v.s 7 2) K)) (by kernel_rfl) (fun _ _ => (by kernel_rfl))
def q6f  (v31 v32 : Int) (Al : Bool) (Am An : Int) (A1 A2 A3 : List UInt8) (A4 A5 A6 A7 A8 A9 Ba Ao : Int) (Ap Aq : List UInt8) (K : Ex → Env → Mem → Option ((List UInt8) × Int)) := (fun z_v8 => K .norm (qe [(3, (.ptr 0 0)), (6, (.ptr 1 0)), (8, (.str z_v8)), (31, (.int .i64 v31)), (32, (.int .i64 v32))]) (qd [(some (.box true (q8 Al Am An A1 A2 A3 A4 A5 A6 A7 A8 A9 Ba))), (some (.box true (qo3 Ao Ap Aq)))]))
def qjj  (v8 : List UInt8) (v31 v32 : Int) (Al : Bool) (Am An : Int) (A1 A2 A3 : List UInt8) (A4 A5 A6 A7 A8 A9 Ba Ao : Int) (Ap Aq : List UInt8) (kn : (List UInt8) → Option ((List UInt8) × Int)) : Option ((List UInt8) × Int) :=
  (oB (ixB Aq v32) fun c1 => (bif ((c1.toNat : Int) == (104 : Int)) then (oB (q80 A1) fun r2 => (bif decide (v8.length + r2.length ≤ 9223372036854775807) then (kn (v8 ++ r2)) else none)) else (bif ((c1.toNat : Int) == (109 : Int)) then (oB (q80 A2) fun r3 => (bif decide (v8.length + r3.length ≤ 9223372036854775807) then (kn (v8 ++ r3)) else none)) else (qxi v8 (c1.toNat : Int) v31 v32 (c1.toNat : Int) Al Am An A1 A2 A3 A4 A5 A6 A7 A8 A9 Ba Ao Ap Aq (fun v66q4 => (bif v66q4 then (oB (qbik Al Am An) fun r5 => (bif decide (v8.length + r5.1.length ≤ 9223372036854775807) then (kn (v8 ++ r5.1)) else none)) else (bif ((c1.toNat : Int) == (116 : Int)) then (bif hd ([(.int .u8 (IntKind.u8.wrap (A3.length : Int)))] : List AV) (([(.int .u8 (IntKind.u8.wrap (A3.length : Int)))] : List AV).length) then (oB (qy ([(.int .u8 (IntKind.u8.wrap (A3.length : Int)))] : List AV)) fun s6 => (bif decide (s6.length + A3.length ≤ 9223372036854775807) then (bif decide (v8.length + (s6 ++ A3).length ≤ 9223372036854775807) then (kn (v8 ++ (s6 ++ A3))) else none) else none)) else none) else (bif ((c1.toNat : Int) == (114 : Int)) then (bif decide (v8.length + A3.length ≤ 9223372036854775807) then (kn (v8 ++ A3)) else none) else (bif ((c1.toNat : Int) == (115 : Int)) then (bif decide (v8.length + ([253] : List UInt8).length ≤ 9223372036854775807) then (kn (v8 ++ ([253] : List UInt8))) else none) else (bif ((c1.toNat : Int) == (110 : Int)) then none else (bif ((c1.toNat : Int) == (65 : Int)) then (oB (qz A4 (2 : Int)) fun r23 => (bif decide (v8.length + r23.length ≤ 9223372036854775807) then (kn (v8 ++ r23)) else none)) else (bif ((c1.toNat : Int) == (66 : Int)) then (oB (qz A5 (2 : Int)) fun r22 => (bif decide (v8.length + r22.length ≤ 9223372036854775807) then (kn (v8 ++ r22)) else none)) else (bif ((c1.toNat : Int) == (67 : Int)) then (oB (qz A6 (2 : Int)) fun r21 => (bif decide (v8.length + r21.length ≤ 9223372036854775807) then (kn (v8 ++ r21)) else none)) else (bif ((c1.toNat : Int) == (68 : Int)) then (oB (qz A7 (2 : Int)) fun r20 => (bif decide (v8.length + r20.length ≤ 9223372036854775807) then (kn (v8 ++ r20)) else none)) else (bif ((c1.toNat : Int) == (69 : Int)) then (oB (qz A8 (2 : Int)) fun r19 => (bif decide (v8.length + r19.length ≤ 9223372036854775807) then (kn (v8 ++ r19)) else none)) else (bif ((c1.toNat : Int) == (70 : Int)) then (oB (qz A9 (2 : Int)) fun r18 => (bif decide (v8.length + r18.length ≤ 9223372036854775807) then (kn (v8 ++ r18)) else none)) else (bif ((c1.toNat : Int) == (97 : Int)) then (oB (qz A4 (1 : Int)) fun r17 => (bif decide (v8.length + r17.length ≤ 9223372036854775807) then (kn (v8 ++ r17)) else none)) else (bif ((c1.toNat : Int) == (98 : Int)) then (oB (qz A5 (1 : Int)) fun r16 => (bif decide (v8.length + r16.length ≤ 9223372036854775807) then (kn (v8 ++ r16)) else none)) else (bif ((c1.toNat : Int) == (99 : Int)) then (oB (qz A6 (1 : Int)) fun r15 => (bif decide (v8.length + r15.length ≤ 9223372036854775807) then (kn (v8 ++ r15)) else none)) else (bif ((c1.toNat : Int) == (100 : Int)) then (oB (qz A7 (1 : Int)) fun r14 => (bif decide (v8.length + r14.length ≤ 9223372036854775807) then (kn (v8 ++ r14)) else none)) else (bif ((c1.toNat : Int) == (101 : Int)) then (oB (qz A8 (1 : Int)) fun r13 => (bif decide (v8.length + r13.length ≤ 9223372036854775807) then (kn (v8 ++ r13)) else none)) else (bif ((c1.toNat : Int) == (102 : Int)) then (oB (qz A9 (1 : Int)) fun r12 => (bif decide (v8.length + r12.length ≤ 9223372036854775807) then (kn (v8 ++ r12)) else none)) else (bif ((c1.toNat : Int) == (118 : Int)) then (oB (qz A4 (4 : Int)) fun r11 => (bif decide (v8.length + r11.length ≤ 9223372036854775807) then (kn (v8 ++ r11)) else none)) else (bif ((c1.toNat : Int) == (119 : Int)) then (oB (qz A5 (4 : Int)) fun r10 => (bif decide (v8.length + r10.length ≤ 9223372036854775807) then (kn (v8 ++ r10)) else none)) else (bif ((c1.toNat : Int) == (120 : Int)) then (oB (qz A6 (4 : Int)) fun r9 => (bif decide (v8.length + r9.length ≤ 9223372036854775807) then (kn (v8 ++ r9)) else none)) else (bif ((c1.toNat : Int) == (121 : Int)) then (oB (qz A7 (4 : Int)) fun r8 => (bif decide (v8.length + r8.length ≤ 9223372036854775807) then (kn (v8 ++ r8)) else none)) else (bif ((c1.toNat : Int) == (122 : Int)) then (oB (qz A8 (4 : Int)) fun r7 => (bif decide (v8.length + r7.length ≤ 9223372036854775807) then (kn (v8 ++ r7)) else none)) else none)))))))))))))))))))))))))))
def qqo := hull (qjj)
theorem q6g : qqo = qjj := qa _
def q7s : SubB Tryz.prog (TIof Tryz.prog) 118 0 (kret [.t 4, .t 5] qlz) := jnB tabOk follows Tryz.f55 2863 (.b (.s .z (.s .z (.s .z (.b (.s .z (.s (.r [(3, .c q3r.b)] [.sel [3, 6, 8, 31, 32] [0, 1]]) (.s .z (.s (.r [(3, .c q3r.b)] [.sel [3, 6, 8, 31, 32] [0, 1]]) (.s (.sub [.sel [3, 6, 8, 10, 31, 32, 39] [0, 1]] q7r []) (.s (.s (.r [(2, .c qbf7.b)] []) (.v [.sel [3, 6, 8, 31, 32] [0, 1]])) (.s .z (.s (.v [.sel [3, 6, 8, 31, 32] [0, 1]]) (.s .z (.s (.v [.sel [3, 6, 8, 31, 32] [0, 1]]) (.s .z (.s (.v [.sel [3, 6, 8, 31, 32] [0, 1]]) (.s .z (.s (.s (.r [(2, .c (eK (qbai (f := 77))))] []) .z) (.s (.r [(1, .r (rB qbim))] []) (.r [(5, .c qba3.b)] [.sel [3, 6, 8, 31, 32] [0, 1]]))))))))))))))))))))) S38_ (qjj) (fun f v K => f (v.s 32 0) (v.i 124 0) (v.i 128 0) (v.b 3 0) (v.i 3 1) (v.i 3 2) (v.s 3 3) (v.s 3 4) (v.s 3 5) (v.i 3 6) (v.i 3 7) (v.i 3 8) (v.i 3 9) (v.i 3 10) (v.i 3 11) (v.i 3 12) (v.i 7 0) (v.s 7 1) (v.s 7 2) (q6f (v.i 124 0) (v.i 128 0) (v.b 3 0) (v.i 3 1) (v.i 3 2) (v.s 3 3) (v.s 3 4) (v.s 3 5) (v.i 3 6) (v.i 3 7) (v.i 3 8) (v.i 3 9) (v.i 3 10) (v.i 3 11) (v.i 3 12) (v.i 7 0) (v.s 7 1) (v.s 7 2) K)) (by kernel_rfl) (fun _ _ => (by kernel_rfl))
def qrf  (K : Ex → Env → Mem → Option ((List UInt8) × Int)) := (fun z_v8 => K (.exit 1) (qe [(8, (.str z_v8))]) (qd []))
def qg7  (v8 : List UInt8) (v31 v32 : Int) (Al : Bool) (Am An : Int) (A1 A2 A3 : List UInt8) (A4 A5 A6 A7 A8 A9 Ba Ao : Int) (Ap Aq : List UInt8) (next : (List UInt8) → Int → Option ((List UInt8) × Int)) (kx1 : (List UInt8) → Option ((List UInt8) × Int)) : Option ((List UInt8) × Int) :=
  (bif (decide (v32 < v31)) then (qqo v8 v31 v32 Al Am An A1 A2 A3 A4 A5 A6 A7 A8 A9 Ba Ao Ap Aq (fun v8q1 => (next v8q1 (IntKind.i64.wrap (v32 + (1 : Int)))))) else (kx1 v8))
def qdq  (v31 : Int) (Al : Bool) (Am An : Int) (A1 A2 A3 : List UInt8) (A4 A5 A6 A7 A8 A9 Ba Ao : Int) (Ap Aq : List UInt8) (kx1 : (List UInt8) → Option ((List UInt8) × Int)) : Nat → (List UInt8) → Int → Option ((List UInt8) × Int)
  | 0 => (fun _ _ => none)
  | n + 1 => (fun v8 v32 => qg7 v8 v31 v32 Al Am An A1 A2 A3 A4 A5 A6 A7 A8 A9 Ba Ao Ap Aq (qdq v31 Al Am An A1 A2 A3 A4 A5 A6 A7 A8 A9 Ba Ao Ap Aq kx1 n) kx1)
def qxj := hull (qdq)
theorem q6h : qxj = qdq := qa _
def q7t : SubB Tryz.prog (TIof Tryz.prog) 118 0 (kret [.t 4, .t 5] qlz) := lpB tabOk follows Tryz.f55 303 (.s .z (.s (.s .z (.v [.sel [8] []])) (.s (.sub [.sel [3, 6, 8, 31, 32] [0, 1]] q7s []) (.v [.sel [3, 6, 8, 31, 32] [0, 1]])))) S38_ (qdq) (fun f v K n => f (v.i 124 0) (v.b 3 0) (v.i 3 1) (v.i 3 2) (v.s 3 3) (v.s 3 4) (v.s 3 5) (v.i 3 6) (v.i 3 7) (v.i 3 8) (v.i 3 9) (v.i 3 10) (v.i 3 11) (v.i 3 12) (v.i 7 0) (v.s 7 1) (v.s 7 2) (qrf K) n) (fun v f K => qg7 (v.s 32 0) (v.i 124 0) (v.i 128 0) (v.b 3 0) (v.i 3 1) (v.i 3 2) (v.s 3 3) (v.s 3 4) (v.s 3 5) (v.i 3 6) (v.i 3 7) (v.i 3 8) (v.i 3 9) (v.i 3 10) (v.i 3 11) (v.i 3 12) (v.i 7 0) (v.s 7 1) (v.s 7 2) f (qrf K)) (fun f v => f (v.s 32 0) (v.i 128 0)) (fun k v => (fun z0 z1 => k ((v.us 32 0 z0).ui 128 0 z1))) (by kernel_rfl) (fun _ _ => (by kernel_rfl)) (fun _ _ _ => (by kernel_rfl)) (fun _ _ _ => (by kernel_rfl)) (fun _ _ => (by kernel_rfl)) (fun _ _ _ _ _ => (by kernel_rfl))
def qpa (v0 : Int) (Bb : Bool) (Bc Bd : Int) (Be Bf Bg : List UInt8) (Bh Bi Bj Bl Bm Bn Bo : Int) : Option ((List UInt8) × Int) :=
  (oB (qsy v0) fun r1 => (bif (!r1.2) then (some (([] : List UInt8), (4 : Int))) else (oB (qwo v0 Bb Bc Bd Be Bf Bg Bh Bi Bj Bl Bm Bn Bo) fun r2 => (bif (!r2) then (some (([] : List UInt8), (5 : Int))) else (qxj ((gS r1.1.cells 2).length : Int) Bb Bc Bd Be Bf Bg Bh Bi Bj Bl Bm Bn Bo (gI r1.1.cells 0) (gS r1.1.cells 1) (gS r1.1.cells 2) (fun v8q3 => (some (v8q3, (0 : Int)))) FU ([] : List UInt8) (0 : Int))))))
def qzg := hull qpa
theorem qbdg : qzg = qpa := qa _
def qbed {R : Type} : EntF Tryz.prog R := entB (nt := 118) (dec := qlz) (enc := (fun r => .tup [.str r.1, .int .i64 r.2])) tabOk follows Tryz.func55 [.t 4, .t 5] (hdeN fun _ => rfl) (.s .z (.s (.r [(1, .c q3f.b)] []) (.s (.b (.s .z (.s .z (.s (.r [(2, .c qbdc.b)] []) .z)))) (.s .z (.s (.s .z (.b (.sub [.sel [3, 6, 8, 31, 32] [0, 1]] q7t []))) .z))))) S34_ qpa (fun f v => f (v.i 0 0) (v.b 5 0) (v.i 5 1) (v.i 5 2) (v.s 5 3) (v.s 5 4) (v.s 5 5) (v.i 5 6) (v.i 5 7) (v.i 5 8) (v.i 5 9) (v.i 5 10) (v.i 5 11) (v.i 5 12)) (by kernel_rfl) (by kernel_rfl) (by kernel_rfl) fun _ => (by kernel_rfl)
def S39_ : Shp := ⟨[(0, .one (.l .s)), (3, .one (.l (.i .i64))), (4, .one (.l (.i .i64)))], []⟩
def qsl  (K : Ex → Env → Mem → Option Int) := (fun z_v3 => K (.exit 0) (qe [(3, (.int .i64 z_v3))]) (qd []))
def qh1  (v0 : List UInt8) (v3 v4 : Int) (next : Int → Int → Option Int) (kx0 : Int → Option Int) : Option Int :=
  (bif (decide (v4 < (v0.length : Int))) then (bif ((v4.tmod (2 : Int)) == (0 : Int)) then (oB (ixB v0 v4) fun c1 => (next (IntKind.i64.wrap (v3 + (IntKind.i64.wrap ((IntKind.i64.wrap (c1.toNat : Int)) * 2 ^ min (8 : Int).toNat IntKind.i64.bits)))) (IntKind.i64.wrap (v4 + (1 : Int))))) else (oB (ixB v0 v4) fun c2 => (next (IntKind.i64.wrap (v3 + (IntKind.i64.wrap (c2.toNat : Int)))) (IntKind.i64.wrap (v4 + (1 : Int)))))) else (kx0 v3))
def qh2  (v0 : List UInt8) (kx0 : Int → Option Int) : Nat → Int → Int → Option Int
  | 0 => (fun _ _ => none)
  | n + 1 => (fun v3 v4 => qh1 v0 v3 v4 (qh2 v0 kx0 n) kx0)
def q1s := hull (qh2)
theorem q7u : q1s = qh2 := qa _
def q82 : SubB Tryz.prog (TIof Tryz.prog) 34 0 (kret [.t 2] (decI .i64)) := lpB tabOk follows Tryz.f56 75 (.s (.s .z (.s .z (.v [.sel [3] []]))) (.s .z (.v [.sel [0, 3, 4] []]))) S39_ (qh2) (fun f v K n => f (v.s 0 0) (qsl K) n) (fun v f K => qh1 (v.s 0 0) (v.i 12 0) (v.i 16 0) f (qsl K)) (fun f v => f (v.i 12 0) (v.i 16 0)) (fun k v => (fun z0 z1 => k ((v.ui 12 0 z0).ui 16 0 z1))) (by kernel_rfl) (fun _ _ => (by kernel_rfl)) (fun _ _ _ => (by kernel_rfl)) (fun _ _ _ => (by kernel_rfl)) (fun _ _ => (by kernel_rfl)) (fun _ _ _ _ _ => (by kernel_rfl))
def qpb (v0 : List UInt8) : Option Int :=
  (q1s v0 (fun v3q1 => (some (qdm .and .i64 (IntKind.i64.wrap (v3q1 + (qdm .and .i64 (v3q1.fdiv (2 ^ min (16 : Int).toNat IntKind.i64.bits)) (65535 : Int)))) (65535 : Int)))) FU (0 : Int) (0 : Int))
def qzh := hull qpb
theorem qbdh : qzh = qpb := qa _
def qbee {R : Type} : EntF Tryz.prog R := entB (nt := 34) (dec := (decI .i64)) (enc := (AV.int .i64)) tabOk follows Tryz.func56 [.t 2] hdeI (.s .z (.s .z (.s (.s .z (.b (.sub [.sel [0, 3, 4] []] q82 []))) .z))) S16_ qpb (fun f v => f (v.s 0 0)) (by kernel_rfl) (by kernel_rfl) (by kernel_rfl) fun _ => (by kernel_rfl)
def S40_ : Shp := ⟨[(0, .st (lk qca))], []⟩
def qpc (Aa : Bool) (Ab Ac : Int) (Ad Ae Af : List UInt8) (Ag Bp Bq Br Bs Bt Bu : Int) : Option Int :=
  (oB (qzg (48 : Int) Aa Ab Ac Ad Ae Af Ag Bp Bq Br Bs Bt Bu) fun r1 => (bif (r1.2 != (0 : Int)) then (some (0 : Int)) else (oB (qzh r1.1) fun r2 => (some r2))))
def qsz := hull qpc
theorem qbdi : qsz = qpc := qa _
def qbef {R : Type} : EntF Tryz.prog R := entB (nt := 14) (dec := (decI .i64)) (enc := (AV.int .i64)) tabOk follows Tryz.func33 [.t 2] hdeI (.s .z (.s (.r [(1, .c qbed.b)] []) (.s .z (.s (.r [(1, .c qbee.b)] []) .z)))) S40_ qpc (fun f v => f (v.b 1 0) (v.i 1 1) (v.i 1 2) (v.s 1 3) (v.s 1 4) (v.s 1 5) (v.i 1 6) (v.i 1 7) (v.i 1 8) (v.i 1 9) (v.i 1 10) (v.i 1 11) (v.i 1 12)) (by kernel_rfl) (by kernel_rfl) (by kernel_rfl) fun _ => (by kernel_rfl)
def S41_ : Shp := ⟨[(0, .one (.l (.sl 1))), (1, .one (.l (.i .i64))), (7, .one (.l (.i .i64))), (8, .one (.l (.i .i64)))], []⟩
def S42_ : Shp := ⟨[(0, .one (.l (.sl 1))), (1, .one (.l (.i .i64)))], []⟩
def qjf  (K : Ex → Env → Mem → Option Int) := (fun (_ : Unit) => K (.exit 0) (qe []) (qd []))
def qd7  (v0 : List AV) (v1 v7 v8 : Int) (next : Int → Option Int) (kx0 : Unit → Option Int) : Option Int :=
  (bif (decide (v8 < v7)) then (oB (ixB v0 v8) fun y1 => (bif fitC [(.i .i64)] y1.cells then (bif (v1 == (gI y1.cells 0)) then (some v8) else (next (IntKind.i64.wrap (v8 + (1 : Int))))) else none)) else (kx0 ()))
def qco  (v0 : List AV) (v1 v7 : Int) (kx0 : Unit → Option Int) : Nat → Int → Option Int
  | 0 => (fun _ => none)
  | n + 1 => (fun v8 => qd7 v0 v1 v7 v8 (qco v0 v1 v7 kx0 n) kx0)
def qmi := hull (qco)
theorem qr0 : qmi = qco := qa _
def qs0 : SubB Tryz.prog (TIof Tryz.prog) 19 0 (kret [.t 4] (decI .i64)) := lpB tabOk follows Tryz.f57 37 (.s .z (.s (.s .z (.v [.sel [] []])) (.s (.b (.s .z (.s (.r [(3, .p (.etac 14 [(.i .i64)]))] []) .z))) (.v [.sel [0, 1, 7, 8] []])))) S41_ (qco) (fun f v K n => f (v.l 0 0) (v.i 4 0) (v.i 28 0) (qjf K) n) (fun v f K => qd7 (v.l 0 0) (v.i 4 0) (v.i 28 0) (v.i 32 0) f (qjf K)) (fun f v => f (v.i 32 0)) (fun k v => (fun z0 => k (v.ui 32 0 z0))) (by kernel_rfl) (fun _ _ => (by kernel_rfl)) (fun _ _ _ => (by kernel_rfl)) (fun _ _ _ => (by kernel_rfl)) (fun _ _ => (by kernel_rfl)) (fun _ _ _ _ _ => (by kernel_rfl))
def qfx (v0 : List AV) (v1 : Int) : Option Int :=
  (qmi v0 v1 (v0.length : Int) (fun (_ : Unit) => (some (-1 : Int))) FU (0 : Int))
def qjk := hull qfx
theorem qu2 : qjk = qfx := qa _
def qwp {R : Type} : EntF Tryz.prog R := entB (nt := 19) (dec := (decI .i64)) (enc := (AV.int .i64)) tabOk follows Tryz.func57 [.t 4] hdeI (.s .z (.s (.s .z (.b (.sub [.sel [0, 1, 7, 8] []] qs0 []))) .z)) S42_ qfx (fun f v => f (v.l 0 0) (v.i 4 0)) (by kernel_rfl) (by kernel_rfl) (by kernel_rfl) fun _ => (by kernel_rfl)
def qd8 (v0 : List AV) (v1 : Int) : Option Bool :=
  (oB (qjk v0 v1) fun r1 => (some (decide (r1 ≥ (0 : Int)))))
def qht := hull qd8
theorem qr1 : qht = qd8 := qa _
def qs1 {R : Type} : EntF Tryz.prog R := entB (nt := 9) (dec := decB) (enc := AV.bool) tabOk follows Tryz.func34 [.t 4] hdeB (.s .z (.s (.r [(2, .c qwp.b)] []) .z)) S42_ qd8 (fun f v => f (v.l 0 0) (v.i 4 0)) (by kernel_rfl) (by kernel_rfl) (by kernel_rfl) fun _ => (by kernel_rfl)
def qkw (v0 : Int) : Option Bool :=
  (some (v0 != v0))
def qnj := hull qkw
theorem q7v : qnj = qkw := qa _
def qvt {R : Type} : EntF Tryz.prog R := entB (nt := 6) (dec := decB) (enc := AV.bool) tabOk follows Tryz.func80 [.t 2] hdeB (.z) S27_ qkw (fun f v => f (v.i 0 0)) (by kernel_rfl) (by kernel_rfl) (by kernel_rfl) fun _ => (by kernel_rfl)
def ql0 (v0 v1 : Int) : Option Bool :=
  (oB (qnj v0) fun r1 => (bif r1 then (oB (qnj v1) fun r2 => (some ((!r2) || (decide (v0 < v1))))) else (some (decide (v0 < v1)))))
def qtu := hull ql0
theorem q83 : qtu = ql0 := qa _
def qba4 {R : Type} : EntF Tryz.prog R := entB (nt := 17) (dec := decB) (enc := AV.bool) tabOk follows Tryz.func58 [.t 4] hdeB (.s .z (.s (.r [(1, .c qvt.b), (4, .c qvt.b), (8, .g 3)] []) .z)) S29_ ql0 (fun f v => f (v.i 0 0) (v.i 4 0)) (by kernel_rfl) (by kernel_rfl) (by kernel_rfl) fun _ => (by kernel_rfl)
def S43_ : Shp := ⟨[(0, .one (.l (.sl 1))), (3, .one (.l (.i .i64)))], []⟩
def S44_ : Shp := ⟨[(0, .one (.l (.sl 1)))], []⟩
def qh3  (K : Ex → Env → Mem → Option Bool) := (fun (_ : Unit) => K (.exit 0) (qe []) (qd []))
def qfr  (v0 : List AV) (v3 : Int) (next : Int → Option Bool) (kx0 : Unit → Option Bool) : Option Bool :=
  (bif (decide (v3 > (0 : Int))) then (oB (ixB v0 v3) fun y1 => (bif fitC [(.i .i64)] y1.cells then (oB (ixB v0 (IntKind.i64.wrap (v3 - (1 : Int)))) fun y2 => (bif fitC [(.i .i64)] y2.cells then (oB (qtu (gI y1.cells 0) (gI y2.cells 0)) fun r3 => (bif r3 then (some false) else (next (IntKind.i64.wrap (v3 - (1 : Int)))))) else none)) else none)) else (kx0 ()))
def qbb  (v0 : List AV) (kx0 : Unit → Option Bool) : Nat → Int → Option Bool
  | 0 => (fun _ => none)
  | n + 1 => (fun v3 => qfr v0 v3 (qbb v0 kx0 n) kx0)
def qj9 := hull (qbb)
theorem qp6 : qj9 = qbb := qa _
def qqp : SubB Tryz.prog (TIof Tryz.prog) 21 0 (kret [.t 2] decB) := lpB tabOk follows Tryz.f36 37 (.s (.s .z (.s .z (.v [.sel [] []]))) (.s (.b (.s (.d [] [(2, .e 13 [(.i .i64)]), (7, .e 18 [(.i .i64)])] [(0, .c qba4.b)] []) .z)) (.v [.sel [0, 3] []]))) S43_ (qbb) (fun f v K n => f (v.l 0 0) (qh3 K) n) (fun v f K => qfr (v.l 0 0) (v.i 12 0) f (qh3 K)) (fun f v => f (v.i 12 0)) (fun k v => (fun z0 => k (v.ui 12 0 z0))) (by kernel_rfl) (fun _ _ => (by kernel_rfl)) (fun _ _ _ => (by kernel_rfl)) (fun _ _ _ => (by kernel_rfl)) (fun _ _ => (by kernel_rfl)) (fun _ _ _ _ _ => (by kernel_rfl))
def qd9 (v0 : List AV) : Option Bool :=
  (qj9 v0 (fun (_ : Unit) => (some true)) FU (IntKind.i64.wrap ((v0.length : Int) - (1 : Int))))
def qe6 := hull qd9
theorem qr2 : qe6 = qd9 := qa _
def qs2 {R : Type} : EntF Tryz.prog R := entB (nt := 21) (dec := decB) (enc := AV.bool) tabOk follows Tryz.func36 [.t 2] hdeB (.s .z (.s (.s .z (.b (.sub [.sel [0, 3] []] qqp []))) .z)) S44_ qd9 (fun f v => f (v.l 0 0)) (by kernel_rfl) (by kernel_rfl) (by kernel_rfl) fun _ => (by kernel_rfl)
def qbz (x0 : List UInt8) (x1 : Bool) (x2 x3 x4 x5 x6 : Int) : List AV := [.str x0, .bool x1, .int .i64 x2, .int .i64 x3, .int .i64 x4, .int .i64 x5, .int .i64 x6]
def S45_ : Shp := ⟨[(0, .one (.l (.sl 7))), (3, .one (.own 0)), (5, .one (.ptr 1 0)), (6, .one (.ptr 2 0)), (7, .one (.l (.i .i64))), (13, .one (.l (.sl 7))), (14, .one (.l (.i .i64))), (15, .one (.l (.i .i64)))], [.arr true 1, .box true (lk qb), .box true (lk qca)]⟩
def S46_ : Shp := ⟨[(0, .one (.l (.sl 7))), (3, .one (.own 0)), (13, .one (.l (.sl 7))), (14, .one (.l (.i .i64))), (15, .one (.l (.i .i64)))], [.arr true 1]⟩
def qxk  (v0 v13 : List AV) (v14 v15 : Int) (a0 : List AV) (Ao : List UInt8) (Ap : Bool) (Aq Ar As At Au : Int) (Bv : Bool) (Bw Bx : Int) (By Bz B0 : List UInt8) (B1 B2 B3 B4 B5 B6 B7 : Int) (K : Ex → Env → Mem → Option Int) := (fun z_v37 => K .norm (qe [(0, (.sl 7 v0)), (3, (.own 0 a0.length)), (5, (.ptr 1 0)), (6, (.ptr 2 0)), (13, (.sl 7 v13)), (14, (.int .i64 v14)), (15, (.int .i64 v15)), (37, (.bool z_v37))]) (qd [(some (.arr true 1 a0)), (some (.box true (qbz Ao Ap Aq Ar As At Au))), (some (.box true (q8 Bv Bw Bx By Bz B0 B1 B2 B3 B4 B5 B6 B7)))]))
def qgn  (v0 : List AV) (v7 : Int) (v13 : List AV) (v14 v15 : Int) (a0 : List AV) (Ao : List UInt8) (Ap : Bool) (Aq Ar As At Au : Int) (Bv : Bool) (Bw Bx : Int) (By Bz B0 : List UInt8) (B1 B2 B3 B4 B5 B6 B7 : Int) (kn : Bool → Option Int) : Option Int :=
  (bif (v7 != (0 : Int)) then (kn true) else (oB (ixB v0 (0 : Int)) fun y1 => (bif fitC qb y1.cells then (kn (!(Ao == (gS y1.cells 0)))) else none)))
def qrg := hull (qgn)
theorem qxl : qrg = qgn := qa _
def qzi : SubB Tryz.prog (TIof Tryz.prog) 63 0 (kret [.t 2] (decI .i64)) := jnB tabOk follows Tryz.f16 39319 (.d [] [(7, .e 32 qb)] [] [.sel [0, 3, 5, 6, 13, 14, 15, 37] [0, 1, 2]]) S45_ (qgn) (fun f v K => f (v.l 0 0) (v.i 28 0) (v.l 52 0) (v.i 56 0) (v.i 60 0) (v.r 0) (v.s 7 0) (v.b 7 1) (v.i 7 2) (v.i 7 3) (v.i 7 4) (v.i 7 5) (v.i 7 6) (v.b 11 0) (v.i 11 1) (v.i 11 2) (v.s 11 3) (v.s 11 4) (v.s 11 5) (v.i 11 6) (v.i 11 7) (v.i 11 8) (v.i 11 9) (v.i 11 10) (v.i 11 11) (v.i 11 12) (qxk (v.l 0 0) (v.l 52 0) (v.i 56 0) (v.i 60 0) (v.r 0) (v.s 7 0) (v.b 7 1) (v.i 7 2) (v.i 7 3) (v.i 7 4) (v.i 7 5) (v.i 7 6) (v.b 11 0) (v.i 11 1) (v.i 11 2) (v.s 11 3) (v.s 11 4) (v.s 11 5) (v.i 11 6) (v.i 11 7) (v.i 11 8) (v.i 11 9) (v.i 11 10) (v.i 11 11) (v.i 11 12) K)) (by kernel_rfl) (fun _ _ => (by kernel_rfl))
def qm4  (K : Ex → Env → Mem → Option Int) := (fun (_ : Unit) => K (.exit 0) (qe []) (qd []))
def qel  (v0 v13 : List AV) (v14 v15 : Int) (a0 : List AV) (next : Int → (List AV) → Option Int) (kx0 : Unit → Option Int) : Option Int :=
  (bif (decide (v15 < v14)) then (oB (ixB v13 v15) fun y1 => (bif fitC qb y1.cells then (oB (qwm (gS y1.cells 0) (gB y1.cells 1) (gI y1.cells 2)) fun r2 => (bif (hd a0 (a0.length) && true) then (qrg v0 r2.2 v13 v14 v15 a0 (gS y1.cells 0) (gB y1.cells 1) (gI y1.cells 2) (gI y1.cells 3) (gI y1.cells 4) (gI y1.cells 5) (gI y1.cells 6) (gB r2.1.cells 0) (gI r2.1.cells 1) (gI r2.1.cells 2) (gS r2.1.cells 3) (gS r2.1.cells 4) (gS r2.1.cells 5) (gI r2.1.cells 6) (gI r2.1.cells 7) (gI r2.1.cells 8) (gI r2.1.cells 9) (gI r2.1.cells 10) (gI r2.1.cells 11) (gI r2.1.cells 12) (fun v37q3 => (bif v37q3 then (some (18 : Int)) else (oB (qsz (gB r2.1.cells 0) (gI r2.1.cells 1) (gI r2.1.cells 2) (gS r2.1.cells 3) (gS r2.1.cells 4) (gS r2.1.cells 5) (gI r2.1.cells 6) (gI r2.1.cells 7) (gI r2.1.cells 8) (gI r2.1.cells 9) (gI r2.1.cells 10) (gI r2.1.cells 11) (gI r2.1.cells 12)) fun r4 => (bif hd a0 a0.length then (oB (qht a0 r4) fun r5 => (bif r5 then (some (18 : Int)) else (bif hd a0 a0.length then (bif hd ([(.int .i64 r4)] : List AV) (([(.int .i64 r4)] : List AV).length) then (bif decide ((a0.length + ([(.int .i64 r4)] : List AV).length) * 8 ≤ 140737488355328) then (oB (qfp (gS y1.cells 0) (gB y1.cells 1) (gI y1.cells 2) (gI y1.cells 3) (gI y1.cells 4) (gI y1.cells 5) (gI y1.cells 6)) fun r6 => (bif (decide ((gI r6.cells 0) < (0 : Int))) then (some (20 : Int)) else (oB (qe6 ([(.int .i64 (gI r6.cells 0)), (.int .i64 (gI r6.cells 1)), (.int .i64 (gI r6.cells 2)), (.int .i64 (gI r6.cells 3))] : List AV)) fun r7 => (bif ((!r7) || (decide ((gI r6.cells 3) > (4294967295 : Int)))) then (some (20 : Int)) else (next (IntKind.i64.wrap (v15 + (1 : Int))) (a0 ++ ([(.int .i64 r4)] : List AV))))))) else none) else none) else none))) else none))))) else none)) else none)) else (kx0 ()))
def qem  (v0 v13 : List AV) (v14 : Int) (kx0 : Unit → Option Int) : Nat → Int → (List AV) → Option Int
  | 0 => (fun _ _ => none)
  | n + 1 => (fun v15 a0 => qel v0 v13 v14 v15 a0 (qem v0 v13 v14 kx0 n) kx0)
def qrh := hull (qem)
theorem qxm : qrh = qem := qa _
def qzj : SubB Tryz.prog (TIof Tryz.prog) 63 0 (kret [.t 2] (decI .i64)) := lpB tabOk follows Tryz.f16 151 (.s .z (.s (.s .z (.v [.sel [] []])) (.s (.b (.s (.r [(0, .p (.etac 17 qb))] []) (.s (.r [(2, .c qbc8.b)] []) (.s (.s (.sub [.sel [0, 3, 5, 6, 7, 13, 14, 15] [0, 1, 2]] qzi []) .z) (.s (.r [(1, .c qbef.b)] []) (.s (.s (.r [(2, .c qs1.b)] []) .z) (.s .z (.s (.r [(1, .c qns.b)] []) (.s (.r [(5, .c qs2.b), (9, .g 3)] []) .z))))))))) (.v [.sel [0, 3, 13, 14, 15] [0]])))) S46_ (qem) (fun f v K n => f (v.l 0 0) (v.l 52 0) (v.i 56 0) (qm4 K) n) (fun v f K => qel (v.l 0 0) (v.l 52 0) (v.i 56 0) (v.i 60 0) (v.r 0) f (qm4 K)) (fun f v => f (v.i 60 0) (v.r 0)) (fun k v => (fun z0 z1 => k ((v.ui 60 0 z0).ur 0 z1))) (by kernel_rfl) (fun _ _ => (by kernel_rfl)) (fun _ _ _ => (by kernel_rfl)) (fun _ _ _ => (by kernel_rfl)) (fun _ _ => (by kernel_rfl)) (fun _ _ _ _ _ => (by kernel_rfl))
def qjl (v0 : List AV) : Option Int :=
  (bif (decide ((v0.length : Int) > (16 : Int))) then (some (9 : Int)) else (bif (hd ([] : List AV) (([] : List AV).length) && true) then (qrh v0 v0 (v0.length : Int) (fun (_ : Unit) => (some (0 : Int))) FU (0 : Int) ([] : List AV)) else none))
def qcx := hull qjl
theorem q6i : qcx = qjl := qa _
def qg8 {R : Type} : EntF Tryz.prog R := entB (nt := 63) (dec := (decI .i64)) (enc := (AV.int .i64)) tabOk follows Tryz.func16 [.t 2] hdeI (.s .z (.s .z (.s .z (.s (.s .z (.b (.sub [.own 3 1, .sel [0, 3, 13, 14, 15] [0]] qzj []))) .z)))) S1_ qjl (fun f v => f (v.l 0 0)) (by kernel_rfl) (by kernel_rfl) (by kernel_rfl) fun _ => (by kernel_rfl)
def S47_ : Shp := ⟨[(0, .one (.l .s)), (3, .one (.l (.i .i64))), (4, .one (.l (.i .u8)))], []⟩
def S48_ : Shp := ⟨[(0, .one (.l .s)), (3, .one (.l (.i .i64)))], []⟩
def qu3  (v0 : List UInt8) (v3 : Int) (K : Ex → Env → Mem → Option Bool) := (fun z_v46 => K .norm (qe [(0, (.str v0)), (3, (.int .i64 v3)), (46, (.bool z_v46))]) (qd []))
def qfy  (v0 : List UInt8) (v3 v4 : Int) (kn : Bool → Option Bool) : Option Bool :=
  (bif ((decide (v4 ≥ (97 : Int))) && (decide (v4 ≤ (122 : Int)))) then (kn false) else (bif (decide (v4 ≥ (48 : Int))) then (kn (!(((decide (v4 ≤ (57 : Int))) || (v4 == (45 : Int))) || (v4 == (95 : Int))))) else (kn (!((v4 == (45 : Int)) || (v4 == (95 : Int)))))))
def qjm := hull (qfy)
theorem qu4 : qjm = qfy := qa _
def qwq : SubB Tryz.prog (TIof Tryz.prog) 47 0 (kret [.t 2] decB) := jnB tabOk follows Tryz.f111 5271 (.r [(3, .g 2), (15, .g 2), (19, .g 2)] [.sel [0, 3, 46] []]) S47_ (qfy) (fun f v K => f (v.s 0 0) (v.i 12 0) (v.i 16 0) (qu3 (v.s 0 0) (v.i 12 0) K)) (by kernel_rfl) (fun _ _ => (by kernel_rfl))
def qle  (K : Ex → Env → Mem → Option Bool) := (fun (_ : Unit) => K (.exit 0) (qe []) (qd []))
def qc8  (v0 : List UInt8) (v3 : Int) (next : Int → Option Bool) (kx0 : Unit → Option Bool) : Option Bool :=
  (bif (decide (v3 < (v0.length : Int))) then (oB (ixB v0 v3) fun c1 => (qjm v0 v3 (c1.toNat : Int) (fun v46q2 => (bif v46q2 then (some false) else (next (IntKind.i64.wrap (v3 + (1 : Int)))))))) else (kx0 ()))
def qc9  (v0 : List UInt8) (kx0 : Unit → Option Bool) : Nat → Int → Option Bool
  | 0 => (fun _ => none)
  | n + 1 => (fun v3 => qc8 v0 v3 (qc9 v0 kx0 n) kx0)
def qpd := hull (qc9)
theorem qu5 : qpd = qc9 := qa _
def qwr : SubB Tryz.prog (TIof Tryz.prog) 47 0 (kret [.t 2] decB) := lpB tabOk follows Tryz.f111 151 (.s (.s .z (.s .z (.v [.sel [] []]))) (.s (.b (.s .z (.s (.sub [.sel [0, 3, 4] []] qwq []) .z))) (.v [.sel [0, 3] []]))) S48_ (qc9) (fun f v K n => f (v.s 0 0) (qle K) n) (fun v f K => qc8 (v.s 0 0) (v.i 12 0) f (qle K)) (fun f v => f (v.i 12 0)) (fun k v => (fun z0 => k (v.ui 12 0 z0))) (by kernel_rfl) (fun _ _ => (by kernel_rfl)) (fun _ _ _ => (by kernel_rfl)) (fun _ _ _ => (by kernel_rfl)) (fun _ _ => (by kernel_rfl)) (fun _ _ _ _ _ => (by kernel_rfl))
def qh4 (v0 : List UInt8) : Option Bool :=
  (bif (v0 == ([42] : List UInt8)) then (some true) else (bif ((decide ((v0.length : Int) < (1 : Int))) || (decide ((v0.length : Int) > (63 : Int)))) then (some false) else (qpd v0 (fun (_ : Unit) => (some true)) FU (0 : Int))))
def qnt := hull qh4
theorem q2a : qnt = qh4 := qa _
def q3t {R : Type} : EntF Tryz.prog R := entB (nt := 47) (dec := decB) (enc := AV.bool) tabOk follows Tryz.func111 [.t 2] hdeB (.s .z (.s .z (.s (.s (.r [(4, .g 3)] []) .z) (.s (.s .z (.b (.sub [.sel [0, 3] []] qwr []))) .z)))) S16_ qh4 (fun f v => f (v.s 0 0)) (by kernel_rfl) (by kernel_rfl) (by kernel_rfl) fun _ => (by kernel_rfl)
def S49_ : Shp := ⟨[(0, .one (.l .s)), (4, .one (.own 0)), (5, .one (.l (.i .i64))), (6, .one (.l (.i .i64))), (7, .one (.l .s))], [.arr true 1]⟩
def S50_ : Shp := ⟨[(0, .one (.l .s)), (4, .one (.own 0)), (5, .one (.l (.i .i64))), (6, .one (.l (.i .i64)))], [.arr true 1]⟩
def qh5 : AV → Option ((List AV) × Bool) := decN [(.one (.fr true 1)), (.one .b)] fun z => (aL (gC (tpL z) 0), aB (gC (tpL z) 1))
def qxn  (v0 : List UInt8) (K : Ex → Env → Mem → Option ((List AV) × Bool)) := (fun z_v25 => K .norm (qe [(0, (.str v0)), (25, (.bool z_v25))]) (qd []))
def qgo  (v0 : List UInt8) (kn : Bool → Option ((List AV) × Bool)) : Option ((List AV) × Bool) :=
  (bif ((decide ((v0.length : Int) < (2 : Int))) || (decide ((v0.length : Int) > (254 : Int)))) then (kn true) else (oB (ixB v0 (IntKind.i64.wrap ((v0.length : Int) - (1 : Int)))) fun c1 => (kn ((c1.toNat : Int) != (46 : Int)))))
def qri := hull (qgo)
theorem qxo : qri = qgo := qa _
def qzk : SubB Tryz.prog (TIof Tryz.prog) 58 0 (kret [.t 2, .t 3] qh5) := jnB tabOk follows Tryz.f81 19 (.r [(4, .g 3)] [.sel [0, 25] []]) S16_ (qgo) (fun f v K => f (v.s 0 0) (qxn (v.s 0 0) K)) (by kernel_rfl) (fun _ _ => (by kernel_rfl))
def qxp  (v0 : List UInt8) (v6 : Int) (v7 : List UInt8) (a0 : List AV) (K : Ex → Env → Mem → Option ((List AV) × Bool)) := (fun z_v50 => K .norm (qe [(0, (.str v0)), (4, (.own 0 a0.length)), (6, (.int .i64 v6)), (7, (.str v7)), (50, (.bool z_v50))]) (qd [(some (.arr true 1 a0))]))
def qgp  (v0 : List UInt8) (v5 v6 : Int) (v7 : List UInt8) (a0 : List AV) (kn : Bool → Option ((List AV) × Bool)) : Option ((List AV) × Bool) :=
  (oB (qnt v7) fun r1 => (bif (!r1) then (kn true) else (bif (v7 == ([42] : List UInt8)) then (kn (decide (v5 > (0 : Int)))) else (kn false))))
def qrj := hull (qgp)
theorem qxq : qrj = qgp := qa _
def qzl : SubB Tryz.prog (TIof Tryz.prog) 58 0 (kret [.t 2, .t 3] qh5) := jnB tabOk follows Tryz.f81 78431 (.r [(1, .c q3t.b)] [.sel [0, 4, 6, 7, 50] [0]]) S49_ (qgp) (fun f v K => f (v.s 0 0) (v.i 20 0) (v.i 24 0) (v.s 28 0) (v.r 0) (qxp (v.s 0 0) (v.i 24 0) (v.s 28 0) (v.r 0) K)) (by kernel_rfl) (fun _ _ => (by kernel_rfl))
def qm5  (K : Ex → Env → Mem → Option ((List AV) × Bool)) := (fun z_a0 => K (.exit 0) (qe [(4, (.own 0 z_a0.length))]) (qd [(some (.arr true 1 z_a0))]))
def qen  (v0 : List UInt8) (v5 v6 : Int) (a0 : List AV) (next : Int → Int → (List AV) → Option ((List AV) × Bool)) (kx0 : (List AV) → Option ((List AV) × Bool)) : Option ((List AV) × Bool) :=
  (bif (decide (v6 < (v0.length : Int))) then (oB (ixB v0 v6) fun c1 => (bif ((c1.toNat : Int) != (46 : Int)) then (next v5 (IntKind.i64.wrap (v6 + (1 : Int))) a0) else (oB (cutI v0 (some v5) (some v6)) fun s2 => (bif (hd a0 (a0.length) && true) then (qrj v0 v5 v6 s2 a0 (fun v50q3 => (bif v50q3 then (bif hd ([] : List AV) (([] : List AV).length) then (some (([] : List AV), false)) else none) else (bif hd a0 a0.length then (bif hd ([(.str s2)] : List AV) (([(.str s2)] : List AV).length) then (bif decide ((a0.length + ([(.str s2)] : List AV).length) * 16 ≤ 140737488355328) then (next (IntKind.i64.wrap (v6 + (1 : Int))) (IntKind.i64.wrap (v6 + (1 : Int))) (a0 ++ ([(.str s2)] : List AV))) else none) else none) else none)))) else none)))) else (kx0 a0))
def qeo  (v0 : List UInt8) (kx0 : (List AV) → Option ((List AV) × Bool)) : Nat → Int → Int → (List AV) → Option ((List AV) × Bool)
  | 0 => (fun _ _ _ => none)
  | n + 1 => (fun v5 v6 a0 => qen v0 v5 v6 a0 (qeo v0 kx0 n) kx0)
def qlf := hull (qeo)
theorem qxr : qlf = qeo := qa _
def qzm : SubB Tryz.prog (TIof Tryz.prog) 58 0 (kret [.t 2, .t 3] qh5) := lpB tabOk follows Tryz.f81 607 (.s (.s .z (.s .z (.v [.sel [4] [0]]))) (.s (.b (.s .z (.s .z (.s (.s (.sub [.sel [0, 4, 5, 6, 7] [0]] qzl []) (.s (.s .z (.v [.own 2 1])) .z)) .z)))) (.v [.sel [0, 4, 5, 6] [0]]))) S50_ (qeo) (fun f v K n => f (v.s 0 0) (qm5 K) n) (fun v f K => qen (v.s 0 0) (v.i 20 0) (v.i 24 0) (v.r 0) f (qm5 K)) (fun f v => f (v.i 20 0) (v.i 24 0) (v.r 0)) (fun k v => (fun z0 z1 z2 => k (((v.ui 20 0 z0).ui 24 0 z1).ur 0 z2))) (by kernel_rfl) (fun _ _ => (by kernel_rfl)) (fun _ _ _ => (by kernel_rfl)) (fun _ _ _ => (by kernel_rfl)) (fun _ _ => (by kernel_rfl)) (fun _ _ _ _ _ => (by kernel_rfl))
def qjn (v0 : List UInt8) : Option ((List AV) × Bool) :=
  (bif (v0 == ([46] : List UInt8)) then (bif hd ([] : List AV) (([] : List AV).length) then (some (([] : List AV), true)) else none) else (qri v0 (fun v25q1 => (bif v25q1 then (bif hd ([] : List AV) (([] : List AV).length) then (some (([] : List AV), false)) else none) else (bif (hd ([] : List AV) (([] : List AV).length) && true) then (qlf v0 (fun a0q2 => (bif hd a0q2 a0q2.length then (some (a0q2, true)) else none)) FU (0 : Int) (0 : Int) ([] : List AV)) else none)))))
def ql1 := hull qjn
theorem q6j : ql1 = qjn := qa _
def qtv {R : Type} : EntF Tryz.prog R := entB (nt := 58) (dec := qh5) (enc := (fun r => .tup [.fr true 1 r.1, .bool r.2])) tabOk follows Tryz.func81 [.t 2, .t 3] (hdeN fun _ => rfl) (.s .z (.s (.s .z (.s (.s .z (.v [.own 2 1])) .z)) (.s (.s (.sub [.sel [0] []] qzk []) (.s (.s .z (.v [.own 2 1])) .z)) (.s .z (.s .z (.s (.s .z (.b (.sub [.own 4 1, .sel [0, 4, 5, 6] [0]] qzm []))) .z)))))) S16_ qjn (fun f v => f (v.s 0 0)) (by kernel_rfl) (by kernel_rfl) (by kernel_rfl) fun _ => (by kernel_rfl)
def qix (v0 : List UInt8) : Option (List AV) :=
  (oB (ql1 v0) fun r1 => (some r1.1))
def qkx := hull qix
theorem q3u : qkx = qix := qa _
def qsm {R : Type} : EntF Tryz.prog R := entB (nt := 11) (dec := (decX (.one (.sl 1)) fun z => aL z)) (enc := (fun r => .sl 1 r)) tabOk follows Tryz.func59 [.t 2] (hdeX fun _ => rfl) (.s .z (.s (.r [(1, .k qtv.b)] []) .z)) S16_ qix (fun f v => f (v.s 0 0)) (by kernel_rfl) (by kernel_rfl) (by kernel_rfl) fun _ => (by kernel_rfl)
def qjo (v0 : List UInt8) : Option Bool :=
  (oB (ql1 v0) fun r1 => (some r1.2))
def qi5 := hull qjo
theorem q6k : qi5 = qjo := qa _
def qnu {R : Type} : EntF Tryz.prog R := entB (nt := 11) (dec := decB) (enc := AV.bool) tabOk follows Tryz.func60 [.t 2] hdeB (.s .z (.s (.r [(1, .k qtv.b)] []) .z)) S16_ qjo (fun f v => f (v.s 0 0)) (by kernel_rfl) (by kernel_rfl) (by kernel_rfl) fun _ => (by kernel_rfl)
def S51_ : Shp := ⟨[(0, .one (.l (.i .i64))), (3, .one (.l .s))], []⟩
def qmj  (K : Ex → Env → Mem → Option (List UInt8)) := (fun z_v0 z_v3 => K (.exit 0) (qe [(0, (.int .i64 z_v0)), (3, (.str z_v3))]) (qd []))
def qgb  (v0 : Int) (v3 : List UInt8) (next : Int → (List UInt8) → Option (List UInt8)) (kx0 : Int → (List UInt8) → Option (List UInt8)) : Option (List UInt8) :=
  (bif (decide (v0 > (9 : Int))) then (bif hd ([(.int .u8 (IntKind.u8.wrap (IntKind.i64.wrap ((48 : Int) + (v0.tmod (10 : Int))))))] : List AV) (([(.int .u8 (IntKind.u8.wrap (IntKind.i64.wrap ((48 : Int) + (v0.tmod (10 : Int))))))] : List AV).length) then (oB (qy ([(.int .u8 (IntKind.u8.wrap (IntKind.i64.wrap ((48 : Int) + (v0.tmod (10 : Int))))))] : List AV)) fun s1 => (bif decide (s1.length + v3.length ≤ 9223372036854775807) then (next (IntKind.i64.wrap (v0.tdiv (10 : Int))) (s1 ++ v3)) else none)) else none) else (kx0 v0 v3))
def qcr  (kx0 : Int → (List UInt8) → Option (List UInt8)) : Nat → Int → (List UInt8) → Option (List UInt8)
  | 0 => (fun _ _ => none)
  | n + 1 => (fun v0 v3 => qgb v0 v3 (qcr kx0 n) kx0)
def qqc := hull (qcr)
theorem qws : qqc = qcr := qa _
def qxs : SubB Tryz.prog (TIof Tryz.prog) 23 0 (kret [.t 2] decS) := lpB tabOk follows Tryz.f62 35 (.s (.s .z (.s .z (.v [.sel [0, 3] []]))) (.b (.s .z (.v [.sel [0, 3] []])))) S51_ (qcr) (fun f v K n => f (qmj K) n) (fun v f K => qgb (v.i 0 0) (v.s 12 0) f (qmj K)) (fun f v => f (v.i 0 0) (v.s 12 0)) (fun k v => (fun z0 z1 => k ((v.ui 0 0 z0).us 12 0 z1))) (by kernel_rfl) (fun _ _ => (by kernel_rfl)) (fun _ _ _ => (by kernel_rfl)) (fun _ _ _ => (by kernel_rfl)) (fun _ _ => (by kernel_rfl)) (fun _ _ _ _ _ => (by kernel_rfl))
def qh6 (v0 : Int) : Option (List UInt8) :=
  (qqc (fun v0q1 v3q2 => (bif hd ([(.int .u8 (IntKind.u8.wrap (IntKind.i64.wrap ((48 : Int) + v0q1))))] : List AV) (([(.int .u8 (IntKind.u8.wrap (IntKind.i64.wrap ((48 : Int) + v0q1))))] : List AV).length) then (oB (qy ([(.int .u8 (IntKind.u8.wrap (IntKind.i64.wrap ((48 : Int) + v0q1))))] : List AV)) fun s3 => (bif decide (s3.length + v3q2.length ≤ 9223372036854775807) then (some (s3 ++ v3q2)) else none)) else none)) FU v0 ([] : List UInt8))
def qnv := hull qh6
theorem q2b : qnv = qh6 := qa _
def q3v {R : Type} : EntF Tryz.prog R := entB (nt := 23) (dec := decS) (enc := AV.str) tabOk follows Tryz.func62 [.t 2] hdeS (.s .z (.s .z (.s (.b (.sub [.sel [0, 3] []] qxs [])) .z))) S27_ qh6 (fun f v => f (v.i 0 0)) (by kernel_rfl) (by kernel_rfl) (by kernel_rfl) fun _ => (by kernel_rfl)
def S52_ : Shp := ⟨[(0, .one (.l (.i .u64))), (3, .one (.own 0)), (4, .one (.l (.i .i64)))], [.arr true 1]⟩
def qpe  (K : Ex → Env → Mem → Option (List UInt8)) := (fun z_a0 => K (.exit 0) (qe [(3, (.own 0 z_a0.length))]) (qd [(some (.arr true 1 z_a0))]))
def qh7  (v0 v4 : Int) (a0 : List AV) (next : Int → Int → (List AV) → Option (List UInt8)) (kx0 : (List AV) → Option (List UInt8)) : Option (List UInt8) :=
  (bif (decide (v4 ≥ (0 : Int))) then (bif hd a0 a0.length then (bif decide (0 ≤ v4 ∧ v4 < a0.length) then (bif hd a0 a0.length then (oB (a0[v4.toNat]?) fun y1 => (oB (putE y1 0 1 [(.int .u8 (IntKind.u8.wrap (v0.tmod (256 : Int))))]) fun z2 => (bif hd (a0.set v4.toNat z2) a0.length then (next (IntKind.u64.wrap (v0.tdiv (256 : Int))) (IntKind.i64.wrap (v4 - (1 : Int))) (a0.set v4.toNat z2)) else none))) else none) else none) else none) else (kx0 a0))
def qf7  (kx0 : (List AV) → Option (List UInt8)) : Nat → Int → Int → (List AV) → Option (List UInt8)
  | 0 => (fun _ _ _ => none)
  | n + 1 => (fun v0 v4 a0 => qh7 v0 v4 a0 (qf7 kx0 n) kx0)
def qtw := hull (qf7)
theorem q2c : qtw = qf7 := qa _
def q3w : SubB Tryz.prog (TIof Tryz.prog) 20 0 (kret [.t 2] decS) := lpB tabOk follows Tryz.f82 75 (.s (.s .z (.s .z (.v [.sel [3] [0]]))) (.s .z (.v [.hd 3, .sel [0, 3, 4] [0]]))) S52_ (qf7) (fun f v K n => f (qpe K) n) (fun v f K => qh7 (v.i 0 0) (v.i 16 0) (v.r 0) f (qpe K)) (fun f v => f (v.i 0 0) (v.i 16 0) (v.r 0)) (fun k v => (fun z0 z1 z2 => k (((v.ui 0 0 z0).ui 16 0 z1).ur 0 z2))) (by kernel_rfl) (fun _ _ => (by kernel_rfl)) (fun _ _ _ => (by kernel_rfl)) (fun _ _ _ => (by kernel_rfl)) (fun _ _ => (by kernel_rfl)) (fun _ _ _ _ _ => (by kernel_rfl))
def qky (v0 : Int) : Option (List UInt8) :=
  (bif decide (0 ≤ (8 : Int) ∧ (8 : Int) ≤ (8 : Int) ∧ (8 : Int) * 1 ≤ 281474976710656) then (bif (hd (List.replicate (8 : Int).toNat ((.int .u8 (0 : Int)) : AV)) ((List.replicate (8 : Int).toNat ((.int .u8 (0 : Int)) : AV)).length) && true) then (qtw (fun a0q1 => (bif hd a0q1 a0q1.length then (oB (qy a0q1) fun s2 => (some s2)) else none)) FU v0 (7 : Int) (List.replicate (8 : Int).toNat ((.int .u8 (0 : Int)) : AV))) else none) else none)
def qnk := hull qky
theorem q7w : qnk = qky := qa _
def qvu {R : Type} : EntF Tryz.prog R := entB (nt := 20) (dec := decS) (enc := AV.str) tabOk follows Tryz.func82 [.t 2] hdeS (.s .z (.s .z (.s (.s .z (.b (.sub [.sel [0, 3, 4] [0]] q3w []))) .z))) S20_ qky (fun f v => f (v.i 0 0)) (by kernel_rfl) (by kernel_rfl) (by kernel_rfl) fun _ => (by kernel_rfl)
def S53_ : Shp := ⟨[(3, .one (.l (.i .u64))), (5, .one (.l (.i .i64)))], []⟩
def qqd  (K : Ex → Env → Mem → Option Int) := (fun z_v3 => K (.exit 0) (qe [(3, (.int .u64 z_v3))]) (qd []))
def qgi  (v0 : List UInt8) (v3 v4 : Int) (next : Int → Int → Option Int) (kx0 : Int → Option Int) : Option Int :=
  (bif (decide (v4 < (v0.length : Int))) then (oB (ixB v0 v4) fun c1 => (next (IntKind.u64.wrap ((qdm .xor .u64 v3 (IntKind.u64.wrap (c1.toNat : Int))) * (1099511628211 : Int))) (IntKind.i64.wrap (v4 + (1 : Int))))) else (kx0 v3))
def qgj  (v0 : List UInt8) (kx0 : Int → Option Int) : Nat → Int → Int → Option Int
  | 0 => (fun _ _ => none)
  | n + 1 => (fun v3 v4 => qgi v0 v3 v4 (qgj v0 kx0 n) kx0)
def qvv := hull (qgj)
theorem q3x : qvv = qgj := qa _
def q6l : SubB Tryz.prog (TIof Tryz.prog) 29 0 (kret [.t 2] (decI .u64)) := lpB tabOk follows Tryz.f83 75 (.s (.s .z (.s .z (.v [.sel [3] []]))) (.s .z (.v [.sel [0, 3, 4] []]))) S21_ (qgj) (fun f v K n => f (v.s 0 0) (qqd K) n) (fun v f K => qgi (v.s 0 0) (v.i 12 0) (v.i 16 0) f (qqd K)) (fun f v => f (v.i 12 0) (v.i 16 0)) (fun k v => (fun z0 z1 => k ((v.ui 12 0 z0).ui 16 0 z1))) (by kernel_rfl) (fun _ _ => (by kernel_rfl)) (fun _ _ _ => (by kernel_rfl)) (fun _ _ _ => (by kernel_rfl)) (fun _ _ => (by kernel_rfl)) (fun _ _ _ _ _ => (by kernel_rfl))
def qpf  (K : Ex → Env → Mem → Option Int) := (fun z_v3 => K (.exit 2) (qe [(3, (.int .u64 z_v3))]) (qd []))
def qdx  (v3 v5 : Int) (next : Int → Int → Option Int) (kx2 : Int → Option Int) : Option Int :=
  (bif (decide (v5 < (3 : Int))) then (next (IntKind.u64.wrap ((qdm .xor .u64 v3 (IntKind.u64.wrap (v3.tdiv (4294967296 : Int)))) * (11400714819323198485 : Int))) (IntKind.i64.wrap (v5 + (1 : Int)))) else (kx2 v3))
def qct  (kx2 : Int → Option Int) : Nat → Int → Int → Option Int
  | 0 => (fun _ _ => none)
  | n + 1 => (fun v3 v5 => qdx v3 v5 (qct kx2 n) kx2)
def qg9 := hull (qct)
theorem q2d : qg9 = qct := qa _
def q3y : SubB Tryz.prog (TIof Tryz.prog) 29 0 (kret [.t 2] (decI .u64)) := lpB tabOk follows Tryz.f83 151 (.s (.s .z (.s .z (.v [.sel [3] []]))) (.s .z (.v [.sel [3, 5] []]))) S53_ (qct) (fun f v K n => f (qpf K) n) (fun v f K => qdx (v.i 12 0) (v.i 20 0) f (qpf K)) (fun f v => f (v.i 12 0) (v.i 20 0)) (fun k v => (fun z0 z1 => k ((v.ui 12 0 z0).ui 20 0 z1))) (by kernel_rfl) (fun _ _ => (by kernel_rfl)) (fun _ _ _ => (by kernel_rfl)) (fun _ _ _ => (by kernel_rfl)) (fun _ _ => (by kernel_rfl)) (fun _ _ _ _ _ => (by kernel_rfl))
def ql2 (v0 : List UInt8) : Option Int :=
  (qvv v0 (fun v3q1 => (qg9 (fun v3q2 => (some v3q2)) FU v3q1 (0 : Int))) FU (14695981039346656037 : Int) (0 : Int))
def qtx := hull ql2
theorem q84 : qtx = ql2 := qa _
def qba5 {R : Type} : EntF Tryz.prog R := entB (nt := 29) (dec := (decI .u64)) (enc := (AV.int .u64)) tabOk follows Tryz.func83 [.t 2] hdeI (.s .z (.s .z (.s (.s .z (.b (.sub [.sel [0, 3, 4] []] q6l []))) (.s (.s .z (.b (.sub [.sel [3, 5] []] q3y []))) .z)))) S16_ ql2 (fun f v => f (v.s 0 0)) (by kernel_rfl) (by kernel_rfl) (by kernel_rfl) fun _ => (by kernel_rfl)
def ql3 (v0 v1 : List UInt8) : Option (List UInt8) :=
  (oB (qnk (IntKind.u64.wrap (v0.length : Int))) fun r1 => (bif decide (r1.length + v0.length ≤ 9223372036854775807) then (bif decide ((r1 ++ v0).length + v1.length ≤ 9223372036854775807) then (oB (qtx ((r1 ++ v0) ++ v1)) fun r2 => (oB (qnk r2) fun r3 => (some r3))) else none) else none))
def qty := hull ql3
theorem q85 : qty = ql3 := qa _
def qba6 {R : Type} : EntF Tryz.prog R := entB (nt := 15) (dec := decS) (enc := AV.str) tabOk follows Tryz.func61 [.t 4] hdeS (.s .z (.s (.r [(3, .c qvu.b), (8, .c qba5.b), (9, .c qvu.b)] []) .z)) S9_ ql3 (fun f v => f (v.s 0 0) (v.s 4 0)) (by kernel_rfl) (by kernel_rfl) (by kernel_rfl) fun _ => (by kernel_rfl)
def S54_ : Shp := ⟨[(1, .one (.ptr 0 0)), (2, .one (.ptr 1 0)), (4, .one (.l (.sl 1)))], [.box true (lk qc3), .box true (lk qca)]⟩
def S55_ : Shp := ⟨[(1, .one (.ptr 0 0)), (2, .one (.ptr 1 0)), (5, .one (.ptr 2 0)), (6, .one (.l .s))], [.box true (lk qc3), .box true (lk qca), .box true (lk qca)]⟩
def qmt : AV → Option (AV × Int) := decN [(.st [.b, (.i .u64), (.i .u64), .s, .s, .s, (.i .i64), (.i .i64), (.i .i64), (.i .i64), (.i .i64), (.i .i64), (.i .u64)]), (.one (.i .i64))] fun z => ((gC (tpL z) 0), aI (gC (tpL z) 1))
def q2e  (Al : List UInt8) (Am : Bool) (An : Int) (Ao : Bool) (Ap Aq : Int) (Ar As At : List UInt8) (Au Av Aw Ax Ay Az A0 : Int) (K : Ex → Env → Mem → Option (AV × Int)) := (fun z_v24 => K .norm (qe [(1, (.ptr 0 0)), (2, (.ptr 1 0)), (24, (.bool z_v24))]) (qd [(some (.box true (qg5 Al Am An))), (some (.box true (q8 Ao Ap Aq Ar As At Au Av Aw Ax Ay Az A0)))]))
def qh8  (v4 : List AV) (Al : List UInt8) (Am : Bool) (An : Int) (Ao : Bool) (Ap Aq : Int) (Ar As At : List UInt8) (Au Av Aw Ax Ay Az A0 : Int) (kn : Bool → Option (AV × Int)) : Option (AV × Int) :=
  (oB (qi5 Al) fun r1 => (bif (!r1) then (kn true) else (bif (decide ((v4.length : Int) > (0 : Int))) then (oB (ixB v4 (0 : Int)) fun y2 => (bif fitC [.s] y2.cells then (kn ((gS y2.cells 0) == ([42] : List UInt8))) else none)) else (kn false))))
def qnw := hull (qh8)
theorem q2f : qnw = qh8 := qa _
def q3z : SubB Tryz.prog (TIof Tryz.prog) 49 0 (kret [(.cell 2 true 13), .t 3] qmt) := jnB tabOk follows Tryz.f42 19 (.r [(2, .c qnu.b), (10, .p (.etac 20 [.s]))] [.sel [1, 2, 24] [0, 1]]) S54_ (qh8) (fun f v K => f (v.l 16 0) (v.s 3 0) (v.b 3 1) (v.i 3 2) (v.b 7 0) (v.i 7 1) (v.i 7 2) (v.s 7 3) (v.s 7 4) (v.s 7 5) (v.i 7 6) (v.i 7 7) (v.i 7 8) (v.i 7 9) (v.i 7 10) (v.i 7 11) (v.i 7 12) (q2e (v.s 3 0) (v.b 3 1) (v.i 3 2) (v.b 7 0) (v.i 7 1) (v.i 7 2) (v.s 7 3) (v.s 7 4) (v.s 7 5) (v.i 7 6) (v.i 7 7) (v.i 7 8) (v.i 7 9) (v.i 7 10) (v.i 7 11) (v.i 7 12) K)) (by kernel_rfl) (fun _ _ => (by kernel_rfl))
def qzn  (Al : List UInt8) (Am : Bool) (An : Int) (Ao : Bool) (Ap Aq : Int) (Ar As At : List UInt8) (Au Av Aw Ax Ay Az A0 : Int) (Bv : Bool) (Bw Bx : Int) (By Bz B0 : List UInt8) (B2 B3 B4 B5 B6 B7 : Int) (K : Ex → Env → Mem → Option (AV × Int)) := (fun z_v6 z_b2_6 => K .norm (qe [(1, (.ptr 0 0)), (2, (.ptr 1 0)), (5, (.ptr 2 0)), (6, (.str z_v6))]) (qd [(some (.box true (qg5 Al Am An))), (some (.box true (q8 Ao Ap Aq Ar As At Au Av Aw Ax Ay Az A0))), (some (.box true (q8 Bv Bw Bx By Bz B0 z_b2_6 B2 B3 B4 B5 B6 B7)))]))
def qhg  (v6 Al : List UInt8) (Am : Bool) (An : Int) (Ao : Bool) (Ap Aq : Int) (Ar As At : List UInt8) (Au Av Aw Ax Ay Az A0 : Int) (Bv : Bool) (Bw Bx : Int) (By Bz B0 : List UInt8) (B1 B2 B3 B4 B5 B6 B7 : Int) (kn : (List UInt8) → Int → Option (AV × Int)) : Option (AV × Int) :=
  (bif Am then (kn ([75] : List UInt8) (257 : Int)) else (kn v6 B1))
def qsn := hull (qhg)
theorem qzo : qsn = qhg := qa _
def q2g : SubB Tryz.prog (TIof Tryz.prog) 49 0 (kret [(.cell 2 true 13), .t 3] qmt) := jnB tabOk follows Tryz.f42 191 (.s .z (.s (.s .z (.v [.sel [1, 2, 5, 6] [0, 1, 2]])) (.v [.sel [1, 2, 5, 6] [0, 1, 2]]))) S55_ (qhg) (fun f v K => f (v.s 24 0) (v.s 3 0) (v.b 3 1) (v.i 3 2) (v.b 7 0) (v.i 7 1) (v.i 7 2) (v.s 7 3) (v.s 7 4) (v.s 7 5) (v.i 7 6) (v.i 7 7) (v.i 7 8) (v.i 7 9) (v.i 7 10) (v.i 7 11) (v.i 7 12) (v.b 11 0) (v.i 11 1) (v.i 11 2) (v.s 11 3) (v.s 11 4) (v.s 11 5) (v.i 11 6) (v.i 11 7) (v.i 11 8) (v.i 11 9) (v.i 11 10) (v.i 11 11) (v.i 11 12) (qzn (v.s 3 0) (v.b 3 1) (v.i 3 2) (v.b 7 0) (v.i 7 1) (v.i 7 2) (v.s 7 3) (v.s 7 4) (v.s 7 5) (v.i 7 6) (v.i 7 7) (v.i 7 8) (v.i 7 9) (v.i 7 10) (v.i 7 11) (v.i 7 12) (v.b 11 0) (v.i 11 1) (v.i 11 2) (v.s 11 3) (v.s 11 4) (v.s 11 5) (v.i 11 7) (v.i 11 8) (v.i 11 9) (v.i 11 10) (v.i 11 11) (v.i 11 12) K)) (by kernel_rfl) (fun _ _ => (by kernel_rfl))
def qkz (Aa : List UInt8) (Ab : Bool) (Ac : Int) : Option (AV × Int) :=
  (oB (qkx Aa) fun r1 => (qnw r1 Aa Ab Ac false (0 : Int) (0 : Int) ([] : List UInt8) ([] : List UInt8) ([] : List UInt8) (0 : Int) (0 : Int) (0 : Int) (0 : Int) (0 : Int) (0 : Int) (0 : Int) (fun v24q2 => (bif v24q2 then (some ((.agg [(.bool false), (.int .u64 (0 : Int)), (.int .u64 (0 : Int)), (.str ([] : List UInt8)), (.str ([] : List UInt8)), (.str ([] : List UInt8)), (.int .i64 (0 : Int)), (.int .i64 (0 : Int)), (.int .i64 (0 : Int)), (.int .i64 (0 : Int)), (.int .i64 (0 : Int)), (.int .i64 (0 : Int)), (.int .u64 (0 : Int))]), (2 : Int))) else (bif ((decide (Ac < (0 : Int))) || (decide (Ac > (2147483647 : Int)))) then (some ((.agg [(.bool false), (.int .u64 (0 : Int)), (.int .u64 (0 : Int)), (.str ([] : List UInt8)), (.str ([] : List UInt8)), (.str ([] : List UInt8)), (.int .i64 (0 : Int)), (.int .i64 (0 : Int)), (.int .i64 (0 : Int)), (.int .i64 (0 : Int)), (.int .i64 (0 : Int)), (.int .i64 (0 : Int)), (.int .u64 (0 : Int))]), (1 : Int))) else (qsn ([90] : List UInt8) Aa Ab Ac false (0 : Int) (0 : Int) ([] : List UInt8) ([] : List UInt8) ([] : List UInt8) (0 : Int) (0 : Int) (0 : Int) (0 : Int) (0 : Int) (0 : Int) (0 : Int) false (0 : Int) (0 : Int) ([] : List UInt8) ([] : List UInt8) ([] : List UInt8) (256 : Int) (3 : Int) (253 : Int) (0 : Int) (0 : Int) (0 : Int) (0 : Int) (fun v6q3 b2_6q4 => (oB (qnv Ac) fun r5 => (bif decide (v6q3.length + r5.length ≤ 9223372036854775807) then (oB (qty Aa (v6q3 ++ r5)) fun r6 => (some ((.agg [(.bool false), (.int .u64 (0 : Int)), (.int .u64 (0 : Int)), (.str ([] : List UInt8)), (.str ([] : List UInt8)), (.str r6), (.int .i64 b2_6q4), (.int .i64 (3 : Int)), (.int .i64 (253 : Int)), (.int .i64 (0 : Int)), (.int .i64 (0 : Int)), (.int .i64 (0 : Int)), (.int .u64 (0 : Int))]), (0 : Int)))) else none)))))))))
def qnl := hull qkz
theorem q7x : qnl = qkz := qa _
def qvw {R : Type} : EntF Tryz.prog R := entB (nt := 49) (dec := qmt) (enc := (fun r => .tup [qp0 (.st [.b, (.i .u64), (.i .u64), .s, .s, .s, (.i .i64), (.i .i64), (.i .i64), (.i .i64), (.i .i64), (.i .i64), (.i .u64)]) r.1, .int .i64 r.2])) tabOk follows Tryz.func42 [(.cell 2 true 13), .t 3] (hdeN fun _ => rfl) (.s .z (.s (.r [(2, .k qsm.b)] []) (.s (.s (.sub [.sel [1, 2, 4] [0, 1]] q3z []) .z) (.s (.s (.r [(4, .g 3)] []) .z) (.s .z (.s .z (.s (.sub [.sel [1, 2, 5, 6] [0, 1, 2]] q2g []) (.s (.d [] [(5, .c q3v.b)] [(0, .c qba6.b)] []) .z)))))))) S25_ qkz (fun f v => f (v.s 1 0) (v.b 1 1) (v.i 1 2)) (by kernel_rfl) (by kernel_rfl) (by kernel_rfl) fun _ => (by kernel_rfl)
def qkl (v0 : Int) : Option (List UInt8) :=
  (bif (v0 == (1 : Int)) then (some ([65] : List UInt8)) else (bif (v0 == (2 : Int)) then (some ([78, 83] : List UInt8)) else (bif (v0 == (5 : Int)) then (some ([67, 78, 65, 77, 69] : List UInt8)) else (bif (v0 == (6 : Int)) then (some ([83, 79, 65] : List UInt8)) else (bif (v0 == (12 : Int)) then (some ([80, 84, 82] : List UInt8)) else (bif (v0 == (15 : Int)) then (some ([77, 88] : List UInt8)) else (bif (v0 == (16 : Int)) then (some ([84, 88, 84] : List UInt8)) else (bif (v0 == (28 : Int)) then (some ([65, 65, 65, 65] : List UInt8)) else (bif (v0 == (33 : Int)) then (some ([83, 82, 86] : List UInt8)) else (bif (v0 == (39 : Int)) then (some ([68, 78, 65, 77, 69] : List UInt8)) else (bif (v0 == (43 : Int)) then (some ([68, 83] : List UInt8)) else (bif (v0 == (46 : Int)) then (some ([82, 82, 83, 73, 71] : List UInt8)) else (bif (v0 == (47 : Int)) then (some ([78, 83, 69, 67] : List UInt8)) else (bif (v0 == (48 : Int)) then (some ([68, 78, 83, 75, 69, 89] : List UInt8)) else (some ([] : List UInt8))))))))))))))))
def qso := hull qkl
theorem qzp : qso = qkl := qa _
def q2h {R : Type} : EntF Tryz.prog R := entB (nt := 32) (dec := decS) (enc := AV.str) tabOk follows Tryz.func141 [.t 2] hdeS (.z) S27_ qkl (fun f v => f (v.i 0 0)) (by kernel_rfl) (by kernel_rfl) (by kernel_rfl) fun _ => (by kernel_rfl)
def qjp (v0 : Int) : Option Bool :=
  (oB (qso v0) fun r1 => (some (!(r1 == ([] : List UInt8)))))
def qg0 := hull qjp
theorem q6m : qg0 = qjp := qa _
def qjq {R : Type} : EntF Tryz.prog R := entB (nt := 6) (dec := decB) (enc := AV.bool) tabOk follows Tryz.func112 [.t 2] hdeB (.s .z (.s (.r [(1, .c q2h.b)] []) .z)) S27_ qjp (fun f v => f (v.i 0 0)) (by kernel_rfl) (by kernel_rfl) (by kernel_rfl) fun _ => (by kernel_rfl)
def S56_ : Shp := ⟨[(3, .one (.ptr 0 0)), (4, .one (.ptr 1 0)), (5, .one (.l (.i .i64)))], [.box true (lk qca), .box true (lk qca)]⟩
def q2i  (v5 : Int) (Al : Bool) (Am An : Int) (A1 A2 A3 : List UInt8) (A4 A5 A6 A7 A8 A9 Ba : Int) (Ao : Bool) (Ap Aq : Int) (Ar As At : List UInt8) (Au Av Aw Ax Ay Az A0 : Int) (K : Ex → Env → Mem → Option AV) := (fun z_v6 => K .norm (qe [(3, (.ptr 0 0)), (4, (.ptr 1 0)), (5, (.int .i64 v5)), (6, (.bool z_v6))]) (qd [(some (.box true (q8 Al Am An A1 A2 A3 A4 A5 A6 A7 A8 A9 Ba))), (some (.box true (q8 Ao Ap Aq Ar As At Au Av Aw Ax Ay Az A0)))]))
def qh9  (v5 : Int) (Al : Bool) (Am An : Int) (A1 A2 A3 : List UInt8) (A4 A5 A6 A7 A8 A9 Ba : Int) (Ao : Bool) (Ap Aq : Int) (Ar As At : List UInt8) (Au Av Aw Ax Ay Az A0 : Int) (kn : Bool → Option AV) : Option AV :=
  (bif (v5 == (1 : Int)) then (kn true) else (kn (v5 == (28 : Int))))
def qtz := hull (qh9)
theorem q2j : qtz = qh9 := qa _
def q30 : SubB Tryz.prog (TIof Tryz.prog) 96 0 (kret [(.cell 4 true 13)] (decT [.b, (.i .u64), (.i .u64), .s, .s, .s, (.i .i64), (.i .i64), (.i .i64), (.i .i64), (.i .i64), (.i .i64), (.i .u64)])) := jnB tabOk follows Tryz.f113 37 (.s .z (.s (.v [.sel [3, 4, 5, 6] [0, 1]]) (.v [.sel [3, 4, 5, 6] [0, 1]]))) S56_ (qh9) (fun f v K => f (v.i 20 0) (v.b 3 0) (v.i 3 1) (v.i 3 2) (v.s 3 3) (v.s 3 4) (v.s 3 5) (v.i 3 6) (v.i 3 7) (v.i 3 8) (v.i 3 9) (v.i 3 10) (v.i 3 11) (v.i 3 12) (v.b 7 0) (v.i 7 1) (v.i 7 2) (v.s 7 3) (v.s 7 4) (v.s 7 5) (v.i 7 6) (v.i 7 7) (v.i 7 8) (v.i 7 9) (v.i 7 10) (v.i 7 11) (v.i 7 12) (q2i (v.i 20 0) (v.b 3 0) (v.i 3 1) (v.i 3 2) (v.s 3 3) (v.s 3 4) (v.s 3 5) (v.i 3 6) (v.i 3 7) (v.i 3 8) (v.i 3 9) (v.i 3 10) (v.i 3 11) (v.i 3 12) (v.b 7 0) (v.i 7 1) (v.i 7 2) (v.s 7 3) (v.s 7 4) (v.s 7 5) (v.i 7 6) (v.i 7 7) (v.i 7 8) (v.i 7 9) (v.i 7 10) (v.i 7 11) (v.i 7 12) K)) (by kernel_rfl) (fun _ _ => (by kernel_rfl))
def qzq  (v5 : Int) (Al : Bool) (Am An : Int) (A1 A2 A3 : List UInt8) (A4 A5 A6 A7 A8 A9 Ba : Int) (Ao : Bool) (Ap Aq : Int) (Ar As At : List UInt8) (Au Av Aw Ax Ay Az A0 : Int) (K : Ex → Env → Mem → Option AV) := (fun z_v12 => K .norm (qe [(3, (.ptr 0 0)), (4, (.ptr 1 0)), (5, (.int .i64 v5)), (12, (.bool z_v12))]) (qd [(some (.box true (q8 Al Am An A1 A2 A3 A4 A5 A6 A7 A8 A9 Ba))), (some (.box true (q8 Ao Ap Aq Ar As At Au Av Aw Ax Ay Az A0)))]))
def qhh  (v5 : Int) (Al : Bool) (Am An : Int) (A1 A2 A3 : List UInt8) (A4 A5 A6 A7 A8 A9 Ba : Int) (Ao : Bool) (Ap Aq : Int) (Ar As At : List UInt8) (Au Av Aw Ax Ay Az A0 : Int) (kn : Bool → Option AV) : Option AV :=
  (bif (v5 == (2 : Int)) then (kn true) else (bif (v5 == (5 : Int)) then (kn true) else (bif (v5 == (12 : Int)) then (kn true) else (kn (v5 == (39 : Int))))))
def qsp := hull (qhh)
theorem qzr : qsp = qhh := qa _
def q2k : SubB Tryz.prog (TIof Tryz.prog) 96 0 (kret [(.cell 4 true 13)] (decT [.b, (.i .u64), (.i .u64), .s, .s, .s, (.i .i64), (.i .i64), (.i .i64), (.i .i64), (.i .i64), (.i .i64), (.i .u64)])) := jnB tabOk follows Tryz.f113 181 (.s .z (.s (.v [.sel [3, 4, 5, 12] [0, 1]]) (.s .z (.s (.v [.sel [3, 4, 5, 12] [0, 1]]) (.s .z (.s (.v [.sel [3, 4, 5, 12] [0, 1]]) (.v [.sel [3, 4, 5, 12] [0, 1]]))))))) S56_ (qhh) (fun f v K => f (v.i 20 0) (v.b 3 0) (v.i 3 1) (v.i 3 2) (v.s 3 3) (v.s 3 4) (v.s 3 5) (v.i 3 6) (v.i 3 7) (v.i 3 8) (v.i 3 9) (v.i 3 10) (v.i 3 11) (v.i 3 12) (v.b 7 0) (v.i 7 1) (v.i 7 2) (v.s 7 3) (v.s 7 4) (v.s 7 5) (v.i 7 6) (v.i 7 7) (v.i 7 8) (v.i 7 9) (v.i 7 10) (v.i 7 11) (v.i 7 12) (qzq (v.i 20 0) (v.b 3 0) (v.i 3 1) (v.i 3 2) (v.s 3 3) (v.s 3 4) (v.s 3 5) (v.i 3 6) (v.i 3 7) (v.i 3 8) (v.i 3 9) (v.i 3 10) (v.i 3 11) (v.i 3 12) (v.b 7 0) (v.i 7 1) (v.i 7 2) (v.s 7 3) (v.s 7 4) (v.s 7 5) (v.i 7 6) (v.i 7 7) (v.i 7 8) (v.i 7 9) (v.i 7 10) (v.i 7 11) (v.i 7 12) K)) (by kernel_rfl) (fun _ _ => (by kernel_rfl))
def qzs  (v5 : Int) (Al : Bool) (Am An : Int) (A1 A2 A3 : List UInt8) (A4 A5 A6 A7 A8 A9 Ba : Int) (Ao : Bool) (Ap Aq : Int) (Ar As At : List UInt8) (Au Av Aw Ax Ay Az A0 : Int) (K : Ex → Env → Mem → Option AV) := (fun z_v60 => K .norm (qe [(3, (.ptr 0 0)), (4, (.ptr 1 0)), (5, (.int .i64 v5)), (60, (.bool z_v60))]) (qd [(some (.box true (q8 Al Am An A1 A2 A3 A4 A5 A6 A7 A8 A9 Ba))), (some (.box true (q8 Ao Ap Aq Ar As At Au Av Aw Ax Ay Az A0)))]))
def qhi  (v5 : Int) (Al : Bool) (Am An : Int) (A1 A2 A3 : List UInt8) (A4 A5 A6 A7 A8 A9 Ba : Int) (Ao : Bool) (Ap Aq : Int) (Ar As At : List UInt8) (Au Av Aw Ax Ay Az A0 : Int) (kn : Bool → Option AV) : Option AV :=
  (bif (v5 == (43 : Int)) then (kn true) else (kn (v5 == (48 : Int))))
def qsq := hull (qhi)
theorem qzt : qsq = qhi := qa _
def q2l : SubB Tryz.prog (TIof Tryz.prog) 96 0 (kret [(.cell 4 true 13)] (decT [.b, (.i .u64), (.i .u64), .s, .s, .s, (.i .i64), (.i .i64), (.i .i64), (.i .i64), (.i .i64), (.i .i64), (.i .u64)])) := jnB tabOk follows Tryz.f113 196597 (.s .z (.s (.v [.sel [3, 4, 5, 60] [0, 1]]) (.v [.sel [3, 4, 5, 60] [0, 1]]))) S56_ (qhi) (fun f v K => f (v.i 20 0) (v.b 3 0) (v.i 3 1) (v.i 3 2) (v.s 3 3) (v.s 3 4) (v.s 3 5) (v.i 3 6) (v.i 3 7) (v.i 3 8) (v.i 3 9) (v.i 3 10) (v.i 3 11) (v.i 3 12) (v.b 7 0) (v.i 7 1) (v.i 7 2) (v.s 7 3) (v.s 7 4) (v.s 7 5) (v.i 7 6) (v.i 7 7) (v.i 7 8) (v.i 7 9) (v.i 7 10) (v.i 7 11) (v.i 7 12) (qzs (v.i 20 0) (v.b 3 0) (v.i 3 1) (v.i 3 2) (v.s 3 3) (v.s 3 4) (v.s 3 5) (v.i 3 6) (v.i 3 7) (v.i 3 8) (v.i 3 9) (v.i 3 10) (v.i 3 11) (v.i 3 12) (v.b 7 0) (v.i 7 1) (v.i 7 2) (v.s 7 3) (v.s 7 4) (v.s 7 5) (v.i 7 6) (v.i 7 7) (v.i 7 8) (v.i 7 9) (v.i 7 10) (v.i 7 11) (v.i 7 12) K)) (by kernel_rfl) (fun _ _ => (by kernel_rfl))
def qk0 (v0 : Int) (Bb : Bool) (Bc Bd : Int) (Be Bf Bg : List UInt8) (Bh Bi Bj Bl Bm Bn Bo : Int) : Option AV :=
  (qtz v0 Bb Bc Bd Be Bf Bg Bh Bi Bj Bl Bm Bn Bo false (0 : Int) (0 : Int) ([] : List UInt8) ([] : List UInt8) ([] : List UInt8) (0 : Int) (0 : Int) (0 : Int) (0 : Int) (0 : Int) (0 : Int) (0 : Int) (fun v6q1 => (bif v6q1 then (some (.agg [(.bool Bb), (.int .u64 Bc), (.int .u64 Bd), (.str ([] : List UInt8)), (.str ([] : List UInt8)), (.str ([] : List UInt8)), (.int .i64 (0 : Int)), (.int .i64 (0 : Int)), (.int .i64 (0 : Int)), (.int .i64 (0 : Int)), (.int .i64 (0 : Int)), (.int .i64 (0 : Int)), (.int .u64 (0 : Int))])) else (qsp v0 Bb Bc Bd Be Bf Bg Bh Bi Bj Bl Bm Bn Bo false (0 : Int) (0 : Int) ([] : List UInt8) ([] : List UInt8) ([] : List UInt8) (0 : Int) (0 : Int) (0 : Int) (0 : Int) (0 : Int) (0 : Int) (0 : Int) (fun v12q2 => (bif v12q2 then (some (.agg [(.bool false), (.int .u64 (0 : Int)), (.int .u64 (0 : Int)), (.str Be), (.str ([] : List UInt8)), (.str ([] : List UInt8)), (.int .i64 (0 : Int)), (.int .i64 (0 : Int)), (.int .i64 (0 : Int)), (.int .i64 (0 : Int)), (.int .i64 (0 : Int)), (.int .i64 (0 : Int)), (.int .u64 (0 : Int))])) else (bif (v0 == (6 : Int)) then (some (.agg [(.bool false), (.int .u64 (0 : Int)), (.int .u64 (0 : Int)), (.str Be), (.str Bf), (.str ([] : List UInt8)), (.int .i64 Bh), (.int .i64 Bi), (.int .i64 Bj), (.int .i64 Bl), (.int .i64 Bm), (.int .i64 (0 : Int)), (.int .u64 (0 : Int))])) else (bif (v0 == (15 : Int)) then (some (.agg [(.bool false), (.int .u64 (0 : Int)), (.int .u64 (0 : Int)), (.str Be), (.str ([] : List UInt8)), (.str ([] : List UInt8)), (.int .i64 Bh), (.int .i64 (0 : Int)), (.int .i64 (0 : Int)), (.int .i64 (0 : Int)), (.int .i64 (0 : Int)), (.int .i64 (0 : Int)), (.int .u64 (0 : Int))])) else (bif (v0 == (16 : Int)) then (some (.agg [(.bool false), (.int .u64 (0 : Int)), (.int .u64 (0 : Int)), (.str ([] : List UInt8)), (.str ([] : List UInt8)), (.str Bg), (.int .i64 (0 : Int)), (.int .i64 (0 : Int)), (.int .i64 (0 : Int)), (.int .i64 (0 : Int)), (.int .i64 (0 : Int)), (.int .i64 (0 : Int)), (.int .u64 (0 : Int))])) else (bif (v0 == (33 : Int)) then (some (.agg [(.bool false), (.int .u64 (0 : Int)), (.int .u64 (0 : Int)), (.str Be), (.str ([] : List UInt8)), (.str ([] : List UInt8)), (.int .i64 Bh), (.int .i64 Bi), (.int .i64 Bj), (.int .i64 (0 : Int)), (.int .i64 (0 : Int)), (.int .i64 (0 : Int)), (.int .u64 (0 : Int))])) else (qsq v0 Bb Bc Bd Be Bf Bg Bh Bi Bj Bl Bm Bn Bo false (0 : Int) (0 : Int) ([] : List UInt8) ([] : List UInt8) ([] : List UInt8) (0 : Int) (0 : Int) (0 : Int) (0 : Int) (0 : Int) (0 : Int) (0 : Int) (fun v60q3 => (bif v60q3 then (some (.agg [(.bool false), (.int .u64 (0 : Int)), (.int .u64 (0 : Int)), (.str ([] : List UInt8)), (.str ([] : List UInt8)), (.str Bg), (.int .i64 Bh), (.int .i64 Bi), (.int .i64 Bj), (.int .i64 (0 : Int)), (.int .i64 (0 : Int)), (.int .i64 (0 : Int)), (.int .u64 (0 : Int))])) else (bif (v0 == (46 : Int)) then (some (.agg [(.bool false), (.int .u64 (0 : Int)), (.int .u64 (0 : Int)), (.str Be), (.str ([] : List UInt8)), (.str Bg), (.int .i64 Bh), (.int .i64 Bi), (.int .i64 Bj), (.int .i64 Bl), (.int .i64 Bm), (.int .i64 Bn), (.int .u64 (0 : Int))])) else (some (.agg [(.bool false), (.int .u64 (0 : Int)), (.int .u64 (0 : Int)), (.str Be), (.str ([] : List UInt8)), (.str ([] : List UInt8)), (.int .i64 (0 : Int)), (.int .i64 (0 : Int)), (.int .i64 (0 : Int)), (.int .i64 (0 : Int)), (.int .i64 (0 : Int)), (.int .i64 (0 : Int)), (.int .u64 Bo)]))))))))))))))))
def qr3 := hull qk0
theorem q7y : qr3 = qk0 := qa _
def q86 {R : Type} : EntF Tryz.prog R := entB (nt := 96) (dec := (decT [.b, (.i .u64), (.i .u64), .s, .s, .s, (.i .i64), (.i .i64), (.i .i64), (.i .i64), (.i .i64), (.i .i64), (.i .u64)])) (enc := (qp0 (.st [.b, (.i .u64), (.i .u64), .s, .s, .s, (.i .i64), (.i .i64), (.i .i64), (.i .i64), (.i .i64), (.i .i64), (.i .u64)]))) tabOk follows Tryz.func113 [(.cell 4 true 13)] hdeT (.s .z (.s (.s .z (.b (.s (.sub [.sel [3, 4, 5] [0, 1]] q30 []) (.s .z (.s (.sub [.sel [3, 4, 5] [0, 1]] q2k []) (.s .z (.s .z (.s .z (.s .z (.s .z (.s .z (.s .z (.s .z (.s .z (.s (.sub [.sel [3, 4, 5] [0, 1]] q2l []) .z))))))))))))))) .z)) S34_ qk0 (fun f v => f (v.i 0 0) (v.b 5 0) (v.i 5 1) (v.i 5 2) (v.s 5 3) (v.s 5 4) (v.s 5 5) (v.i 5 6) (v.i 5 7) (v.i 5 8) (v.i 5 9) (v.i 5 10) (v.i 5 11) (v.i 5 12)) (by kernel_rfl) (by kernel_rfl) (by kernel_rfl) fun _ => (by kernel_rfl)
def qt0 (Aa : Bool) (Ab Ac : Int) : Option Bool :=
  (bif Aa then (some true) else (bif (Ab == (0 : Int)) then (some (decide (Ac < (4294967296 : Int)))) else (some false)))
def qxt := hull qt0
def qt1 {R : Type} : EntF Tryz.prog R := entB (nt := 15) (dec := decB) (enc := AV.bool) tabOk follows Tryz.func114 [.t 2] hdeB (.z) S28_ qt0 (fun f v => f (v.b 1 0) (v.i 1 1) (v.i 1 2)) (by kernel_rfl) (by kernel_rfl) (by kernel_rfl) fun _ => (by kernel_rfl)
def qvx (v0 : List UInt8) : Option Bool :=
  (oB (qi5 v0) fun r1 => (bif r1 then (oB (ixB v0 (0 : Int)) fun c2 => (some ((c2.toNat : Int) != (42 : Int)))) else (some false)))
def qhw := hull qvx
def qgc {R : Type} : EntF Tryz.prog R := entB (nt := 10) (dec := decB) (enc := AV.bool) tabOk follows Tryz.func115 [.t 2] hdeB (.s .z (.s (.r [(1, .c qnu.b)] []) .z)) S16_ qvx (fun f v => f (v.s 0 0)) (by kernel_rfl) (by kernel_rfl) (by kernel_rfl) fun _ => (by kernel_rfl)
def qt2 (v0 : Int) : Option Bool :=
  (some ((decide (v0 ≥ (0 : Int))) && (decide (v0 < (4294967296 : Int)))))
def qba7 := hull qt2
def q7z {R : Type} : EntF Tryz.prog R := entB (nt := 9) (dec := decB) (enc := AV.bool) tabOk follows Tryz.func116 [.t 2] hdeB (.s .z (.s (.r [(3, .g 2)] []) .z)) S27_ qt2 (fun f v => f (v.i 0 0)) (by kernel_rfl) (by kernel_rfl) (by kernel_rfl) fun _ => (by kernel_rfl)
def qr4 (v0 v1 : Int) : Option Bool :=
  (some ((decide (v0 ≥ (0 : Int))) && (decide (v0 ≤ v1))))
def qbo := hull qr4
theorem qba8 : qbo = qr4 := qa _
def qbg {R : Type} : EntF Tryz.prog R := entB (nt := 12) (dec := decB) (enc := AV.bool) tabOk follows Tryz.func117 [.t 4] hdeB (.s .z (.s (.r [(3, .g 3)] []) .z)) S29_ qr4 (fun f v => f (v.i 0 0) (v.i 4 0)) (by kernel_rfl) (by kernel_rfl) (by kernel_rfl) fun _ => (by kernel_rfl)
def qk1 (v0 : List UInt8) : Option Bool :=
  (some ((decide ((v0.length : Int) ≥ (1 : Int))) && (decide ((v0.length : Int) ≤ (255 : Int)))))
def qka := hull qk1
theorem q70 : qka = qk1 := qa _
def qpg {R : Type} : EntF Tryz.prog R := entB (nt := 11) (dec := decB) (enc := AV.bool) tabOk follows Tryz.func118 [.t 2] hdeB (.s .z (.s (.r [(4, .g 3)] []) .z)) S16_ qk1 (fun f v => f (v.s 0 0)) (by kernel_rfl) (by kernel_rfl) (by kernel_rfl) fun _ => (by kernel_rfl)
def S57_ : Shp := ⟨[(0, .one (.l (.i .u64))), (3, .one (.l (.i .i64)))], []⟩
def qqe  (K : Ex → Env → Mem → Option Bool) := (fun (_ : Unit) => K (.exit 0) (qe []) (qd []))
def qsr  (v0 v3 : Int) (next : Int → Option Bool) (kx0 : Unit → Option Bool) : Option Bool :=
  (bif (decide (v3 < (64 : Int))) then (bif decide ((IntKind.u64.wrap v3) < 0) then none else (bif ((qdm .and .u64 (v0.fdiv (2 ^ min (IntKind.u64.wrap v3).toNat IntKind.u64.bits)) (1 : Int)) == (1 : Int)) then (oB (qg0 v3) fun r1 => (bif (!r1) then (some false) else (next (IntKind.i64.wrap (v3 + (1 : Int)))))) else (next (IntKind.i64.wrap (v3 + (1 : Int)))))) else (kx0 ()))
def qmu  (v0 : Int) (kx0 : Unit → Option Bool) : Nat → Int → Option Bool
  | 0 => (fun _ => none)
  | n + 1 => (fun v3 => qsr v0 v3 (qmu v0 kx0 n) kx0)
def q87 := hull (qmu)
def q6n : SubB Tryz.prog (TIof Tryz.prog) 19 0 (kret [.t 2] decB) := lpB tabOk follows Tryz.f119 37 (.s (.s .z (.s .z (.v [.sel [] []]))) (.s (.b (.s (.r [(8, .c qjq.b)] []) .z)) (.v [.sel [0, 3] []]))) S57_ (qmu) (fun f v K n => f (v.i 0 0) (qqe K) n) (fun v f K => qsr (v.i 0 0) (v.i 12 0) f (qqe K)) (fun f v => f (v.i 12 0)) (fun k v => (fun z0 => k (v.ui 12 0 z0))) (by kernel_rfl) (fun _ _ => (by kernel_rfl)) (fun _ _ _ => (by kernel_rfl)) (fun _ _ _ => (by kernel_rfl)) (fun _ _ => (by kernel_rfl)) (fun _ _ _ _ _ => (by kernel_rfl))
def qxu (v0 : Int) : Option Bool :=
  (q87 v0 (fun (_ : Unit) => (some true)) FU (0 : Int))
def qbeg := hull qxu
def qba9 {R : Type} : EntF Tryz.prog R := entB (nt := 19) (dec := decB) (enc := AV.bool) tabOk follows Tryz.func119 [.t 2] hdeB (.s .z (.s (.s .z (.b (.sub [.sel [0, 3] []] q6n []))) .z)) S20_ qxu (fun f v => f (v.i 0 0)) (by kernel_rfl) (by kernel_rfl) (by kernel_rfl) fun _ => (by kernel_rfl)
def S58_ : Shp := ⟨[(0, .one (.l (.i .i64))), (3, .one (.ptr 0 0))], [.box true (lk qca)]⟩
def qzu  (v0 : Int) (Al : Bool) (Am An : Int) (A1 A2 A3 : List UInt8) (A4 A5 A6 A7 A8 A9 Ba : Int) (K : Ex → Env → Mem → Option Bool) := (fun z_v14 => K .norm (qe [(0, (.int .i64 v0)), (3, (.ptr 0 0)), (14, (.bool z_v14))]) (qd [(some (.box true (q8 Al Am An A1 A2 A3 A4 A5 A6 A7 A8 A9 Ba)))]))
def qhj  (v0 : Int) (Al : Bool) (Am An : Int) (A1 A2 A3 : List UInt8) (A4 A5 A6 A7 A8 A9 Ba : Int) (kn : Bool → Option Bool) : Option Bool :=
  (oB (qg0 v0) fun r1 => (bif (!r1) then (kn true) else (oB (qr3 v0 Al Am An A1 A2 A3 A4 A5 A6 A7 A8 A9 Ba) fun r2 => (kn (!(((gB r2.cells 0) == Al) && (((gI r2.cells 1) == Am) && (((gI r2.cells 2) == An) && (((gS r2.cells 3) == A1) && (((gS r2.cells 4) == A2) && (((gS r2.cells 5) == A3) && (((gI r2.cells 6) == A4) && (((gI r2.cells 7) == A5) && (((gI r2.cells 8) == A6) && (((gI r2.cells 9) == A7) && (((gI r2.cells 10) == A8) && (((gI r2.cells 11) == A9) && (((gI r2.cells 12) == Ba) && true))))))))))))))))))
def qss := hull (qhj)
theorem qzv : qss = qhj := qa _
def q2m : SubB Tryz.prog (TIof Tryz.prog) 211 0 (kret [.t 4] decB) := jnB tabOk follows Tryz.f84 9 (.d [] [(1, .c qjq.b), (6, .c q86.b)] [] [.sel [0, 3, 14] [0]]) S58_ (qhj) (fun f v K => f (v.i 0 0) (v.b 3 0) (v.i 3 1) (v.i 3 2) (v.s 3 3) (v.s 3 4) (v.s 3 5) (v.i 3 6) (v.i 3 7) (v.i 3 8) (v.i 3 9) (v.i 3 10) (v.i 3 11) (v.i 3 12) (qzu (v.i 0 0) (v.b 3 0) (v.i 3 1) (v.i 3 2) (v.s 3 3) (v.s 3 4) (v.s 3 5) (v.i 3 6) (v.i 3 7) (v.i 3 8) (v.i 3 9) (v.i 3 10) (v.i 3 11) (v.i 3 12) K)) (by kernel_rfl) (fun _ _ => (by kernel_rfl))
def qxv  (K : Ex → Env → Mem → Option Bool) := (fun z_v4 => K .norm (qe [(4, (.bool z_v4))]) (qd []))
def qph  (Al : Bool) (Am An : Int) (A1 A2 A3 : List UInt8) (A4 A5 A6 A7 A8 A9 Ba : Int) (kn : Bool → Option Bool) : Option Bool :=
  (oB (qhw A1) fun r1 => (bif r1 then (oB (qhw A2) fun r2 => (bif r2 then (oB (qba7 A4) fun r3 => (bif r3 then (oB (qbo A5 (2147483647 : Int)) fun r4 => (bif r4 then (oB (qbo A6 (2147483647 : Int)) fun r5 => (bif r5 then (oB (qbo A7 (2147483647 : Int)) fun r6 => (bif r6 then (oB (qbo A8 (2147483647 : Int)) fun r7 => (kn r7)) else (kn false))) else (kn false))) else (kn false))) else (kn false))) else (kn false))) else (kn false)))
def q31 := hull (qph)
def qzw : SubB Tryz.prog (TIof Tryz.prog) 211 0 (kret [.t 4] decB) := jnB tabOk follows Tryz.f84 5099 (.r [(2, .c qgc.b), (6, .c qgc.b), (11, .c q7z.b), (16, .c qbg.b), (21, .c qbg.b), (26, .c qbg.b), (31, .c qbg.b)] [.sel [4] []]) S33_ (qph) (fun f v K => f (v.b 3 0) (v.i 3 1) (v.i 3 2) (v.s 3 3) (v.s 3 4) (v.s 3 5) (v.i 3 6) (v.i 3 7) (v.i 3 8) (v.i 3 9) (v.i 3 10) (v.i 3 11) (v.i 3 12) (qxv K)) (by kernel_rfl) (fun _ _ => (by kernel_rfl))
def qxw  (K : Ex → Env → Mem → Option Bool) := (fun z_v4 => K .norm (qe [(4, (.bool z_v4))]) (qd []))
def qpi  (Al : Bool) (Am An : Int) (A1 A2 A3 : List UInt8) (A4 A5 A6 A7 A8 A9 Ba : Int) (kn : Bool → Option Bool) : Option Bool :=
  (oB (qhw A1) fun r1 => (bif r1 then (oB (qbo A4 (65535 : Int)) fun r2 => (bif r2 then (oB (qbo A5 (65535 : Int)) fun r3 => (bif r3 then (oB (qbo A6 (65535 : Int)) fun r4 => (kn r4)) else (kn false))) else (kn false))) else (kn false)))
def q32 := hull (qpi)
def qzx : SubB Tryz.prog (TIof Tryz.prog) 211 0 (kret [.t 4] decB) := jnB tabOk follows Tryz.f84 327659 (.r [(2, .c qgc.b), (6, .c qbg.b), (11, .c qbg.b), (16, .c qbg.b)] [.sel [4] []]) S33_ (qpi) (fun f v K => f (v.b 3 0) (v.i 3 1) (v.i 3 2) (v.s 3 3) (v.s 3 4) (v.s 3 5) (v.i 3 6) (v.i 3 7) (v.i 3 8) (v.i 3 9) (v.i 3 10) (v.i 3 11) (v.i 3 12) (qxw K)) (by kernel_rfl) (fun _ _ => (by kernel_rfl))
def qxx  (K : Ex → Env → Mem → Option Bool) := (fun z_v4 => K .norm (qe [(4, (.bool z_v4))]) (qd []))
def qpj  (Al : Bool) (Am An : Int) (A1 A2 A3 : List UInt8) (A4 A5 A6 A7 A8 A9 Ba : Int) (kn : Bool → Option Bool) : Option Bool :=
  (oB (qbo A4 (65535 : Int)) fun r1 => (bif r1 then (oB (qbo A5 (255 : Int)) fun r2 => (bif r2 then (oB (qbo A6 (255 : Int)) fun r3 => (bif r3 then (oB (qka A3) fun r4 => (kn r4)) else (kn false))) else (kn false))) else (kn false)))
def q33 := hull (qpj)
def qzy : SubB Tryz.prog (TIof Tryz.prog) 211 0 (kret [.t 4] decB) := jnB tabOk follows Tryz.f84 1310699 (.r [(2, .c qbg.b), (6, .c qbg.b), (11, .c qbg.b), (16, .c qpg.b)] [.sel [4] []]) S33_ (qpj) (fun f v K => f (v.b 3 0) (v.i 3 1) (v.i 3 2) (v.s 3 3) (v.s 3 4) (v.s 3 5) (v.i 3 6) (v.i 3 7) (v.i 3 8) (v.i 3 9) (v.i 3 10) (v.i 3 11) (v.i 3 12) (qxx K)) (by kernel_rfl) (fun _ _ => (by kernel_rfl))
def qxy  (K : Ex → Env → Mem → Option Bool) := (fun z_v4 => K .norm (qe [(4, (.bool z_v4))]) (qd []))
def qpk  (Al : Bool) (Am An : Int) (A1 A2 A3 : List UInt8) (A4 A5 A6 A7 A8 A9 Ba : Int) (kn : Bool → Option Bool) : Option Bool :=
  (oB (qg0 A4) fun r1 => (bif (r1 && (A4 != (46 : Int))) then (oB (qbo A5 (127 : Int)) fun r2 => (bif r2 then (oB (qbo A6 (2147483647 : Int)) fun r3 => (bif r3 then (oB (qbo A7 (4294967295 : Int)) fun r4 => (bif r4 then (oB (qbo A8 (4294967295 : Int)) fun r5 => (bif r5 then (oB (qbo A9 (65535 : Int)) fun r6 => (bif r6 then (oB (qhw A1) fun r7 => (bif r7 then (oB (qka A3) fun r8 => (kn r8)) else (kn false))) else (kn false))) else (kn false))) else (kn false))) else (kn false))) else (kn false))) else (kn false)))
def q34 := hull (qpk)
def qzz : SubB Tryz.prog (TIof Tryz.prog) 211 0 (kret [.t 4] decB) := jnB tabOk follows Tryz.f84 5242859 (.r [(2, .c qjq.b), (4, .g 3), (11, .c qbg.b), (16, .c qbg.b), (21, .c qbg.b), (26, .c qbg.b), (31, .c qbg.b), (36, .c qgc.b), (41, .c qpg.b)] [.sel [4] []]) S33_ (qpk) (fun f v K => f (v.b 3 0) (v.i 3 1) (v.i 3 2) (v.s 3 3) (v.s 3 4) (v.s 3 5) (v.i 3 6) (v.i 3 7) (v.i 3 8) (v.i 3 9) (v.i 3 10) (v.i 3 11) (v.i 3 12) (qxy K)) (by kernel_rfl) (fun _ _ => (by kernel_rfl))
def qxz  (K : Ex → Env → Mem → Option Bool) := (fun z_v4 => K .norm (qe [(4, (.bool z_v4))]) (qd []))
def qgq  (Al : Bool) (Am An : Int) (A1 A2 A3 : List UInt8) (A4 A5 A6 A7 A8 A9 Ba : Int) (kn : Bool → Option Bool) : Option Bool :=
  (bif (((A4 == (256 : Int)) || (A4 == (257 : Int))) && (A5 == (3 : Int))) then (oB (qbo A6 (255 : Int)) fun r1 => (bif r1 then (oB (qka A3) fun r2 => (kn r2)) else (kn false))) else (kn false))
def qrk := hull (qgq)
theorem qx0 : qrk = qgq := qa _
def qz0 : SubB Tryz.prog (TIof Tryz.prog) 211 0 (kret [.t 4] decB) := jnB tabOk follows Tryz.f84 83886059 (.r [(4, .g 3), (9, .g 3), (16, .c qbg.b), (21, .c qpg.b)] [.sel [4] []]) S33_ (qgq) (fun f v K => f (v.b 3 0) (v.i 3 1) (v.i 3 2) (v.s 3 3) (v.s 3 4) (v.s 3 5) (v.i 3 6) (v.i 3 7) (v.i 3 8) (v.i 3 9) (v.i 3 10) (v.i 3 11) (v.i 3 12) (qxz K)) (by kernel_rfl) (fun _ _ => (by kernel_rfl))
def qjr (v0 : Int) (Bb : Bool) (Bc Bd : Int) (Be Bf Bg : List UInt8) (Bh Bi Bj Bl Bm Bn Bo : Int) : Option Bool :=
  (qss v0 Bb Bc Bd Be Bf Bg Bh Bi Bj Bl Bm Bn Bo (fun v14q1 => (bif v14q1 then (some false) else (bif (v0 == (1 : Int)) then (oB (qxt Bb Bc Bd) fun r2 => (some (r2 && (!Bb)))) else (bif (v0 == (28 : Int)) then (some Bb) else (bif (v0 == (6 : Int)) then (q31 Bb Bc Bd Be Bf Bg Bh Bi Bj Bl Bm Bn Bo (fun v4q3 => (some v4q3))) else (bif (v0 == (15 : Int)) then (oB (qhw Be) fun r4 => (bif r4 then (oB (qbo Bh (65535 : Int)) fun r5 => (some r5)) else (some false))) else (bif (v0 == (16 : Int)) then (some (decide ((Bg.length : Int) ≤ (255 : Int)))) else (bif (v0 == (33 : Int)) then (q32 Bb Bc Bd Be Bf Bg Bh Bi Bj Bl Bm Bn Bo (fun v4q6 => (some v4q6))) else (bif (v0 == (43 : Int)) then (q33 Bb Bc Bd Be Bf Bg Bh Bi Bj Bl Bm Bn Bo (fun v4q7 => (some v4q7))) else (bif (v0 == (46 : Int)) then (q34 Bb Bc Bd Be Bf Bg Bh Bi Bj Bl Bm Bn Bo (fun v4q8 => (some v4q8))) else (bif (v0 == (47 : Int)) then (oB (qi5 Be) fun r9 => (bif (r9 && (Bo != (0 : Int))) then (oB (qbeg Bo) fun r10 => (some r10)) else (some false))) else (bif (v0 == (48 : Int)) then (qrk Bb Bc Bd Be Bf Bg Bh Bi Bj Bl Bm Bn Bo (fun v4q11 => (some v4q11))) else (oB (qhw Be) fun r12 => (some r12)))))))))))))))
def ql4 := hull qjr
theorem q6o : ql4 = qjr := qa _
def qt3 {R : Type} : EntF Tryz.prog R := entB (nt := 211) (dec := decB) (enc := AV.bool) tabOk follows Tryz.func84 [.t 4] hdeB (.s .z (.s (.s (.sub [.sel [0, 3] [0]] q2m []) .z) (.s (.s .z (.b (.s .z (.s (.s (.r [(2, .c qt1.b), (4, .g 4)] []) .z) (.s .z (.s .z (.s .z (.s (.s (.sub [.sel [3] [0]] qzw []) .z) (.s .z (.s (.s (.r [(2, .c qgc.b), (6, .c qbg.b)] []) .z) (.s .z (.s .z (.s .z (.s (.s (.sub [.sel [3] [0]] qzx []) .z) (.s .z (.s (.s (.sub [.sel [3] [0]] qzy []) .z) (.s .z (.s (.s (.sub [.sel [3] [0]] qzz []) .z) (.s .z (.s (.s (.r [(2, .c qnu.b), (4, .g 3), (11, .c qba9.b)] []) .z) (.s .z (.s (.s (.sub [.sel [3] [0]] qz0 []) .z) .z)))))))))))))))))))))) (.s (.r [(2, .c qgc.b)] []) .z)))) S34_ qjr (fun f v => f (v.i 0 0) (v.b 5 0) (v.i 5 1) (v.i 5 2) (v.s 5 3) (v.s 5 4) (v.s 5 5) (v.i 5 6) (v.i 5 7) (v.i 5 8) (v.i 5 9) (v.i 5 10) (v.i 5 11) (v.i 5 12)) (by kernel_rfl) (by kernel_rfl) (by kernel_rfl) fun _ => (by kernel_rfl)
def S59_ : Shp := ⟨[(0, .one (.l (.i .u64))), (5, .one (.own 0)), (6, .one (.l (.i .i64))), (7, .one (.l (.i .u64))), (8, .one (.l (.i .i64)))], [.arr true 1]⟩
def S60_ : Shp := ⟨[(0, .one (.l (.i .u64))), (5, .one (.own 0)), (6, .one (.l (.i .i64)))], [.arr true 1]⟩
def S61_ : Shp := ⟨[(0, .one (.l (.i .u64))), (1, .one (.l (.i .i64)))], []⟩
def qmk  (v0 v6 : Int) (a0 : List AV) (K : Ex → Env → Mem → Option (List UInt8)) := (fun z_v7 => K (.exit 2) (qe [(0, (.int .u64 v0)), (5, (.own 0 a0.length)), (6, (.int .i64 v6)), (7, (.int .u64 z_v7))]) (qd [(some (.arr true 1 a0))]))
def qoe  (v0 v6 v7 v8 : Int) (a0 : List AV) (next : Int → Int → Option (List UInt8)) (kx2 : Int → Option (List UInt8)) : Option (List UInt8) :=
  (bif (decide (v8 < v6)) then (next (IntKind.u64.wrap (v7.tdiv (256 : Int))) (IntKind.i64.wrap (v8 + (1 : Int)))) else (kx2 v7))
def qi6  (v0 v6 : Int) (a0 : List AV) (kx2 : Int → Option (List UInt8)) : Nat → Int → Int → Option (List UInt8)
  | 0 => (fun _ _ => none)
  | n + 1 => (fun v7 v8 => qoe v0 v6 v7 v8 a0 (qi6 v0 v6 a0 kx2 n) kx2)
def q2n := hull (qi6)
def qx1 : SubB Tryz.prog (TIof Tryz.prog) 31 0 (kret [.t 4] decS) := lpB tabOk follows Tryz.f142 19019 (.s (.s .z (.s .z (.v [.sel [0, 5, 6, 7] [0]]))) (.s .z (.v [.sel [0, 5, 6, 7, 8] [0]]))) S59_ (qi6) (fun f v K n => f (v.i 0 0) (v.i 24 0) (v.r 0) (qmk (v.i 0 0) (v.i 24 0) (v.r 0) K) n) (fun v f K => qoe (v.i 0 0) (v.i 24 0) (v.i 28 0) (v.i 32 0) (v.r 0) f (qmk (v.i 0 0) (v.i 24 0) (v.r 0) K)) (fun f v => f (v.i 28 0) (v.i 32 0)) (fun k v => (fun z0 z1 => k ((v.ui 28 0 z0).ui 32 0 z1))) (by kernel_rfl) (fun _ _ => (by kernel_rfl)) (fun _ _ _ => (by kernel_rfl)) (fun _ _ _ => (by kernel_rfl)) (fun _ _ => (by kernel_rfl)) (fun _ _ _ _ _ => (by kernel_rfl))
def qm6  (K : Ex → Env → Mem → Option (List UInt8)) := (fun z_a0 => K (.exit 0) (qe [(5, (.own 0 z_a0.length))]) (qd [(some (.arr true 1 z_a0))]))
def qpl  (v0 v6 : Int) (a0 : List AV) (next : Int → (List AV) → Option (List UInt8)) (kx0 : (List AV) → Option (List UInt8)) : Option (List UInt8) :=
  (bif (decide (v6 ≥ (0 : Int))) then (bif (hd a0 (a0.length) && true) then (q2n v0 v6 a0 (fun v7q1 => (bif hd a0 a0.length then (bif hd ([(.int .u8 (IntKind.u8.wrap (v7q1.tmod (256 : Int))))] : List AV) (([(.int .u8 (IntKind.u8.wrap (v7q1.tmod (256 : Int))))] : List AV).length) then (bif decide ((a0.length + ([(.int .u8 (IntKind.u8.wrap (v7q1.tmod (256 : Int))))] : List AV).length) * 1 ≤ 140737488355328) then (next (IntKind.i64.wrap (v6 - (1 : Int))) (a0 ++ ([(.int .u8 (IntKind.u8.wrap (v7q1.tmod (256 : Int))))] : List AV))) else none) else none) else none)) FU v0 (0 : Int)) else none) else (kx0 a0))
def qjs  (v0 : Int) (kx0 : (List AV) → Option (List UInt8)) : Nat → Int → (List AV) → Option (List UInt8)
  | 0 => (fun _ _ => none)
  | n + 1 => (fun v6 a0 => qpl v0 v6 a0 (qjs v0 kx0 n) kx0)
def q35 := hull (qjs)
def qz1 : SubB Tryz.prog (TIof Tryz.prog) 31 0 (kret [.t 4] decS) := lpB tabOk follows Tryz.f142 75 (.s (.s .z (.s .z (.v [.sel [5] [0]]))) (.s (.b (.s .z (.s (.s .z (.b (.sub [.sel [0, 5, 6, 7, 8] [0]] qx1 []))) .z))) (.v [.sel [0, 5, 6] [0]]))) S60_ (qjs) (fun f v K n => f (v.i 0 0) (qm6 K) n) (fun v f K => qpl (v.i 0 0) (v.i 24 0) (v.r 0) f (qm6 K)) (fun f v => f (v.i 24 0) (v.r 0)) (fun k v => (fun z0 z1 => k ((v.ui 24 0 z0).ur 0 z1))) (by kernel_rfl) (fun _ _ => (by kernel_rfl)) (fun _ _ _ => (by kernel_rfl)) (fun _ _ _ => (by kernel_rfl)) (fun _ _ => (by kernel_rfl)) (fun _ _ _ _ _ => (by kernel_rfl))
def qst (v0 v1 : Int) : Option (List UInt8) :=
  (bif (hd ([] : List AV) (([] : List AV).length) && true) then (q35 v0 (fun a0q1 => (bif hd a0q1 a0q1.length then (oB (qy a0q1) fun s2 => (some s2)) else none)) FU (IntKind.i64.wrap (v1 - (1 : Int))) ([] : List AV)) else none)
def qpm := hull qst
def qmv {R : Type} : EntF Tryz.prog R := entB (nt := 31) (dec := decS) (enc := AV.str) tabOk follows Tryz.func142 [.t 4] hdeS (.s .z (.s .z (.s (.s .z (.b (.sub [.own 5 1, .sel [0, 5, 6] [0]] qz1 []))) .z))) S61_ qst (fun f v => f (v.i 0 0) (v.i 4 0)) (by kernel_rfl) (by kernel_rfl) (by kernel_rfl) fun _ => (by kernel_rfl)
def q6p : AV → Option ((List UInt8) × Int) := decN [(.one .s), (.one (.i .i64))] fun z => (aS (gC (tpL z) 0), aI (gC (tpL z) 1))
def qvy (Aa : Bool) (Ab Ac : Int) : Option ((List UInt8) × Int) :=
  (oB (qxt Aa Ab Ac) fun r1 => (bif (!r1) then (some (([] : List UInt8), (3 : Int))) else (bif Aa then (oB (qpm Ab (8 : Int)) fun r2 => (oB (qpm Ac (8 : Int)) fun r3 => (bif decide (r2.length + r3.length ≤ 9223372036854775807) then (some ((r2 ++ r3), (0 : Int))) else none))) else (oB (qpm Ac (4 : Int)) fun r4 => (some (r4, (0 : Int)))))))
def qbdj := hull qvy
def q88 {R : Type} : EntF Tryz.prog R := entB (nt := 19) (dec := q6p) (enc := (fun r => .tup [.str r.1, .int .i64 r.2])) tabOk follows Tryz.func120 [.t 2, .t 3] (hdeN fun _ => rfl) (.s .z (.s (.s (.r [(1, .c qt1.b)] []) .z) (.s (.s .z (.s (.s (.d [] [(2, .c qmv.b)] [(0, .c qmv.b)] []) .z) .z)) (.s (.r [(2, .c qmv.b)] []) .z)))) S28_ qvy (fun f v => f (v.b 1 0) (v.i 1 1) (v.i 1 2)) (by kernel_rfl) (by kernel_rfl) (by kernel_rfl) fun _ => (by kernel_rfl)
def S62_ : Shp := ⟨[(0, .one (.l (.i .i64))), (5, .one (.own 0)), (6, .one (.l (.i .i64))), (7, .one (.l (.i .i64))), (8, .one (.l (.i .i64)))], [.arr true 1]⟩
def qml  (v0 v6 : Int) (a0 : List AV) (K : Ex → Env → Mem → Option (List UInt8)) := (fun z_v7 => K (.exit 2) (qe [(0, (.int .i64 v0)), (5, (.own 0 a0.length)), (6, (.int .i64 v6)), (7, (.int .i64 z_v7))]) (qd [(some (.arr true 1 a0))]))
def qof  (v0 v6 v7 v8 : Int) (a0 : List AV) (next : Int → Int → Option (List UInt8)) (kx2 : Int → Option (List UInt8)) : Option (List UInt8) :=
  (bif (decide (v8 < v6)) then (next (IntKind.i64.wrap (v7.tdiv (256 : Int))) (IntKind.i64.wrap (v8 + (1 : Int)))) else (kx2 v7))
def qdy  (v0 v6 : Int) (a0 : List AV) (kx2 : Int → Option (List UInt8)) : Nat → Int → Int → Option (List UInt8)
  | 0 => (fun _ _ => none)
  | n + 1 => (fun v7 v8 => qof v0 v6 v7 v8 a0 (qdy v0 v6 a0 kx2 n) kx2)
def qqf := hull (qdy)
theorem qwt : qqf = qdy := qa _
def qx2 : SubB Tryz.prog (TIof Tryz.prog) 31 0 (kret [.t 4] decS) := lpB tabOk follows Tryz.f122 19019 (.s (.s .z (.s .z (.v [.sel [0, 5, 6, 7] [0]]))) (.s .z (.v [.sel [0, 5, 6, 7, 8] [0]]))) S62_ (qdy) (fun f v K n => f (v.i 0 0) (v.i 24 0) (v.r 0) (qml (v.i 0 0) (v.i 24 0) (v.r 0) K) n) (fun v f K => qof (v.i 0 0) (v.i 24 0) (v.i 28 0) (v.i 32 0) (v.r 0) f (qml (v.i 0 0) (v.i 24 0) (v.r 0) K)) (fun f v => f (v.i 28 0) (v.i 32 0)) (fun k v => (fun z0 z1 => k ((v.ui 28 0 z0).ui 32 0 z1))) (by kernel_rfl) (fun _ _ => (by kernel_rfl)) (fun _ _ _ => (by kernel_rfl)) (fun _ _ _ => (by kernel_rfl)) (fun _ _ => (by kernel_rfl)) (fun _ _ _ _ _ => (by kernel_rfl))
def qm7  (K : Ex → Env → Mem → Option (List UInt8)) := (fun z_a0 => K (.exit 0) (qe [(5, (.own 0 z_a0.length))]) (qd [(some (.arr true 1 z_a0))]))
def qgr  (v0 v6 : Int) (a0 : List AV) (next : Int → (List AV) → Option (List UInt8)) (kx0 : (List AV) → Option (List UInt8)) : Option (List UInt8) :=
  (bif (decide (v6 ≥ (0 : Int))) then (bif (hd a0 (a0.length) && true) then (qqf v0 v6 a0 (fun v7q1 => (bif hd a0 a0.length then (bif hd ([(.int .u8 (IntKind.u8.wrap (v7q1.tmod (256 : Int))))] : List AV) (([(.int .u8 (IntKind.u8.wrap (v7q1.tmod (256 : Int))))] : List AV).length) then (bif decide ((a0.length + ([(.int .u8 (IntKind.u8.wrap (v7q1.tmod (256 : Int))))] : List AV).length) * 1 ≤ 140737488355328) then (next (IntKind.i64.wrap (v6 - (1 : Int))) (a0 ++ ([(.int .u8 (IntKind.u8.wrap (v7q1.tmod (256 : Int))))] : List AV))) else none) else none) else none)) FU v0 (0 : Int)) else none) else (kx0 a0))
def qcy  (v0 : Int) (kx0 : (List AV) → Option (List UInt8)) : Nat → Int → (List AV) → Option (List UInt8)
  | 0 => (fun _ _ => none)
  | n + 1 => (fun v6 a0 => qgr v0 v6 a0 (qcy v0 kx0 n) kx0)
def qrl := hull (qcy)
theorem qi7 : qrl = qcy := qa _
def qz2 : SubB Tryz.prog (TIof Tryz.prog) 31 0 (kret [.t 4] decS) := lpB tabOk follows Tryz.f122 75 (.s (.s .z (.s .z (.v [.sel [5] [0]]))) (.s (.b (.s .z (.s (.s .z (.b (.sub [.sel [0, 5, 6, 7, 8] [0]] qx2 []))) .z))) (.v [.sel [0, 5, 6] [0]]))) S36_ (qcy) (fun f v K n => f (v.i 0 0) (qm7 K) n) (fun v f K => qgr (v.i 0 0) (v.i 24 0) (v.r 0) f (qm7 K)) (fun f v => f (v.i 24 0) (v.r 0)) (fun k v => (fun z0 z1 => k ((v.ui 24 0 z0).ur 0 z1))) (by kernel_rfl) (fun _ _ => (by kernel_rfl)) (fun _ _ _ => (by kernel_rfl)) (fun _ _ _ => (by kernel_rfl)) (fun _ _ => (by kernel_rfl)) (fun _ _ _ _ _ => (by kernel_rfl))
def qey (v0 v1 : Int) : Option (List UInt8) :=
  (bif (hd ([] : List AV) (([] : List AV).length) && true) then (qrl v0 (fun a0q1 => (bif hd a0q1 a0q1.length then (oB (qy a0q1) fun s2 => (some s2)) else none)) FU (IntKind.i64.wrap (v1 - (1 : Int))) ([] : List AV)) else none)
def qi := hull qey
theorem qlg : qi = qey := qa _
def qj {R : Type} : EntF Tryz.prog R := entB (nt := 31) (dec := decS) (enc := AV.str) tabOk follows Tryz.func122 [.t 4] hdeS (.s .z (.s .z (.s (.s .z (.b (.sub [.own 5 1, .sel [0, 5, 6] [0]] qz2 []))) .z))) S29_ qey (fun f v => f (v.i 0 0) (v.i 4 0)) (by kernel_rfl) (by kernel_rfl) (by kernel_rfl) fun _ => (by kernel_rfl)
def S63_ : Shp := ⟨[(3, .one (.l .s)), (4, .one (.l (.sl 1))), (5, .one (.l (.i .i64)))], []⟩
def qk2  (K : Ex → Env → Mem → Option (List UInt8)) := (fun z_v3 => K (.exit 0) (qe [(3, (.str z_v3))]) (qd []))
def qmm  (v3 : List UInt8) (v4 : List AV) (v5 : Int) (next : (List UInt8) → Int → Option (List UInt8)) (kx0 : (List UInt8) → Option (List UInt8)) : Option (List UInt8) :=
  (bif (decide (v5 < (v4.length : Int))) then (oB (ixB v4 v5) fun y1 => (bif fitC [.s] y1.cells then (oB (qi ((gS y1.cells 0).length : Int) (1 : Int)) fun r2 => (oB (ixB v4 v5) fun y3 => (bif fitC [.s] y3.cells then (bif decide (r2.length + (gS y3.cells 0).length ≤ 9223372036854775807) then (bif decide (v3.length + (r2 ++ (gS y3.cells 0)).length ≤ 9223372036854775807) then (next (v3 ++ (r2 ++ (gS y3.cells 0))) (IntKind.i64.wrap (v5 + (1 : Int)))) else none) else none) else none))) else none)) else (kx0 v3))
def qhu  (v4 : List AV) (kx0 : (List UInt8) → Option (List UInt8)) : Nat → (List UInt8) → Int → Option (List UInt8)
  | 0 => (fun _ _ => none)
  | n + 1 => (fun v3 v5 => qmm v3 v4 v5 (qhu v4 kx0 n) kx0)
def qx3 := hull (qhu)
def qu6 : SubB Tryz.prog (TIof Tryz.prog) 30 0 (kret [.t 2] decS) := lpB tabOk follows Tryz.f121 151 (.s (.s .z (.s .z (.v [.sel [3] []]))) (.s (.b (.d [] [(3, .e 17 [.s]), (6, .c qj.b), (9, .e 23 [.s])] [] [])) (.v [.sel [3, 4, 5] []]))) S63_ (qhu) (fun f v K n => f (v.l 16 0) (qk2 K) n) (fun v f K => qmm (v.s 12 0) (v.l 16 0) (v.i 20 0) f (qk2 K)) (fun f v => f (v.s 12 0) (v.i 20 0)) (fun k v => (fun z0 z1 => k ((v.us 12 0 z0).ui 20 0 z1))) (by kernel_rfl) (fun _ _ => (by kernel_rfl)) (fun _ _ _ => (by kernel_rfl)) (fun _ _ _ => (by kernel_rfl)) (fun _ _ => (by kernel_rfl)) (fun _ _ _ _ _ => (by kernel_rfl))
def qqg (v0 : List UInt8) : Option (List UInt8) :=
  (oB (qkx v0) fun r1 => (qx3 r1 (fun v3q2 => (oB (qi (0 : Int) (1 : Int)) fun r3 => (bif decide (v3q2.length + r3.length ≤ 9223372036854775807) then (some (v3q2 ++ r3)) else none))) FU ([] : List UInt8) (0 : Int)))
def qez := hull qqg
def qc4 {R : Type} : EntF Tryz.prog R := entB (nt := 30) (dec := decS) (enc := AV.str) tabOk follows Tryz.func121 [.t 2] hdeS (.s .z (.s .z (.s (.r [(1, .k qsm.b)] []) (.s (.s .z (.b (.sub [.sel [3, 4, 5] []] qu6 []))) (.s (.r [(1, .c qj.b)] []) .z))))) S16_ qqg (fun f v => f (v.s 0 0)) (by kernel_rfl) (by kernel_rfl) (by kernel_rfl) fun _ => (by kernel_rfl)
def S64_ : Shp := ⟨[(3, .one (.ptr 0 0)), (14, .one (.l (.i .i64)))], [.box true (lk qca)]⟩
def qmw : AV → Option ((List UInt8) × Int) := decN [(.one .s), (.one (.i .i64))] fun z => (aS (gC (tpL z) 0), aI (gC (tpL z) 1))
def qz3  (v14 : Int) (Al : Bool) (Am An : Int) (A1 A2 A3 : List UInt8) (A4 A5 A6 A7 A8 A9 Ba : Int) (K : Ex → Env → Mem → Option ((List UInt8) × Int)) := (fun z_v15 => K .norm (qe [(3, (.ptr 0 0)), (14, (.int .i64 v14)), (15, (.bool z_v15))]) (qd [(some (.box true (q8 Al Am An A1 A2 A3 A4 A5 A6 A7 A8 A9 Ba)))]))
def qhk  (v14 : Int) (Al : Bool) (Am An : Int) (A1 A2 A3 : List UInt8) (A4 A5 A6 A7 A8 A9 Ba : Int) (kn : Bool → Option ((List UInt8) × Int)) : Option ((List UInt8) × Int) :=
  (bif (v14 == (1 : Int)) then (kn true) else (kn (v14 == (28 : Int))))
def qsu := hull (qhk)
theorem qz4 : qsu = qhk := qa _
def q2o : SubB Tryz.prog (TIof Tryz.prog) 157 0 (kret [.t 4, .t 5] qmw) := jnB tabOk follows Tryz.f85 151 (.s .z (.s (.v [.sel [3, 14, 15] [0]]) (.v [.sel [3, 14, 15] [0]]))) S64_ (qhk) (fun f v K => f (v.i 56 0) (v.b 3 0) (v.i 3 1) (v.i 3 2) (v.s 3 3) (v.s 3 4) (v.s 3 5) (v.i 3 6) (v.i 3 7) (v.i 3 8) (v.i 3 9) (v.i 3 10) (v.i 3 11) (v.i 3 12) (qz3 (v.i 56 0) (v.b 3 0) (v.i 3 1) (v.i 3 2) (v.s 3 3) (v.s 3 4) (v.s 3 5) (v.i 3 6) (v.i 3 7) (v.i 3 8) (v.i 3 9) (v.i 3 10) (v.i 3 11) (v.i 3 12) K)) (by kernel_rfl) (fun _ _ => (by kernel_rfl))
def qz5  (v14 : Int) (Al : Bool) (Am An : Int) (A1 A2 A3 : List UInt8) (A4 A5 A6 A7 A8 A9 Ba : Int) (K : Ex → Env → Mem → Option ((List UInt8) × Int)) := (fun z_v87 => K .norm (qe [(3, (.ptr 0 0)), (14, (.int .i64 v14)), (87, (.bool z_v87))]) (qd [(some (.box true (q8 Al Am An A1 A2 A3 A4 A5 A6 A7 A8 A9 Ba)))]))
def qhl  (v14 : Int) (Al : Bool) (Am An : Int) (A1 A2 A3 : List UInt8) (A4 A5 A6 A7 A8 A9 Ba : Int) (kn : Bool → Option ((List UInt8) × Int)) : Option ((List UInt8) × Int) :=
  (bif (v14 == (43 : Int)) then (kn true) else (kn (v14 == (48 : Int))))
def qsv := hull (qhl)
theorem qz6 : qsv = qhl := qa _
def q2p : SubB Tryz.prog (TIof Tryz.prog) 157 0 (kret [.t 4, .t 5] qmw) := jnB tabOk follows Tryz.f85 196567 (.s .z (.s (.v [.sel [3, 14, 87] [0]]) (.v [.sel [3, 14, 87] [0]]))) S64_ (qhl) (fun f v K => f (v.i 56 0) (v.b 3 0) (v.i 3 1) (v.i 3 2) (v.s 3 3) (v.s 3 4) (v.s 3 5) (v.i 3 6) (v.i 3 7) (v.i 3 8) (v.i 3 9) (v.i 3 10) (v.i 3 11) (v.i 3 12) (qz5 (v.i 56 0) (v.b 3 0) (v.i 3 1) (v.i 3 2) (v.s 3 3) (v.s 3 4) (v.s 3 5) (v.i 3 6) (v.i 3 7) (v.i 3 8) (v.i 3 9) (v.i 3 10) (v.i 3 11) (v.i 3 12) K)) (by kernel_rfl) (fun _ _ => (by kernel_rfl))
def qk3 (v0 : Int) (Bb : Bool) (Bc Bd : Int) (Be Bf Bg : List UInt8) (Bh Bi Bj Bl Bm Bn Bo : Int) : Option ((List UInt8) × Int) :=
  (oB (qg0 v0) fun r1 => (bif (!r1) then (some (([] : List UInt8), (4 : Int))) else (oB (ql4 v0 Bb Bc Bd Be Bf Bg Bh Bi Bj Bl Bm Bn Bo) fun r2 => (bif (!r2) then (some (([] : List UInt8), (5 : Int))) else (qsu v0 Bb Bc Bd Be Bf Bg Bh Bi Bj Bl Bm Bn Bo (fun v15q3 => (bif v15q3 then (oB (qbdj Bb Bc Bd) fun r4 => (some (r4.1, r4.2))) else (bif (v0 == (6 : Int)) then (oB (qez Be) fun r5 => (oB (qez Bf) fun r6 => (bif decide (r5.length + r6.length ≤ 9223372036854775807) then (oB (qi Bh (4 : Int)) fun r7 => (bif decide ((r5 ++ r6).length + r7.length ≤ 9223372036854775807) then (oB (qi Bi (4 : Int)) fun r8 => (bif decide (((r5 ++ r6) ++ r7).length + r8.length ≤ 9223372036854775807) then (oB (qi Bj (4 : Int)) fun r9 => (bif decide ((((r5 ++ r6) ++ r7) ++ r8).length + r9.length ≤ 9223372036854775807) then (oB (qi Bl (4 : Int)) fun r10 => (bif decide (((((r5 ++ r6) ++ r7) ++ r8) ++ r9).length + r10.length ≤ 9223372036854775807) then (oB (qi Bm (4 : Int)) fun r11 => (bif decide ((((((r5 ++ r6) ++ r7) ++ r8) ++ r9) ++ r10).length + r11.length ≤ 9223372036854775807) then (some (((((((r5 ++ r6) ++ r7) ++ r8) ++ r9) ++ r10) ++ r11), (0 : Int))) else none)) else none)) else none)) else none)) else none)) else none))) else (bif (v0 == (15 : Int)) then (oB (qi Bh (2 : Int)) fun r12 => (oB (qez Be) fun r13 => (bif decide (r12.length + r13.length ≤ 9223372036854775807) then (some ((r12 ++ r13), (0 : Int))) else none))) else (bif (v0 == (16 : Int)) then (oB (qi (Bg.length : Int) (1 : Int)) fun r14 => (bif decide (r14.length + Bg.length ≤ 9223372036854775807) then (some ((r14 ++ Bg), (0 : Int))) else none)) else (bif (v0 == (33 : Int)) then (oB (qi Bh (2 : Int)) fun r15 => (oB (qi Bi (2 : Int)) fun r16 => (bif decide (r15.length + r16.length ≤ 9223372036854775807) then (oB (qi Bj (2 : Int)) fun r17 => (bif decide ((r15 ++ r16).length + r17.length ≤ 9223372036854775807) then (oB (qez Be) fun r18 => (bif decide (((r15 ++ r16) ++ r17).length + r18.length ≤ 9223372036854775807) then (some ((((r15 ++ r16) ++ r17) ++ r18), (0 : Int))) else none)) else none)) else none))) else (qsv v0 Bb Bc Bd Be Bf Bg Bh Bi Bj Bl Bm Bn Bo (fun v87q19 => (bif v87q19 then (oB (qi Bh (2 : Int)) fun r20 => (oB (qi Bi (1 : Int)) fun r21 => (bif decide (r20.length + r21.length ≤ 9223372036854775807) then (oB (qi Bj (1 : Int)) fun r22 => (bif decide ((r20 ++ r21).length + r22.length ≤ 9223372036854775807) then (bif decide (((r20 ++ r21) ++ r22).length + Bg.length ≤ 9223372036854775807) then (some ((((r20 ++ r21) ++ r22) ++ Bg), (0 : Int))) else none) else none)) else none))) else (bif (v0 == (46 : Int)) then (oB (qi Bh (2 : Int)) fun r23 => (oB (qi (253 : Int) (1 : Int)) fun r24 => (bif decide (r23.length + r24.length ≤ 9223372036854775807) then (oB (qi Bi (1 : Int)) fun r25 => (bif decide ((r23 ++ r24).length + r25.length ≤ 9223372036854775807) then (oB (qi Bj (4 : Int)) fun r26 => (bif decide (((r23 ++ r24) ++ r25).length + r26.length ≤ 9223372036854775807) then (oB (qi Bl (4 : Int)) fun r27 => (bif decide ((((r23 ++ r24) ++ r25) ++ r26).length + r27.length ≤ 9223372036854775807) then (oB (qi Bm (4 : Int)) fun r28 => (bif decide (((((r23 ++ r24) ++ r25) ++ r26) ++ r27).length + r28.length ≤ 9223372036854775807) then (oB (qi Bn (2 : Int)) fun r29 => (bif decide ((((((r23 ++ r24) ++ r25) ++ r26) ++ r27) ++ r28).length + r29.length ≤ 9223372036854775807) then (oB (qez Be) fun r30 => (bif decide (((((((r23 ++ r24) ++ r25) ++ r26) ++ r27) ++ r28) ++ r29).length + r30.length ≤ 9223372036854775807) then (bif decide ((((((((r23 ++ r24) ++ r25) ++ r26) ++ r27) ++ r28) ++ r29) ++ r30).length + Bg.length ≤ 9223372036854775807) then (some (((((((((r23 ++ r24) ++ r25) ++ r26) ++ r27) ++ r28) ++ r29) ++ r30) ++ Bg), (0 : Int))) else none) else none)) else none)) else none)) else none)) else none)) else none)) else none))) else (bif (v0 == (47 : Int)) then none else (oB (qez Be) fun r31 => (some (r31, (0 : Int))))))))))))))))))))
def qr5 := hull qk3
theorem q71 : qr5 = qk3 := qa _
def q89 {R : Type} : EntF Tryz.prog R := entB (nt := 157) (dec := qmw) (enc := (fun r => .tup [.str r.1, .int .i64 r.2])) tabOk follows Tryz.func85 [.t 4, .t 5] (hdeN fun _ => rfl) (.s .z (.s (.s (.r [(1, .c qjq.b)] []) .z) (.s (.s (.r [(2, .c qt3.b)] []) .z) (.s (.s .z (.b (.s (.sub [.sel [3, 14] [0]] q2o []) (.s (.s (.r [(2, .c q88.b)] []) .z) (.s .z (.s (.s (.d [] [(2, .c qc4.b), (5, .c qc4.b), (9, .c qj.b), (13, .c qj.b), (17, .c qj.b), (21, .c qj.b), (25, .c qj.b)] [] []) .z) (.s .z (.s (.s (.d [] [(2, .c qj.b)] [(0, .c qc4.b)] []) .z) (.s .z (.s (.s (.d [] [(3, .c qj.b)] [] []) .z) (.s .z (.s (.s (.d [] [(2, .c qj.b), (5, .c qj.b), (9, .c qj.b), (13, .c qc4.b)] [] []) .z) (.s (.sub [.sel [3, 14] [0]] q2p []) (.s (.s (.d [] [(2, .c qj.b), (5, .c qj.b), (9, .c qj.b)] [] []) .z) (.s .z (.s (.s (.d [] [(2, .c qj.b), (3, .c qj.b), (7, .c qj.b), (11, .c qj.b), (15, .c qj.b), (19, .c qj.b), (23, .c qj.b), (27, .c qc4.b)] [] []) .z) (.s .z (.s (.s (.r [(2, .c (eK (qbai (f := 123))))] []) .z) .z)))))))))))))))))) (.s (.r [(2, .c qc4.b)] []) .z))))) S34_ qk3 (fun f v => f (v.i 0 0) (v.b 5 0) (v.i 5 1) (v.i 5 2) (v.s 5 3) (v.s 5 4) (v.s 5 5) (v.i 5 6) (v.i 5 7) (v.i 5 8) (v.i 5 9) (v.i 5 10) (v.i 5 11) (v.i 5 12)) (by kernel_rfl) (by kernel_rfl) (by kernel_rfl) fun _ => (by kernel_rfl)
def qqh  (K : Ex → Env → Mem → Option Int) := (fun z_v3 => K (.exit 0) (qe [(3, (.int .i64 z_v3))]) (qd []))
def qgk  (v0 : List UInt8) (v3 v4 : Int) (next : Int → Int → Option Int) (kx0 : Int → Option Int) : Option Int :=
  (bif (decide (v4 < (v0.length : Int))) then (bif ((v4.tmod (2 : Int)) == (0 : Int)) then (oB (ixB v0 v4) fun c1 => (next (IntKind.i64.wrap (v3 + (IntKind.i64.wrap ((256 : Int) * (IntKind.i64.wrap (c1.toNat : Int)))))) (IntKind.i64.wrap (v4 + (1 : Int))))) else (oB (ixB v0 v4) fun c2 => (next (IntKind.i64.wrap (v3 + (IntKind.i64.wrap (c2.toNat : Int)))) (IntKind.i64.wrap (v4 + (1 : Int)))))) else (kx0 v3))
def qgl  (v0 : List UInt8) (kx0 : Int → Option Int) : Nat → Int → Int → Option Int
  | 0 => (fun _ _ => none)
  | n + 1 => (fun v3 v4 => qgk v0 v3 v4 (qgl v0 kx0 n) kx0)
def qvz := hull (qgl)
theorem q36 : qvz = qgl := qa _
def q6q : SubB Tryz.prog (TIof Tryz.prog) 34 0 (kret [.t 2] (decI .i64)) := lpB tabOk follows Tryz.f86 75 (.s (.s .z (.s .z (.v [.sel [3] []]))) (.s .z (.v [.sel [0, 3, 4] []]))) S39_ (qgl) (fun f v K n => f (v.s 0 0) (qqh K) n) (fun v f K => qgk (v.s 0 0) (v.i 12 0) (v.i 16 0) f (qqh K)) (fun f v => f (v.i 12 0) (v.i 16 0)) (fun k v => (fun z0 z1 => k ((v.ui 12 0 z0).ui 16 0 z1))) (by kernel_rfl) (fun _ _ => (by kernel_rfl)) (fun _ _ _ => (by kernel_rfl)) (fun _ _ _ => (by kernel_rfl)) (fun _ _ => (by kernel_rfl)) (fun _ _ _ _ _ => (by kernel_rfl))
def ql5 (v0 : List UInt8) : Option Int :=
  (qvz v0 (fun v3q1 => (some ((IntKind.i64.wrap (v3q1 + ((IntKind.i64.wrap (v3q1.tdiv (65536 : Int))).tmod (65536 : Int)))).tmod (65536 : Int)))) FU (0 : Int) (0 : Int))
def qt4 := hull ql5
theorem q9a : qt4 = ql5 := qa _
def qbba {R : Type} : EntF Tryz.prog R := entB (nt := 34) (dec := (decI .i64)) (enc := (AV.int .i64)) tabOk follows Tryz.func86 [.t 2] hdeI (.s .z (.s .z (.s (.s .z (.b (.sub [.sel [0, 3, 4] []] q6q []))) .z))) S16_ ql5 (fun f v => f (v.s 0 0)) (by kernel_rfl) (by kernel_rfl) (by kernel_rfl) fun _ => (by kernel_rfl)
def ql6 (Aa : Bool) (Ab Ac : Int) (Ad Ae Af : List UInt8) (Ag Bp Bq Br Bs Bt Bu : Int) : Option Int :=
  (oB (ql4 (48 : Int) Aa Ab Ac Ad Ae Af Ag Bp Bq Br Bs Bt Bu) fun r1 => (bif (!r1) then (some (0 : Int)) else (oB (qr5 (48 : Int) Aa Ab Ac Ad Ae Af Ag Bp Bq Br Bs Bt Bu) fun r2 => (oB (qt4 r2.1) fun r3 => (some r3)))))
def qt5 := hull ql6
theorem q9b : qt5 = ql6 := qa _
def qbbb {R : Type} : EntF Tryz.prog R := entB (nt := 15) (dec := (decI .i64)) (enc := (AV.int .i64)) tabOk follows Tryz.func63 [.t 2] hdeI (.s .z (.s (.s (.r [(1, .c qt3.b)] []) .z) (.s (.r [(1, .c q89.b)] []) (.s (.r [(1, .c qbba.b)] []) .z)))) S40_ ql6 (fun f v => f (v.b 1 0) (v.i 1 1) (v.i 1 2) (v.s 1 3) (v.s 1 4) (v.s 1 5) (v.i 1 6) (v.i 1 7) (v.i 1 8) (v.i 1 9) (v.i 1 10) (v.i 1 11) (v.i 1 12)) (by kernel_rfl) (by kernel_rfl) (by kernel_rfl) fun _ => (by kernel_rfl)
def ql7 (Aa : List UInt8) (Ab : Bool) (Ac : Int) : Option Int :=
  (oB (qnl Aa Ab Ac) fun r1 => (oB (qt5 (gB r1.1.cells 0) (gI r1.1.cells 1) (gI r1.1.cells 2) (gS r1.1.cells 3) (gS r1.1.cells 4) (gS r1.1.cells 5) (gI r1.1.cells 6) (gI r1.1.cells 7) (gI r1.1.cells 8) (gI r1.1.cells 9) (gI r1.1.cells 10) (gI r1.1.cells 11) (gI r1.1.cells 12)) fun r2 => (some r2)))
def qpn := hull ql7
theorem q9c : qpn = ql7 := qa _
def qx4 {R : Type} : EntF Tryz.prog R := entB (nt := 12) (dec := (decI .i64)) (enc := (AV.int .i64)) tabOk follows Tryz.func43 [.t 2] hdeI (.s .z (.s (.r [(1, .c qvw.b)] []) (.s (.r [(1, .c qbbb.b)] []) .z))) S25_ ql7 (fun f v => f (v.s 1 0) (v.b 1 1) (v.i 1 2)) (by kernel_rfl) (by kernel_rfl) (by kernel_rfl) fun _ => (by kernel_rfl)
def S65_ : Shp := ⟨[(0, .one (.l (.sl 7))), (3, .one (.l (.i .i64))), (4, .one (.ptr 0 0)), (6, .one (.l (.i .i64)))], [.box true (lk qb)]⟩
def S66_ : Shp := ⟨[(0, .one (.l (.sl 7))), (3, .one (.l (.i .i64))), (4, .one (.ptr 0 0)), (7, .one (.l (.i .i64)))], [.box true (lk qb)]⟩
def S67_ : Shp := ⟨[(0, .one (.l (.sl 7))), (3, .one (.l (.i .i64)))], []⟩
def qx5  (v0 : List AV) (v3 : Int) (Al : List UInt8) (Am : Bool) (An A1 A2 A3 A4 : Int) (K : Ex → Env → Mem → Option Int) := (fun z_v39 => K .norm (qe [(0, (.sl 7 v0)), (3, (.int .i64 v3)), (4, (.ptr 0 0)), (39, (.bool z_v39))]) (qd [(some (.box true (qbz Al Am An A1 A2 A3 A4)))]))
def qgs  (v0 : List AV) (v3 v6 : Int) (Al : List UInt8) (Am : Bool) (An A1 A2 A3 A4 : Int) (kn : Bool → Option Int) : Option Int :=
  (bif (v6 != (0 : Int)) then (kn true) else (oB (ixB v0 (0 : Int)) fun y1 => (bif fitC qb y1.cells then (kn (!(Al == (gS y1.cells 0)))) else none)))
def qrm := hull (qgs)
theorem qx6 : qrm = qgs := qa _
def qz7 : SubB Tryz.prog (TIof Tryz.prog) 84 0 (kret [.t 2] (decI .i64)) := jnB tabOk follows Tryz.f23 9803 (.d [] [(7, .e 34 qb)] [] [.sel [0, 3, 4, 39] [0]]) S65_ (qgs) (fun f v K => f (v.l 0 0) (v.i 12 0) (v.i 24 0) (v.s 3 0) (v.b 3 1) (v.i 3 2) (v.i 3 3) (v.i 3 4) (v.i 3 5) (v.i 3 6) (qx5 (v.l 0 0) (v.i 12 0) (v.s 3 0) (v.b 3 1) (v.i 3 2) (v.i 3 3) (v.i 3 4) (v.i 3 5) (v.i 3 6) K)) (by kernel_rfl) (fun _ _ => (by kernel_rfl))
def qm8  (v0 : List AV) (v3 : Int) (Al : List UInt8) (Am : Bool) (An A1 A2 A3 A4 : Int) (K : Ex → Env → Mem → Option Int) := (fun (_ : Unit) => K (.exit 2) (qe [(0, (.sl 7 v0)), (3, (.int .i64 v3)), (4, (.ptr 0 0))]) (qd [(some (.box true (qbz Al Am An A1 A2 A3 A4)))]))
def qep  (v0 : List AV) (v3 v7 : Int) (Al : List UInt8) (Am : Bool) (An A1 A2 A3 A4 : Int) (next : Int → Option Int) (kx2 : Unit → Option Int) : Option Int :=
  (bif (decide (v7 < v3)) then (oB (ixB v0 v7) fun y1 => (bif fitC qb y1.cells then (oB (qpn (gS y1.cells 0) (gB y1.cells 1) (gI y1.cells 2)) fun r2 => (oB (qpn Al Am An) fun r3 => (bif (r2 == r3) then (some (18 : Int)) else (next (IntKind.i64.wrap (v7 + (1 : Int))))))) else none)) else (kx2 ()))
def qeq  (v0 : List AV) (v3 : Int) (Al : List UInt8) (Am : Bool) (An A1 A2 A3 A4 : Int) (kx2 : Unit → Option Int) : Nat → Int → Option Int
  | 0 => (fun _ => none)
  | n + 1 => (fun v7 => qep v0 v3 v7 Al Am An A1 A2 A3 A4 (qeq v0 v3 Al Am An A1 A2 A3 A4 kx2 n) kx2)
def qlh := hull (qeq)
theorem qx7 : qlh = qeq := qa _
def qz8 : SubB Tryz.prog (TIof Tryz.prog) 84 0 (kret [.t 2] (decI .i64)) := lpB tabOk follows Tryz.f23 77387 (.s (.s .z (.s .z (.v [.sel [0, 3, 4] [0]]))) (.s (.b (.s (.d [] [(2, .e 47 qb), (5, .c qx4.b)] [(0, .c qx4.b)] []) .z)) (.v [.sel [0, 3, 4, 7] [0]]))) S66_ (qeq) (fun f v K n => f (v.l 0 0) (v.i 12 0) (v.s 3 0) (v.b 3 1) (v.i 3 2) (v.i 3 3) (v.i 3 4) (v.i 3 5) (v.i 3 6) (qm8 (v.l 0 0) (v.i 12 0) (v.s 3 0) (v.b 3 1) (v.i 3 2) (v.i 3 3) (v.i 3 4) (v.i 3 5) (v.i 3 6) K) n) (fun v f K => qep (v.l 0 0) (v.i 12 0) (v.i 28 0) (v.s 3 0) (v.b 3 1) (v.i 3 2) (v.i 3 3) (v.i 3 4) (v.i 3 5) (v.i 3 6) f (qm8 (v.l 0 0) (v.i 12 0) (v.s 3 0) (v.b 3 1) (v.i 3 2) (v.i 3 3) (v.i 3 4) (v.i 3 5) (v.i 3 6) K)) (fun f v => f (v.i 28 0)) (fun k v => (fun z0 => k (v.ui 28 0 z0))) (by kernel_rfl) (fun _ _ => (by kernel_rfl)) (fun _ _ _ => (by kernel_rfl)) (fun _ _ _ => (by kernel_rfl)) (fun _ _ => (by kernel_rfl)) (fun _ _ _ _ _ => (by kernel_rfl))
def qm9  (K : Ex → Env → Mem → Option Int) := (fun (_ : Unit) => K (.exit 0) (qe []) (qd []))
def qer  (v0 : List AV) (v3 : Int) (next : Int → Option Int) (kx0 : Unit → Option Int) : Option Int :=
  (bif (decide (v3 < (v0.length : Int))) then (oB (ixB v0 v3) fun y1 => (bif fitC qb y1.cells then (oB (qnl (gS y1.cells 0) (gB y1.cells 1) (gI y1.cells 2)) fun r2 => (qrm v0 v3 r2.2 (gS y1.cells 0) (gB y1.cells 1) (gI y1.cells 2) (gI y1.cells 3) (gI y1.cells 4) (gI y1.cells 5) (gI y1.cells 6) (fun v39q3 => (bif v39q3 then (some (18 : Int)) else (qlh v0 v3 (gS y1.cells 0) (gB y1.cells 1) (gI y1.cells 2) (gI y1.cells 3) (gI y1.cells 4) (gI y1.cells 5) (gI y1.cells 6) (fun (_ : Unit) => (bif (((((decide ((gI y1.cells 3) < (0 : Int))) || (decide ((gI y1.cells 3) > (gI y1.cells 4)))) || (decide ((gI y1.cells 4) > (gI y1.cells 5)))) || (decide ((gI y1.cells 5) > (gI y1.cells 6)))) || (decide ((gI y1.cells 6) > (4294967295 : Int)))) then (some (20 : Int)) else (next (IntKind.i64.wrap (v3 + (1 : Int)))))) FU (0 : Int)))))) else none)) else (kx0 ()))
def qcz  (v0 : List AV) (kx0 : Unit → Option Int) : Nat → Int → Option Int
  | 0 => (fun _ => none)
  | n + 1 => (fun v3 => qer v0 v3 (qcz v0 kx0 n) kx0)
def qrn := hull (qcz)
theorem qx8 : qrn = qcz := qa _
def qz9 : SubB Tryz.prog (TIof Tryz.prog) 84 0 (kret [.t 2] (decI .i64)) := lpB tabOk follows Tryz.f23 75 (.s (.s .z (.s .z (.v [.sel [] []]))) (.s (.b (.s (.r [(2, .p (.etac 19 qb))] []) (.s (.r [(2, .c qvw.b)] []) (.s (.s (.sub [.sel [0, 3, 4, 6] [0]] qz7 []) .z) (.s (.s .z (.b (.sub [.sel [0, 3, 4, 7] [0]] qz8 []))) (.s (.r [(4, .g 5), (11, .g 5), (18, .g 5), (25, .g 3)] []) .z)))))) (.v [.sel [0, 3] []]))) S67_ (qcz) (fun f v K n => f (v.l 0 0) (qm9 K) n) (fun v f K => qer (v.l 0 0) (v.i 12 0) f (qm9 K)) (fun f v => f (v.i 12 0)) (fun k v => (fun z0 => k (v.ui 12 0 z0))) (by kernel_rfl) (fun _ _ => (by kernel_rfl)) (fun _ _ _ => (by kernel_rfl)) (fun _ _ _ => (by kernel_rfl)) (fun _ _ => (by kernel_rfl)) (fun _ _ _ _ _ => (by kernel_rfl))
def qjt (v0 : List AV) : Option Int :=
  (bif (decide ((v0.length : Int) > (16 : Int))) then (some (9 : Int)) else (qrn v0 (fun (_ : Unit) => (some (0 : Int))) FU (0 : Int)))
def qqq := hull qjt
theorem q6r : qqq = qjt := qa _
def q72 {R : Type} : EntF Tryz.prog R := entB (nt := 84) (dec := (decI .i64)) (enc := (AV.int .i64)) tabOk follows Tryz.func23 [.t 2] hdeI (.s .z (.s .z (.s (.s .z (.b (.sub [.sel [0, 3] []] qz9 []))) .z))) S1_ qjt (fun f v => f (v.l 0 0)) (by kernel_rfl) (by kernel_rfl) (by kernel_rfl) fun _ => (by kernel_rfl)
def S68_ : Shp := ⟨[(0, .st (lk qb)), (1, .one (.l (.i .i64)))], []⟩
def qju (Aa : List UInt8) (Ab : Bool) (Ac Ad Ae Af Ag v1 : Int) : Option Bool :=
  (some ((decide (Ad ≤ v1)) && (decide (v1 < Ag))))
def qia := hull qju
theorem qx9 : qia = qju := qa _
def qpo {R : Type} : EntF Tryz.prog R := entB (nt := 15) (dec := decB) (enc := AV.bool) tabOk follows Tryz.func39 [.t 4] hdeB (.s .z (.s (.r [(5, .g 4)] []) .z)) S68_ qju (fun f v => f (v.s 1 0) (v.b 1 1) (v.i 1 2) (v.i 1 3) (v.i 1 4) (v.i 1 5) (v.i 1 6) (v.i 4 0)) (by kernel_rfl) (by kernel_rfl) (by kernel_rfl) fun _ => (by kernel_rfl)
def S70_ : Shp := ⟨[(0, .st (lk qb)), (1, .one (.ptr 0 0))], [.box true [(.l (.i .i64))], .arr true 3, .box true (lk qb)]⟩
def qs3 {R : Type} (KK : AV → Mem → Option R) := (fun v3 Al a1 Bv Bw Bx By Bz B0 B1 => KK (.bool v3) (qd [(some (.box true [(.int .i64 Al)])), (some (.arr true 3 a1)), (some (.box true (qbz Bv Bw Bx By Bz B0 B1)))]))
def qes {R : Type}  (Aa : List UInt8) (Ab : Bool) (Ac Ad Ae Af Ag Al : Int) (a1 : List AV) (Bv : List UInt8) (Bw : Bool) (Bx By Bz B0 B1 : Int) (kr : Bool → Int → (List AV) → (List UInt8) → Bool → Int → Int → Int → Int → Int → Option R) : Option R :=
  (oB (qia Aa Ab Ac Ad Ae Af Ag Al) fun r1 => (kr r1 Al a1 Bv Bw Bx By Bz B0 B1))
def qim {R : Type} := hull (qes (R := R))
theorem qs4 {R : Type} : qim (R := R) = qes := qa _
def qt6 {R : Type} : RefB Tryz.prog R := refB (nt := 7) (nb := 3) tabOk follows Tryz.func38 [.t 3] (fun KK => .s .z (.s (.r [(2, .c qpo.b)] []) (.v [.sel [3] [0, 1, 2]]))) S70_ (qes (R := R)) (fun f v KK => f (v.s 1 0) (v.b 1 1) (v.i 1 2) (v.i 1 3) (v.i 1 4) (v.i 1 5) (v.i 1 6) (v.i 3 0) (v.r 1) (v.s 11 0) (v.b 11 1) (v.i 11 2) (v.i 11 3) (v.i 11 4) (v.i 11 5) (v.i 11 6) (qs3 KK)) (by kernel_rfl) (by kernel_rfl) (fun _ => (by kernel_rfl)) rfl fun _ _ => (by kernel_rfl)
def S71_ : Shp := ⟨[(1, .one (.fn 38 [(0, 0)])), (5, .one (.own 1)), (8, .one (.l (.sl 7))), (9, .one (.l (.i .i64))), (10, .one (.l (.i .i64)))], [.box true [(.l (.i .i64))], .arr true 3]⟩
def S72_ : Shp := ⟨[(0, .one (.l (.sl 7))), (1, .one (.fn 38 [(0, 0)]))], [.box true [(.l (.i .i64))]]⟩
def qdz {R : Type}  (K : Ex → Env → Mem → Option R) := (fun z_b0_0 z_a1 => K (.exit 0) (qe [(5, (.own 1 z_a1.length))]) (qd [(some (.box true [(.int .i64 z_b0_0)])), (some (.arr true 3 z_a1))]))
def qbe {R : Type}  (v8 : List AV) (v9 v10 Al : Int) (a1 : List AV) (next : Int → Int → (List AV) → Option R) (kx0 : Int → (List AV) → Option R) : Option R :=
  (bif (decide (v10 < v9)) then (oB (ixB v8 v10) fun y1 => (bif fitC qb y1.cells then (qim (gS y1.cells 0) (gB y1.cells 1) (gI y1.cells 2) (gI y1.cells 3) (gI y1.cells 4) (gI y1.cells 5) (gI y1.cells 6) Al a1 (gS y1.cells 0) (gB y1.cells 1) (gI y1.cells 2) (gI y1.cells 3) (gI y1.cells 4) (gI y1.cells 5) (gI y1.cells 6) fun v3q2 b0_0q3 a1q4 b2_0q5 b2_1q6 b2_2q7 b2_3q8 b2_4q9 b2_5q10 b2_6q11 => (bif v3q2 then (bif hd a1q4 a1.length then (bif hd ([(.agg [(.str b2_0q5), (.bool b2_1q6), (.int .i64 b2_2q7)])] : List AV) (([(.agg [(.str b2_0q5), (.bool b2_1q6), (.int .i64 b2_2q7)])] : List AV).length) then (bif decide ((a1q4.length + ([(.agg [(.str b2_0q5), (.bool b2_1q6), (.int .i64 b2_2q7)])] : List AV).length) * 32 ≤ 140737488355328) then (bif hd (a1q4 ++ ([(.agg [(.str b2_0q5), (.bool b2_1q6), (.int .i64 b2_2q7)])] : List AV)) ((a1q4 ++ ([(.agg [(.str b2_0q5), (.bool b2_1q6), (.int .i64 b2_2q7)])] : List AV)).length) then (next (IntKind.i64.wrap (v10 + (1 : Int))) b0_0q3 (a1q4 ++ ([(.agg [(.str b2_0q5), (.bool b2_1q6), (.int .i64 b2_2q7)])] : List AV))) else none) else none) else none) else none) else (bif hd a1q4 a1.length then (next (IntKind.i64.wrap (v10 + (1 : Int))) b0_0q3 a1q4) else none))) else none)) else (kx0 Al a1))
def qbf {R : Type}  (v8 : List AV) (v9 : Int) (kx0 : Int → (List AV) → Option R) : Nat → Int → Int → (List AV) → Option R
  | 0 => (fun _ _ _ => none)
  | n + 1 => (fun v10 Al a1 => qbe v8 v9 v10 Al a1 (qbf v8 v9 kx0 n) kx0)
def qff {R : Type} := hull (qbf (R := R))
theorem qje {R : Type} : qff (R := R) = qbf := qa _
def qjv {R : Type} (KK : AV → Mem → Option R) : SubB Tryz.prog (TIof Tryz.prog) 24 1 (qf4 [.t 4] KK) := lpB tabOk follows Tryz.f37 75 (.s .z (.s (.s .z (.v [.sel [5] [0, 1]])) (.s (.b (.s (.r [(0, .p (.etac 12 qb))] []) (.s (.r [(2, .s (.sel [1, 5, 7, 8, 9, 10, 14, 15] [0, 1, 2])), (2, .r qt6)] []) .z))) (.v [.hd 5, .sel [1, 5, 8, 9, 10] [0, 1]])))) S71_ (qbf (R := R)) (fun f v K n => f (v.l 32 0) (v.i 36 0) (qdz K) n) (fun v f K => qbe (v.l 32 0) (v.i 36 0) (v.i 40 0) (v.i 3 0) (v.r 1) f (qdz K)) (fun f v => f (v.i 40 0) (v.i 3 0) (v.r 1)) (fun k v => (fun z0 z1 z2 => k (((v.ui 40 0 z0).ui 3 0 z1).ur 1 z2))) (by kernel_rfl) (fun _ _ => (by kernel_rfl)) (fun _ _ _ => (by kernel_rfl)) (fun _ _ _ => (by kernel_rfl)) (fun _ _ => (by kernel_rfl)) (fun _ _ _ _ _ => (by kernel_rfl))
def qkm {R : Type} (KK : AV → Mem → Option R) := (fun Al a1 => KK (.own 1 a1.length) (qd [(some (.box true [(.int .i64 Al)])), (some (.arr true 3 a1))]))
def qb7 {R : Type}  (v0 : List AV) (Al : Int) (kr : Int → (List AV) → Option R) : Option R :=
  (bif (hd ([] : List AV) (([] : List AV).length) && true) then (qff v0 (v0.length : Int) (fun b0_0q1 a1q2 => (kr b0_0q1 a1q2)) FU (0 : Int) Al ([] : List AV)) else none)
def qc0 {R : Type} := hull (qb7 (R := R))
theorem qkn {R : Type} : qc0 (R := R) = qb7 := qa _
def qla {R : Type} : RefB Tryz.prog R := refB (nt := 24) (nb := 1) tabOk follows Tryz.func37 [.t 4] (fun KK => .s .z (.s .z (.s (.s .z (.b (.sub [.own 5 3, .sel [1, 5, 8, 9, 10] [0, 1]] (qjv KK) []))) (.s .z (.v [.sel [4] [0, 1]]))))) S72_ (qb7 (R := R)) (fun f v KK => f (v.l 0 0) (v.i 3 0) (qkm KK)) (by kernel_rfl) (by kernel_rfl) (fun _ => (by kernel_rfl)) rfl fun _ _ => (by kernel_rfl)
def qgt (v0 : List AV) (v1 : Int) : Option (List AV) :=
  (qc0 v0 v1 fun b0_0q1 a1q2 => (bif hd a1q2 a1q2.length then (some a1q2) else none))
def qd0 := hull qgt
theorem qya : qd0 = qgt := qa _
def qpp {R : Type} : EntF Tryz.prog R := entB (nt := 8) (dec := (decF true 3)) (enc := (AV.fr true 3)) tabOk follows Tryz.func19 [.t 4] hdeF (.s .z (.s (.r [(2, .s (.sel [5, 6] [0])), (2, .r qla)] []) .z)) S6_ qgt (fun f v => f (v.l 0 0) (v.i 4 0)) (by kernel_rfl) (by kernel_rfl) (by kernel_rfl) fun _ => (by kernel_rfl)
def qjw (Aa : List UInt8) (Ab : Bool) (Ac Ad Ae Af Ag v1 : Int) : Option Bool :=
  (some ((decide (Ad ≤ v1)) && (decide (v1 < Ag))))
def qib := hull qjw
theorem qyb : qib = qjw := qa _
def q0a {R : Type} : EntF Tryz.prog R := entB (nt := 15) (dec := decB) (enc := AV.bool) tabOk follows Tryz.func44 [.t 4] hdeB (.s .z (.s (.r [(5, .g 4)] []) .z)) S68_ qjw (fun f v => f (v.s 1 0) (v.b 1 1) (v.i 1 2) (v.i 1 3) (v.i 1 4) (v.i 1 5) (v.i 1 6) (v.i 4 0)) (by kernel_rfl) (by kernel_rfl) (by kernel_rfl) fun _ => (by kernel_rfl)
def S73_ : Shp := ⟨[(0, .one (.l (.sl 7))), (1, .one (.l (.i .i64))), (5, .one (.own 0)), (6, .one (.l (.i .i64)))], [.arr true 3]⟩
def qk4  (K : Ex → Env → Mem → Option (List AV)) := (fun z_a0 => K (.exit 0) (qe [(5, (.own 0 z_a0.length))]) (qd [(some (.arr true 3 z_a0))]))
def qc1  (v0 : List AV) (v1 v6 : Int) (a0 : List AV) (next : Int → (List AV) → Option (List AV)) (kx0 : (List AV) → Option (List AV)) : Option (List AV) :=
  (bif (decide (v6 < (v0.length : Int))) then (oB (ixB v0 v6) fun y1 => (bif fitC qb y1.cells then (oB (qib (gS y1.cells 0) (gB y1.cells 1) (gI y1.cells 2) (gI y1.cells 3) (gI y1.cells 4) (gI y1.cells 5) (gI y1.cells 6) v1) fun r2 => (bif r2 then (oB (ixB v0 v6) fun y3 => (bif fitC qb y3.cells then (bif hd a0 a0.length then (bif hd ([(.agg [(.str (gS y3.cells 0)), (.bool (gB y3.cells 1)), (.int .i64 (gI y3.cells 2))])] : List AV) (([(.agg [(.str (gS y3.cells 0)), (.bool (gB y3.cells 1)), (.int .i64 (gI y3.cells 2))])] : List AV).length) then (bif decide ((a0.length + ([(.agg [(.str (gS y3.cells 0)), (.bool (gB y3.cells 1)), (.int .i64 (gI y3.cells 2))])] : List AV).length) * 32 ≤ 140737488355328) then (next (IntKind.i64.wrap (v6 + (1 : Int))) (a0 ++ ([(.agg [(.str (gS y3.cells 0)), (.bool (gB y3.cells 1)), (.int .i64 (gI y3.cells 2))])] : List AV))) else none) else none) else none) else none)) else (next (IntKind.i64.wrap (v6 + (1 : Int))) a0))) else none)) else (kx0 a0))
def qc2  (v0 : List AV) (v1 : Int) (kx0 : (List AV) → Option (List AV)) : Nat → Int → (List AV) → Option (List AV)
  | 0 => (fun _ _ => none)
  | n + 1 => (fun v6 a0 => qc1 v0 v1 v6 a0 (qc2 v0 v1 kx0 n) kx0)
def qog := hull (qc2)
theorem qt7 : qog = qc2 := qa _
def qu7 : SubB Tryz.prog (TIof Tryz.prog) 28 0 (kret [.t 4] (decF true 3)) := lpB tabOk follows Tryz.f24 75 (.s (.s .z (.s .z (.v [.sel [5] [0]]))) (.s (.b (.s (.r [(2, .p (.etac 15 qb)), (5, .c q0a.b)] []) (.s (.r [(3, .p (.etac 22 qb))] []) .z))) (.v [.sel [0, 1, 5, 6] [0]]))) S73_ (qc2) (fun f v K n => f (v.l 0 0) (v.i 4 0) (qk4 K) n) (fun v f K => qc1 (v.l 0 0) (v.i 4 0) (v.i 24 0) (v.r 0) f (qk4 K)) (fun f v => f (v.i 24 0) (v.r 0)) (fun k v => (fun z0 z1 => k ((v.ui 24 0 z0).ur 0 z1))) (by kernel_rfl) (fun _ _ => (by kernel_rfl)) (fun _ _ _ => (by kernel_rfl)) (fun _ _ _ => (by kernel_rfl)) (fun _ _ => (by kernel_rfl)) (fun _ _ _ _ _ => (by kernel_rfl))
def qgu (v0 : List AV) (v1 : Int) : Option (List AV) :=
  (bif (hd ([] : List AV) (([] : List AV).length) && true) then (qog v0 v1 (fun a0q1 => (bif hd a0q1 a0q1.length then (some a0q1) else none)) FU (0 : Int) ([] : List AV)) else none)
def qli := hull qgu
theorem qyc : qli = qgu := qa _
def q0b {R : Type} : EntF Tryz.prog R := entB (nt := 28) (dec := (decF true 3)) (enc := (AV.fr true 3)) tabOk follows Tryz.func24 [.t 4] hdeF (.s .z (.s .z (.s (.s .z (.b (.sub [.own 5 3, .sel [0, 1, 5, 6] [0]] qu7 []))) .z))) S6_ qgu (fun f v => f (v.l 0 0) (v.i 4 0)) (by kernel_rfl) (by kernel_rfl) (by kernel_rfl) fun _ => (by kernel_rfl)
def S74_ : Shp := ⟨[(0, .one (.l (.sl 3))), (1, .one (.l (.sl 3))), (12, .one (.l (.i .i64))), (13, .one (.l (.i .i64)))], []⟩
def S75_ : Shp := ⟨[(0, .one (.l (.sl 3))), (1, .one (.l (.sl 3)))], []⟩
def qoh  (K : Ex → Env → Mem → Option Bool) := (fun (_ : Unit) => K (.exit 0) (qe []) (qd []))
def qfg  (v0 v1 : List AV) (v12 v13 : Int) (next : Int → Option Bool) (kx0 : Unit → Option Bool) : Option Bool :=
  (bif (decide (v13 < v12)) then (oB (ixB v0 v13) fun y1 => (bif fitC qc3 y1.cells then (oB (ixB v1 v13) fun y2 => (bif fitC qc3 y2.cells then (bif (!(((gS y1.cells 0) == (gS y2.cells 0)) && (((gB y1.cells 1) == (gB y2.cells 1)) && (((gI y1.cells 2) == (gI y2.cells 2)) && true)))) then (some false) else (next (IntKind.i64.wrap (v13 + (1 : Int))))) else none)) else none)) else (kx0 ()))
def qfh  (v0 v1 : List AV) (v12 : Int) (kx0 : Unit → Option Bool) : Nat → Int → Option Bool
  | 0 => (fun _ => none)
  | n + 1 => (fun v13 => qfg v0 v1 v12 v13 (qfh v0 v1 v12 kx0 n) kx0)
def qsw := hull (qfh)
theorem q0c : qsw = qfh := qa _
def q2q : SubB Tryz.prog (TIof Tryz.prog) 26 0 (kret [.t 4] decB) := lpB tabOk follows Tryz.f18 75 (.s .z (.s (.s .z (.v [.sel [] []])) (.s (.b (.s .z (.s (.d [] [(2, .e 18 qc3), (6, .e 22 qc3)] [] []) .z))) (.v [.sel [0, 1, 12, 13] []])))) S74_ (qfh) (fun f v K n => f (v.l 0 0) (v.l 4 0) (v.i 48 0) (qoh K) n) (fun v f K => qfg (v.l 0 0) (v.l 4 0) (v.i 48 0) (v.i 52 0) f (qoh K)) (fun f v => f (v.i 52 0)) (fun k v => (fun z0 => k (v.ui 52 0 z0))) (by kernel_rfl) (fun _ _ => (by kernel_rfl)) (fun _ _ _ => (by kernel_rfl)) (fun _ _ _ => (by kernel_rfl)) (fun _ _ => (by kernel_rfl)) (fun _ _ _ _ _ => (by kernel_rfl))
def qk5 (v0 v1 : List AV) : Option Bool :=
  (bif ((v0.length : Int) != (v1.length : Int)) then (some false) else (qsw v0 v1 (v0.length : Int) (fun (_ : Unit) => (some true)) FU (0 : Int)))
def qkb := hull qk5
theorem q73 : qkb = qk5 := qa _
def qpq {R : Type} : EntF Tryz.prog R := entB (nt := 26) (dec := decB) (enc := AV.bool) tabOk follows Tryz.func18 [.t 4] hdeB (.s .z (.s .z (.s (.s .z (.b (.sub [.sel [0, 1, 12, 13] []] q2q []))) .z))) S75_ qk5 (fun f v => f (v.l 0 0) (v.l 4 0)) (by kernel_rfl) (by kernel_rfl) (by kernel_rfl) fun _ => (by kernel_rfl)
def qnx (Aa : List UInt8) (Ab : Bool) (Ac Ad Ae Af Ag v1 : Int) : Option Bool :=
  (some ((decide (Ae ≤ v1)) && (decide (v1 < Af))))
def qfs := hull qnx
theorem q6s : qfs = qnx := qa _
def qha {R : Type} : EntF Tryz.prog R := entB (nt := 15) (dec := decB) (enc := AV.bool) tabOk follows Tryz.func41 [.t 4] hdeB (.s .z (.s (.r [(5, .g 4)] []) .z)) S68_ qnx (fun f v => f (v.s 1 0) (v.b 1 1) (v.i 1 2) (v.i 1 3) (v.i 1 4) (v.i 1 5) (v.i 1 6) (v.i 4 0)) (by kernel_rfl) (by kernel_rfl) (by kernel_rfl) fun _ => (by kernel_rfl)
def qu8 {R : Type} (KK : AV → Mem → Option R) := (fun v3 Al a1 Bv Bw Bx By Bz B0 B1 => KK (.bool v3) (qd [(some (.box true [(.int .i64 Al)])), (some (.arr true 3 a1)), (some (.box true (qbz Bv Bw Bx By Bz B0 B1)))]))
def qfz {R : Type}  (Aa : List UInt8) (Ab : Bool) (Ac Ad Ae Af Ag Al : Int) (a1 : List AV) (Bv : List UInt8) (Bw : Bool) (Bx By Bz B0 B1 : Int) (kr : Bool → Int → (List AV) → (List UInt8) → Bool → Int → Int → Int → Int → Int → Option R) : Option R :=
  (oB (qfs Aa Ab Ac Ad Ae Af Ag Al) fun r1 => (kr r1 Al a1 Bv Bw Bx By Bz B0 B1))
def qjx {R : Type} := hull (qfz (R := R))
theorem qu9 {R : Type} : qjx (R := R) = qfz := qa _
def qwu {R : Type} : RefB Tryz.prog R := refB (nt := 7) (nb := 3) tabOk follows Tryz.func40 [.t 3] (fun KK => .s .z (.s (.r [(2, .c qha.b)] []) (.v [.sel [3] [0, 1, 2]]))) S70_ (qfz (R := R)) (fun f v KK => f (v.s 1 0) (v.b 1 1) (v.i 1 2) (v.i 1 3) (v.i 1 4) (v.i 1 5) (v.i 1 6) (v.i 3 0) (v.r 1) (v.s 11 0) (v.b 11 1) (v.i 11 2) (v.i 11 3) (v.i 11 4) (v.i 11 5) (v.i 11 6) (qu8 KK)) (by kernel_rfl) (by kernel_rfl) (fun _ => (by kernel_rfl)) rfl fun _ _ => (by kernel_rfl)
def S76_ : Shp := ⟨[(1, .one (.fn 40 [(0, 0)])), (5, .one (.own 1)), (8, .one (.l (.sl 7))), (9, .one (.l (.i .i64))), (10, .one (.l (.i .i64)))], [.box true [(.l (.i .i64))], .arr true 3]⟩
def S77_ : Shp := ⟨[(0, .one (.l (.sl 7))), (1, .one (.fn 40 [(0, 0)]))], [.box true [(.l (.i .i64))]]⟩
def qet {R : Type}  (K : Ex → Env → Mem → Option R) := (fun z_b0_0 z_a1 => K (.exit 0) (qe [(5, (.own 1 z_a1.length))]) (qd [(some (.box true [(.int .i64 z_b0_0)])), (some (.arr true 3 z_a1))]))
def qbj {R : Type}  (v8 : List AV) (v9 v10 Al : Int) (a1 : List AV) (next : Int → Int → (List AV) → Option R) (kx0 : Int → (List AV) → Option R) : Option R :=
  (bif (decide (v10 < v9)) then (oB (ixB v8 v10) fun y1 => (bif fitC qb y1.cells then (qjx (gS y1.cells 0) (gB y1.cells 1) (gI y1.cells 2) (gI y1.cells 3) (gI y1.cells 4) (gI y1.cells 5) (gI y1.cells 6) Al a1 (gS y1.cells 0) (gB y1.cells 1) (gI y1.cells 2) (gI y1.cells 3) (gI y1.cells 4) (gI y1.cells 5) (gI y1.cells 6) fun v3q2 b0_0q3 a1q4 b2_0q5 b2_1q6 b2_2q7 b2_3q8 b2_4q9 b2_5q10 b2_6q11 => (bif v3q2 then (bif hd a1q4 a1.length then (bif hd ([(.agg [(.str b2_0q5), (.bool b2_1q6), (.int .i64 b2_2q7)])] : List AV) (([(.agg [(.str b2_0q5), (.bool b2_1q6), (.int .i64 b2_2q7)])] : List AV).length) then (bif decide ((a1q4.length + ([(.agg [(.str b2_0q5), (.bool b2_1q6), (.int .i64 b2_2q7)])] : List AV).length) * 32 ≤ 140737488355328) then (bif hd (a1q4 ++ ([(.agg [(.str b2_0q5), (.bool b2_1q6), (.int .i64 b2_2q7)])] : List AV)) ((a1q4 ++ ([(.agg [(.str b2_0q5), (.bool b2_1q6), (.int .i64 b2_2q7)])] : List AV)).length) then (next (IntKind.i64.wrap (v10 + (1 : Int))) b0_0q3 (a1q4 ++ ([(.agg [(.str b2_0q5), (.bool b2_1q6), (.int .i64 b2_2q7)])] : List AV))) else none) else none) else none) else none) else (bif hd a1q4 a1.length then (next (IntKind.i64.wrap (v10 + (1 : Int))) b0_0q3 a1q4) else none))) else none)) else (kx0 Al a1))
def qbk {R : Type}  (v8 : List AV) (v9 : Int) (kx0 : Int → (List AV) → Option R) : Nat → Int → Int → (List AV) → Option R
  | 0 => (fun _ _ _ => none)
  | n + 1 => (fun v10 Al a1 => qbj v8 v9 v10 Al a1 (qbk v8 v9 kx0 n) kx0)
def qf8 {R : Type} := hull (qbk (R := R))
theorem qkc {R : Type} : qf8 (R := R) = qbk := qa _
def qko {R : Type} (KK : AV → Mem → Option R) : SubB Tryz.prog (TIof Tryz.prog) 24 1 (qf4 [.t 4] KK) := lpB tabOk follows Tryz.f37 75 (.s .z (.s (.s .z (.v [.sel [5] [0, 1]])) (.s (.b (.s (.r [(0, .p (.etac 12 qb))] []) (.s (.r [(2, .s (.sel [1, 5, 7, 8, 9, 10, 14, 15] [0, 1, 2])), (2, .r qwu)] []) .z))) (.v [.hd 5, .sel [1, 5, 8, 9, 10] [0, 1]])))) S76_ (qbk (R := R)) (fun f v K n => f (v.l 32 0) (v.i 36 0) (qet K) n) (fun v f K => qbj (v.l 32 0) (v.i 36 0) (v.i 40 0) (v.i 3 0) (v.r 1) f (qet K)) (fun f v => f (v.i 40 0) (v.i 3 0) (v.r 1)) (fun k v => (fun z0 z1 z2 => k (((v.ui 40 0 z0).ui 3 0 z1).ur 1 z2))) (by kernel_rfl) (fun _ _ => (by kernel_rfl)) (fun _ _ _ => (by kernel_rfl)) (fun _ _ _ => (by kernel_rfl)) (fun _ _ => (by kernel_rfl)) (fun _ _ _ _ _ => (by kernel_rfl))
def qlj {R : Type} (KK : AV → Mem → Option R) := (fun Al a1 => KK (.own 1 a1.length) (qd [(some (.box true [(.int .i64 Al)])), (some (.arr true 3 a1))]))
def qce {R : Type}  (v0 : List AV) (Al : Int) (kr : Int → (List AV) → Option R) : Option R :=
  (bif (hd ([] : List AV) (([] : List AV).length) && true) then (qf8 v0 (v0.length : Int) (fun b0_0q1 a1q2 => (kr b0_0q1 a1q2)) FU (0 : Int) Al ([] : List AV)) else none)
def qda {R : Type} := hull (qce (R := R))
theorem qlk {R : Type} : qda (R := R) = qce := qa _
def ql8 {R : Type} : RefB Tryz.prog R := refB (nt := 24) (nb := 1) tabOk follows Tryz.func37 [.t 4] (fun KK => .s .z (.s .z (.s (.s .z (.b (.sub [.own 5 3, .sel [1, 5, 8, 9, 10] [0, 1]] (qko KK) []))) (.s .z (.v [.sel [4] [0, 1]]))))) S77_ (qce (R := R)) (fun f v KK => f (v.l 0 0) (v.i 3 0) (qlj KK)) (by kernel_rfl) (by kernel_rfl) (fun _ => (by kernel_rfl)) rfl fun _ _ => (by kernel_rfl)
def qic (v0 : List AV) (v1 : Int) : Option (List AV) :=
  (qda v0 v1 fun b0_0q1 a1q2 => (bif hd a1q2 a1q2.length then (some a1q2) else none))
def qft := hull qic
theorem q2r : qft = qic := qa _
def qro {R : Type} : EntF Tryz.prog R := entB (nt := 8) (dec := (decF true 3)) (enc := (AV.fr true 3)) tabOk follows Tryz.func20 [.t 4] hdeF (.s .z (.s (.r [(2, .s (.sel [5, 6] [0])), (2, .r ql8)] []) .z)) S6_ qic (fun f v => f (v.l 0 0) (v.i 4 0)) (by kernel_rfl) (by kernel_rfl) (by kernel_rfl) fun _ => (by kernel_rfl)
def qny (Aa : List UInt8) (Ab : Bool) (Ac Ad Ae Af Ag v1 : Int) : Option Bool :=
  (some ((decide (Ae ≤ v1)) && (decide (v1 < Af))))
def qg1 := hull qny
theorem q6t : qg1 = qny := qa _
def qt8 {R : Type} : EntF Tryz.prog R := entB (nt := 15) (dec := decB) (enc := AV.bool) tabOk follows Tryz.func45 [.t 4] hdeB (.s .z (.s (.r [(5, .g 4)] []) .z)) S68_ qny (fun f v => f (v.s 1 0) (v.b 1 1) (v.i 1 2) (v.i 1 3) (v.i 1 4) (v.i 1 5) (v.i 1 6) (v.i 4 0)) (by kernel_rfl) (by kernel_rfl) (by kernel_rfl) fun _ => (by kernel_rfl)
end
end Go.Proofs.YtmoedhehjonnhaaGreatDoor.Dn
