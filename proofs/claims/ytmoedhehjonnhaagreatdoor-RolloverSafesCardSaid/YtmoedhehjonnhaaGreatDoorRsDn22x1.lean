import Derived.Test.YtmoedhehjonnhaaGreatDoorProg
import Derived.Test.YtmoedhehjonnhaaGreatDoorRsLibD
import Derived.Test.YtmoedhehjonnhaaGreatDoorRsPl22
import Derived.Test.YtmoedhehjonnhaaGreatDoorRsLy22
set_option linter.all false
namespace Go.Proofs.YtmoedhehjonnhaaGreatDoor.Dn
open Go Go.Pev
set_option linter.unusedVariables false
set_option linter.unusedSimpArgs false
set_option maxRecDepth 100000
set_option maxHeartbeats 4000000
theorem zT : True := True.intro
theorem zA {a b : Prop} (x : a) (y : b) : a ∧ b := ⟨x, y⟩
theorem tabOk : Tab.ok (TIof Tryz.prog) Tryz.prog := fun _ _ h => h
theorem follows : Tryz.prog.follows .mixedOrders = true := by kernel_rfl
def qb : List LT := [.s, .b, (.i .i64), (.i .i64), (.i .i64), (.i .i64), (.i .i64)]
def S0_ : Shp := ⟨[(0, .one (.l (.sl 7))), (3, .one (.own 0)), (4, .one (.l (.i .i64)))], [.arr true 7]⟩
def S1_ : Shp := ⟨[(0, .one (.l (.sl 7)))], []⟩
def qp0  (K : Ex → Env → Mem → Option (List AV)) := (fun z_a0 => K (.exit 0) (qe [(3, (.own 0 z_a0.length))]) (qd [(some (.arr true 7 z_a0))]))
noncomputable section
def qf7  (v0 : List AV) (v4 : Int) (a0 : List AV) (next : Int → (List AV) → Option (List AV)) (kx0 : (List AV) → Option (List AV)) : Option (List AV) :=
  (bif ((decide (v4 < (v0.length : Int))) && (decide (v4 < (20 : Int)))) then (oB (ixB v0 v4) fun y1 => (bif fitC qb y1.cells then (oB (cutI (gS y1.cells 0) none (some (if (300 : Int) < ((gS y1.cells 0).length : Int) then (300 : Int) else ((gS y1.cells 0).length : Int)))) fun s2 => (bif hd a0 a0.length then (bif hd ([(.agg [(.str s2), (.bool (gB y1.cells 1)), (.int .i64 (gI y1.cells 2)), (.int .i64 (gI y1.cells 3)), (.int .i64 (gI y1.cells 4)), (.int .i64 (gI y1.cells 5)), (.int .i64 (gI y1.cells 6))])] : List AV) (([(.agg [(.str s2), (.bool (gB y1.cells 1)), (.int .i64 (gI y1.cells 2)), (.int .i64 (gI y1.cells 3)), (.int .i64 (gI y1.cells 4)), (.int .i64 (gI y1.cells 5)), (.int .i64 (gI y1.cells 6))])] : List AV).length) then (bif decide ((a0.length + ([(.agg [(.str s2), (.bool (gB y1.cells 1)), (.int .i64 (gI y1.cells 2)), (.int .i64 (gI y1.cells 3)), (.int .i64 (gI y1.cells 4)), (.int .i64 (gI y1.cells 5)), (.int .i64 (gI y1.cells 6))])] : List AV).length) * 64 ≤ 140737488355328) then (next (IntKind.i64.wrap (v4 + (1 : Int))) (a0 ++ ([(.agg [(.str s2), (.bool (gB y1.cells 1)), (.int .i64 (gI y1.cells 2)), (.int .i64 (gI y1.cells 3)), (.int .i64 (gI y1.cells 4)), (.int .i64 (gI y1.cells 5)), (.int .i64 (gI y1.cells 6))])] : List AV))) else none) else none) else none)) else none)) else (kx0 a0))
def qen  (v0 : List AV) (kx0 : (List AV) → Option (List AV)) : Nat → Int → (List AV) → Option (List AV)
  | 0 => (fun _ _ => none)
  | n + 1 => (fun v4 a0 => qf7 v0 v4 a0 (qen v0 kx0 n) kx0)
def qu2 := hull (qen)
theorem q2y : qu2 = qen := qa _
def q5o : SubB Tryz.prog (TIof Tryz.prog) 36 0 (kret [.t 2] (decF true 7)) := lpB tabOk follows Tryz.f9 75 (.s (.s (.r [(5, .g 2)] []) (.s .z (.v [.sel [3] [0]]))) (.s (.b (.s (.r [(2, .p (.etac 18 qb))] []) .z)) (.v [.sel [0, 3, 4] [0]]))) S0_ (qen) (fun f v K n => f (v.l 0 0) (qp0 K) n) (fun v f K => qf7 (v.l 0 0) (v.i 16 0) (v.r 0) f (qp0 K)) (fun f v => f (v.i 16 0) (v.r 0)) (fun k v => (fun z0 z1 => k ((v.ui 16 0 z0).ur 0 z1))) (by kernel_rfl) (fun _ _ => (by kernel_rfl)) (fun _ _ _ => (by kernel_rfl)) (fun _ _ _ => (by kernel_rfl)) (fun _ _ => (by kernel_rfl)) (fun _ _ _ _ _ => (by kernel_rfl))
def qln (v0 : List AV) : Option (List AV) :=
  (bif (hd ([] : List AV) (([] : List AV).length) && true) then (qu2 v0 (fun a0q1 => (bif hd a0q1 a0q1.length then (some a0q1) else none)) FU (0 : Int) ([] : List AV)) else none)
def qtc := hull qln
theorem q8i : qtc = qln := qa _
def qbas {R : Type} : EntF Tryz.prog R := entB (nt := 36) (dec := (decF true 7)) (enc := (AV.fr true 7)) tabOk follows Tryz.func9 [.t 2] hdeF (.s .z (.s .z (.s (.s .z (.b (.sub [.own 3 7, .sel [0, 3, 4] [0]] q5o []))) .z))) S1_ qln (fun f v => f (v.l 0 0)) (by kernel_rfl) (by kernel_rfl) (by kernel_rfl) fun _ => (by kernel_rfl)
def S2_ : Shp := ⟨[(0, .st (lk qb))], []⟩
def qnl (Aa : List UInt8) (Ab : Bool) (Ac Ad Ae Af Ag : Int) : Option AV :=
  (some (.agg [(.int .i64 Ad), (.int .i64 Ae), (.int .i64 Af), (.int .i64 Ag)]))
def qfh := hull qnl
theorem q5p : qfh = qnl := qa _
def qnm {R : Type} : EntF Tryz.prog R := entB (nt := 12) (dec := (decT [(.i .i64), (.i .i64), (.i .i64), (.i .i64)])) (enc := (qpq (.st [(.i .i64), (.i .i64), (.i .i64), (.i .i64)]))) tabOk follows Tryz.func35 [(.cell 2 true 4)] hdeT (.z) S2_ qnl (fun f v => f (v.s 1 0) (v.b 1 1) (v.i 1 2) (v.i 1 3) (v.i 1 4) (v.i 1 5) (v.i 1 6)) (by kernel_rfl) (by kernel_rfl) (by kernel_rfl) fun _ => (by kernel_rfl)
def q48 : List LT := [(.i .i64), (.i .i64), (.i .i64), (.i .i64)]
def q8j (x0 x1 x2 x3 : Int) : List AV := [.int .i64 x0, .int .i64 x1, .int .i64 x2, .int .i64 x3]
def S3_ : Shp := ⟨[(1, .one (.l (.i .i64))), (6, .one (.l (.i .i64))), (7, .one (.l .b)), (11, .one (.l (.i .i64))), (12, .one (.l (.sl 7))), (13, .one (.l (.i .i64))), (14, .one (.l (.i .i64))), (19, .st (lk q48)), (20, .one (.l (.i .i64)))], []⟩
def S4_ : Shp := ⟨[(1, .one (.l (.i .i64))), (6, .one (.l (.i .i64))), (7, .one (.l .b)), (12, .one (.l (.sl 7))), (13, .one (.l (.i .i64))), (14, .one (.l (.i .i64))), (19, .st (lk q48)), (20, .one (.l (.i .i64)))], []⟩
def S5_ : Shp := ⟨[(1, .one (.l (.i .i64))), (6, .one (.l (.i .i64))), (7, .one (.l .b)), (12, .one (.l (.sl 7))), (13, .one (.l (.i .i64))), (14, .one (.l (.i .i64)))], []⟩
def S6_ : Shp := ⟨[(0, .one (.l (.sl 7))), (1, .one (.l (.i .i64)))], []⟩
def qih : AV → Option (Int × Bool) := decN [(.one (.i .i64)), (.one .b)] fun z => (aI (gC (tpL z) 0), aB (gC (tpL z) 1))
def qye  (v1 v6 : Int) (v7 : Bool) (v11 : Int) (v12 : List AV) (v13 v14 Ah Ai Aj Ak v20 : Int) (K : Ex → Env → Mem → Option (Int × Bool)) := (fun z_v34 => K .norm (qe [(1, (.int .i64 v1)), (6, (.int .i64 v6)), (7, (.bool v7)), (11, (.int .i64 v11)), (12, (.sl 7 v12)), (13, (.int .i64 v13)), (14, (.int .i64 v14)), (19, .agg (q8j Ah Ai Aj Ak)), (20, (.int .i64 v20)), (34, (.bool z_v34))]) (qd []))
def qg2  (v1 v6 : Int) (v7 : Bool) (v11 : Int) (v12 : List AV) (v13 v14 Ah Ai Aj Ak v20 : Int) (kn : Bool → Option (Int × Bool)) : Option (Int × Bool) :=
  (bif (decide (v11 > v1)) then (bif (!v7) then (kn true) else (kn (decide (v11 < v6)))) else (kn false))
def qr1 := hull (qg2)
theorem qyf : qr1 = qg2 := qa _
def q1n : SubB Tryz.prog (TIof Tryz.prog) 40 0 (kret [.t 4, .t 5] qih) := jnB tabOk follows Tryz.f17 1363147 (.v [.sel [1, 6, 7, 11, 12, 13, 14, 19, 20, 34] []]) S3_ (qg2) (fun f v K => f (v.i 4 0) (v.i 24 0) (v.b 28 0) (v.i 44 0) (v.l 48 0) (v.i 52 0) (v.i 56 0) (v.i 77 0) (v.i 77 1) (v.i 77 2) (v.i 77 3) (v.i 80 0) (qye (v.i 4 0) (v.i 24 0) (v.b 28 0) (v.i 44 0) (v.l 48 0) (v.i 52 0) (v.i 56 0) (v.i 77 0) (v.i 77 1) (v.i 77 2) (v.i 77 3) (v.i 80 0) K)) (by kernel_rfl) (fun _ _ => (by kernel_rfl))
def qn1  (v1 : Int) (v12 : List AV) (v13 v14 : Int) (K : Ex → Env → Mem → Option (Int × Bool)) := (fun z_v6 z_v7 => K (.exit 2) (qe [(1, (.int .i64 v1)), (6, (.int .i64 z_v6)), (7, (.bool z_v7)), (12, (.sl 7 v12)), (13, (.int .i64 v13)), (14, (.int .i64 v14))]) (qd []))
def qey  (v1 v6 : Int) (v7 : Bool) (v12 : List AV) (v13 v14 Ah Ai Aj Ak v20 : Int) (next : Int → Bool → Int → Option (Int × Bool)) (kx2 : Int → Bool → Option (Int × Bool)) : Option (Int × Bool) :=
  (bif (decide (v20 < (4 : Int))) then (oI (vixa false 4 1 (.agg [(.int .i64 Ah), (.int .i64 Ai), (.int .i64 Aj), (.int .i64 Ak)]) (.int .i64 v20)) fun q1 => (bif fitV (.one (.i .i64)) q1 then (qr1 v1 v6 v7 (aI q1) v12 v13 v14 Ah Ai Aj Ak v20 (fun v34q2 => (bif v34q2 then (next (aI q1) true (IntKind.i64.wrap (v20 + (1 : Int)))) else (next v6 v7 (IntKind.i64.wrap (v20 + (1 : Int))))))) else none)) else (kx2 v6 v7))
def qez  (v1 : Int) (v12 : List AV) (v13 v14 Ah Ai Aj Ak : Int) (kx2 : Int → Bool → Option (Int × Bool)) : Nat → Int → Bool → Int → Option (Int × Bool)
  | 0 => (fun _ _ _ => none)
  | n + 1 => (fun v6 v7 v20 => qey v1 v6 v7 v12 v13 v14 Ah Ai Aj Ak v20 (qez v1 v12 v13 v14 Ah Ai Aj Ak kx2 n) kx2)
def qme := hull (qez)
theorem qyg : qme = qez := qa _
def q1o : SubB Tryz.prog (TIof Tryz.prog) 40 0 (kret [.t 4, .t 5] qih) := lpB tabOk follows Tryz.f17 19659 (.s .z (.s (.s .z (.v [.sel [1, 6, 7, 12, 13, 14] []])) (.s (.b (.s (.r [(0, .p (.eta 22 (.one (.i .i64))))] []) (.s (.sub [.sel [1, 6, 7, 11, 12, 13, 14, 19, 20] []] q1n []) .z))) (.v [.sel [1, 6, 7, 12, 13, 14, 19, 20] []])))) S4_ (qez) (fun f v K n => f (v.i 4 0) (v.l 48 0) (v.i 52 0) (v.i 56 0) (v.i 77 0) (v.i 77 1) (v.i 77 2) (v.i 77 3) (qn1 (v.i 4 0) (v.l 48 0) (v.i 52 0) (v.i 56 0) K) n) (fun v f K => qey (v.i 4 0) (v.i 24 0) (v.b 28 0) (v.l 48 0) (v.i 52 0) (v.i 56 0) (v.i 77 0) (v.i 77 1) (v.i 77 2) (v.i 77 3) (v.i 80 0) f (qn1 (v.i 4 0) (v.l 48 0) (v.i 52 0) (v.i 56 0) K)) (fun f v => f (v.i 24 0) (v.b 28 0) (v.i 80 0)) (fun k v => (fun z0 z1 z2 => k (((v.ui 24 0 z0).ub 28 0 z1).ui 80 0 z2))) (by kernel_rfl) (fun _ _ => (by kernel_rfl)) (fun _ _ _ => (by kernel_rfl)) (fun _ _ _ => (by kernel_rfl)) (fun _ _ => (by kernel_rfl)) (fun _ _ _ _ _ => (by kernel_rfl))
def qon  (K : Ex → Env → Mem → Option (Int × Bool)) := (fun z_v6 z_v7 => K (.exit 0) (qe [(6, (.int .i64 z_v6)), (7, (.bool z_v7))]) (qd []))
def qfu  (v1 v6 : Int) (v7 : Bool) (v12 : List AV) (v13 v14 : Int) (next : Int → Bool → Int → Option (Int × Bool)) (kx0 : Int → Bool → Option (Int × Bool)) : Option (Int × Bool) :=
  (bif (decide (v14 < v13)) then (oB (ixB v12 v14) fun y1 => (bif fitC qb y1.cells then (oB (qfh (gS y1.cells 0) (gB y1.cells 1) (gI y1.cells 2) (gI y1.cells 3) (gI y1.cells 4) (gI y1.cells 5) (gI y1.cells 6)) fun r2 => (qme v1 v12 v13 v14 (gI r2.cells 0) (gI r2.cells 1) (gI r2.cells 2) (gI r2.cells 3) (fun v6q3 v7q4 => (next v6q3 v7q4 (IntKind.i64.wrap (v14 + (1 : Int))))) FU v6 v7 (0 : Int))) else none)) else (kx0 v6 v7))
def qfv  (v1 : Int) (v12 : List AV) (v13 : Int) (kx0 : Int → Bool → Option (Int × Bool)) : Nat → Int → Bool → Int → Option (Int × Bool)
  | 0 => (fun _ _ _ => none)
  | n + 1 => (fun v6 v7 v14 => qfu v1 v6 v7 v12 v13 v14 (qfv v1 v12 v13 kx0 n) kx0)
def qtd := hull (qfv)
theorem q1p : qtd = qfv := qa _
def q2z : SubB Tryz.prog (TIof Tryz.prog) 40 0 (kret [.t 4, .t 5] qih) := lpB tabOk follows Tryz.f17 75 (.s .z (.s (.s .z (.v [.sel [6, 7] []])) (.s (.b (.s (.r [(0, .p (.etac 16 qb))] []) (.s (.r [(1, .c qnm.b)] []) (.b (.sub [.sel [1, 6, 7, 12, 13, 14, 19, 20] []] q1o []))))) (.v [.sel [1, 6, 7, 12, 13, 14] []])))) S5_ (qfv) (fun f v K n => f (v.i 4 0) (v.l 48 0) (v.i 52 0) (qon K) n) (fun v f K => qfu (v.i 4 0) (v.i 24 0) (v.b 28 0) (v.l 48 0) (v.i 52 0) (v.i 56 0) f (qon K)) (fun f v => f (v.i 24 0) (v.b 28 0) (v.i 56 0)) (fun k v => (fun z0 z1 z2 => k (((v.ui 24 0 z0).ub 28 0 z1).ui 56 0 z2))) (by kernel_rfl) (fun _ _ => (by kernel_rfl)) (fun _ _ _ => (by kernel_rfl)) (fun _ _ _ => (by kernel_rfl)) (fun _ _ => (by kernel_rfl)) (fun _ _ _ _ _ => (by kernel_rfl))
def qki (v0 : List AV) (v1 : Int) : Option (Int × Bool) :=
  (qtd v1 v0 (v0.length : Int) (fun v6q1 v7q2 => (some (v6q1, v7q2))) FU (0 : Int) false (0 : Int))
def qj3 := hull qki
theorem q7a : qj3 = qki := qa _
def q8k {R : Type} : EntF Tryz.prog R := entB (nt := 40) (dec := qih) (enc := (fun r => .tup [.int .i64 r.1, .bool r.2])) tabOk follows Tryz.func17 [.t 4, .t 5] (hdeN fun _ => rfl) (.s .z (.s .z (.s (.s .z (.b (.sub [.sel [1, 6, 7, 12, 13, 14] []] q2z []))) .z))) S6_ qki (fun f v => f (v.l 0 0) (v.i 4 0)) (by kernel_rfl) (by kernel_rfl) (by kernel_rfl) fun _ => (by kernel_rfl)
def S9_ : Shp := ⟨[(0, .one (.l .s)), (1, .one (.l .s))], []⟩
def qeu (v0 v1 : List UInt8) : Option Bool :=
  (bif (decide ((v0.length : Int) ≥ (v1.length : Int))) then (oB (cutI v0 (some (IntKind.i64.wrap ((v0.length : Int) - (v1.length : Int)))) none) fun s1 => (some (s1 == v1))) else (some false))
def qn2 := hull qeu
theorem qte : qn2 = qeu := qa _
def qum {R : Type} : EntF Tryz.prog R := entB (nt := 21) (dec := decB) (enc := AV.bool) tabOk follows Tryz.func97 [.t 4] hdeB (.z) S9_ qeu (fun f v => f (v.s 0 0) (v.s 4 0)) (by kernel_rfl) (by kernel_rfl) (by kernel_rfl) fun _ => (by kernel_rfl)
def qg3 (v0 v1 : List UInt8) : Option Bool :=
  (oB (qn2 v0 v1) fun r1 => (some r1))
def qmf := hull qg3
theorem qyh : qmf = qg3 := qa _
def q1q {R : Type} : EntF Tryz.prog R := entB (nt := 8) (dec := decB) (enc := AV.bool) tabOk follows Tryz.func67 [.t 4] hdeB (.s .z (.s (.r [(2, .c qum.b)] []) .z)) S9_ qg3 (fun f v => f (v.s 0 0) (v.s 4 0)) (by kernel_rfl) (by kernel_rfl) (by kernel_rfl) fun _ => (by kernel_rfl)
theorem qbd6 {R : Type} : qj2 Tryz.prog 146 (qqp (R := R)) := qbgv Tryz.func146 (by kernel_rfl) (by kernel_rfl) (by kernel_rfl) (by kernel_rfl)
theorem qbd7 {R : Type} : qj2 Tryz.prog 165 (qqq (R := R)) := qbgw Tryz.func165 (by kernel_rfl) (by kernel_rfl) (by kernel_rfl) (by kernel_rfl)
def S10_ : Shp := ⟨[(0, .one (.l .s)), (1, .one (.l (.i .u8)))], []⟩
def qev (v0 : List UInt8) (v1 : Int) : Option Int :=
  (oB (qs6 v0 v1) fun r1 => (some r1))
def qn3 := hull qev
theorem qtf : qn3 = qev := qa _
def qun {R : Type} : EntF Tryz.prog R := entB (nt := 8) (dec := (decI .i64)) (enc := (AV.int .i64)) tabOk follows Tryz.func157 [.t 4] hdeI (.s .z (.s (.r [(2, .c (eK qbd7))] []) .z)) S10_ qev (fun f v => f (v.s 0 0) (v.i 4 0)) (by kernel_rfl) (by kernel_rfl) (by kernel_rfl) fun _ => (by kernel_rfl)
def qg4 (v0 v1 : List UInt8) : Option Int :=
  (bif (((v1.length : Int) == (0 : Int)) || (v1 == v0)) then (some (0 : Int)) else (bif ((v1.length : Int) == (1 : Int)) then (oB (ixB v1 (0 : Int)) fun c1 => (oB (qn3 v0 (c1.toNat : Int)) fun r2 => (some r2))) else (bif (decide ((v1.length : Int) ≥ (v0.length : Int))) then (some (-1 : Int)) else none)))
def qr2 := hull qg4
theorem qyi : qr2 = qg4 := qa _
def q1r {R : Type} : EntF Tryz.prog R := entB (nt := 143) (dec := (decI .i64)) (enc := (AV.int .i64)) tabOk follows Tryz.func147 [.t 4] hdeI (.s .z (.s .z (.s (.b (.s (.r [(3, .g 3)] []) (.s .z (.s .z (.s (.s (.r [(3, .c qun.b)] []) .z) .z))))) (.s .z (.s .z (.s .z (.s .z (.s .z (.s (.b .x) .z))))))))) S9_ qg4 (fun f v => f (v.s 0 0) (v.s 4 0)) (by kernel_rfl) (by kernel_rfl) (by kernel_rfl) fun _ => (by kernel_rfl)
def qkj (v0 v1 : List UInt8) : Option Int :=
  (oB (qr2 v0 v1) fun r1 => (some r1))
def qm7 := hull qkj
theorem q7b : qm7 = qkj := qa _
def qu3 {R : Type} : EntF Tryz.prog R := entB (nt := 8) (dec := (decI .i64)) (enc := (AV.int .i64)) tabOk follows Tryz.func131 [.t 4] hdeI (.s .z (.s (.r [(2, .c q1r.b)] []) .z)) S9_ qkj (fun f v => f (v.s 0 0) (v.s 4 0)) (by kernel_rfl) (by kernel_rfl) (by kernel_rfl) fun _ => (by kernel_rfl)
def S11_ : Shp := ⟨[(0, .one (.l .s)), (1, .one (.l .s)), (5, .one (.l (.i .i64)))], []⟩
def qp1  (v0 v1 : List UInt8) (v5 : Int) (next : (List UInt8) → Int → Option Int) : Option Int :=
  (oB (qm7 v0 v1) fun r1 => (bif (r1 == (-1 : Int)) then (some v5) else (oB (cutI v0 (some (IntKind.i64.wrap (r1 + (v1.length : Int)))) none) fun s2 => (next s2 (IntKind.i64.wrap (v5 + (1 : Int)))))))
def qkd  (v1 : List UInt8) : Nat → (List UInt8) → Int → Option Int
  | 0 => (fun _ _ => none)
  | n + 1 => (fun v0 v5 => qp1 v0 v1 v5 (qkd v1 n))
def q5q := hull (qkd)
def q1s : SubB Tryz.prog (TIof Tryz.prog) 34 0 (kret [.t 4] (decI .i64)) := lpB tabOk follows Tryz.f130 79 (.b (.s (.r [(2, .c qu3.b)] []) (.s .z (.s .z (.v [.sel [0, 1, 5] []]))))) S11_ (qkd) (fun f v K n => f (v.s 4 0) n) (fun v f K => qp1 (v.s 0 0) (v.s 4 0) (v.i 20 0) f) (fun f v => f (v.s 0 0) (v.i 20 0)) (fun k v => (fun z0 z1 => k ((v.us 0 0 z0).ui 20 0 z1))) (by kernel_rfl) (fun _ _ => (by kernel_rfl)) (fun _ _ _ => (by kernel_rfl)) (fun _ _ _ => (by kernel_rfl)) (fun _ _ => (by kernel_rfl)) (fun _ _ _ _ _ => (by kernel_rfl))
def qkk (v0 v1 : List UInt8) : Option Int :=
  (bif ((v1.length : Int) == (0 : Int)) then none else (bif ((v1.length : Int) == (1 : Int)) then (oB (ixB v1 (0 : Int)) fun c1 => (oB (qs5 v0 (c1.toNat : Int)) fun r2 => (some r2))) else (q5q v1 FU v0 (0 : Int))))
def qrp := hull qkk
theorem q7c : qrp = qkk := qa _
def q8l {R : Type} : EntF Tryz.prog R := entB (nt := 34) (dec := (decI .i64)) (enc := (AV.int .i64)) tabOk follows Tryz.func130 [.t 4] hdeI (.s .z (.s (.s .z (.s (.s (.r [(1, .c (eK (qbag (f := 144))))] []) .z) .z)) (.s (.s .z (.s (.s (.r [(3, .c (eK qbd6))] []) .z) .z)) (.s .z (.b (.sub [.sel [0, 1, 5] []] q1s [])))))) S9_ qkk (fun f v => f (v.s 0 0) (v.s 4 0)) (by kernel_rfl) (by kernel_rfl) (by kernel_rfl) fun _ => (by kernel_rfl)
def S12_ : Shp := ⟨[(0, .one (.l .s)), (1, .one (.l .s)), (2, .one (.l (.i .i64))), (3, .one (.l (.i .i64)))], []⟩
def S13_ : Shp := ⟨[(0, .one (.l .s)), (1, .one (.l .s)), (2, .one (.l (.i .i64))), (3, .one (.l (.i .i64))), (9, .one (.own 0)), (10, .one (.l (.i .i64)))], [.arr true 1]⟩
def qup  (v0 v1 : List UInt8) (v2 : Int) (K : Ex → Env → Mem → Option (List AV)) := (fun z_v3 => K .norm (qe [(0, (.str v0)), (1, (.str v1)), (2, (.int .i64 v2)), (3, (.int .i64 z_v3))]) (qd []))
def qfn  (v0 v1 : List UInt8) (v2 v3 : Int) (kn : Int → Option (List AV)) : Option (List AV) :=
  (bif (decide (v3 < (0 : Int))) then (oB (qrp v0 v1) fun r1 => (kn (IntKind.i64.wrap (r1 + (1 : Int))))) else (kn v3))
def qoo := hull (qfn)
theorem quq : qoo = qfn := qa _
def qv3 : SubB Tryz.prog (TIof Tryz.prog) 66 0 (kret [.t 8] (decX (.one (.sl 1)) fun z => aL z)) := jnB tabOk follows Tryz.f98 23 (.s .z (.s (.r [(2, .c q8l.b)] [.sel [0, 1, 2, 3] []]) (.v [.sel [0, 1, 2, 3] []]))) S12_ (qfn) (fun f v K => f (v.s 0 0) (v.s 4 0) (v.i 8 0) (v.i 12 0) (qup (v.s 0 0) (v.s 4 0) (v.i 8 0) K)) (by kernel_rfl) (fun _ _ => (by kernel_rfl))
def qk2  (K : Ex → Env → Mem → Option (List AV)) := (fun z_v0 z_v10 z_a0 => K (.exit 0) (qe [(0, (.str z_v0)), (9, (.own 0 z_a0.length)), (10, (.int .i64 z_v10))]) (qd [(some (.arr true 1 z_a0))]))
def qcz  (v0 v1 : List UInt8) (v2 v3 v10 : Int) (a0 : List AV) (next : (List UInt8) → Int → (List AV) → Option (List AV)) (kx0 : (List UInt8) → Int → (List AV) → Option (List AV)) : Option (List AV) :=
  (bif (decide (v10 < v3)) then (oB (qm7 v0 v1) fun r1 => (bif (decide (r1 < (0 : Int))) then (kx0 v0 v10 a0) else (oB (cutI v0 none (some (IntKind.i64.wrap (r1 + v2)))) fun s2 => (bif hd a0 a0.length then (bif decide (0 ≤ v10 ∧ v10 < a0.length) then (bif hd a0 a0.length then (oB (a0[v10.toNat]?) fun y3 => (oB (putE y3 0 1 [(.str s2)]) fun z4 => (oB (cutI v0 (some (IntKind.i64.wrap (r1 + (v1.length : Int)))) none) fun s5 => (bif hd (a0.set v10.toNat z4) a0.length then (next s5 (IntKind.i64.wrap (v10 + (1 : Int))) (a0.set v10.toNat z4)) else none)))) else none) else none) else none)))) else (kx0 v0 v10 a0))
def qb9  (v1 : List UInt8) (v2 v3 : Int) (kx0 : (List UInt8) → Int → (List AV) → Option (List AV)) : Nat → (List UInt8) → Int → (List AV) → Option (List AV)
  | 0 => (fun _ _ _ => none)
  | n + 1 => (fun v0 v10 a0 => qcz v0 v1 v2 v3 v10 a0 (qb9 v1 v2 v3 kx0 n) kx0)
def qop := hull (qb9)
theorem qur : qop = qb9 := qa _
def qv4 : SubB Tryz.prog (TIof Tryz.prog) 66 0 (kret [.t 8] (decX (.one (.sl 1)) fun z => aL z)) := lpB tabOk follows Tryz.f98 2303 (.s (.s .z (.s .z (.v [.sel [0, 9, 10] [0]]))) (.b (.s (.r [(2, .c qu3.b)] []) (.s (.s .z (.s (.v [.sel [0, 9, 10] [0]]) .z)) (.s .z (.s .z (.v [.hd 9, .sel [0, 1, 2, 3, 9, 10] [0]]))))))) S13_ (qb9) (fun f v K n => f (v.s 4 0) (v.i 8 0) (v.i 12 0) (qk2 K) n) (fun v f K => qcz (v.s 0 0) (v.s 4 0) (v.i 8 0) (v.i 12 0) (v.i 40 0) (v.r 0) f (qk2 K)) (fun f v => f (v.s 0 0) (v.i 40 0) (v.r 0)) (fun k v => (fun z0 z1 z2 => k (((v.us 0 0 z0).ui 40 0 z1).ur 0 z2))) (by kernel_rfl) (fun _ _ => (by kernel_rfl)) (fun _ _ _ => (by kernel_rfl)) (fun _ _ _ => (by kernel_rfl)) (fun _ _ => (by kernel_rfl)) (fun _ _ _ _ _ => (by kernel_rfl))
def qhr (v0 v1 : List UInt8) (v2 v3 : Int) : Option (List AV) :=
  (bif (v3 == (0 : Int)) then (some ([] : List AV)) else (bif (v1 == ([] : List UInt8)) then none else (qoo v0 v1 v2 v3 (fun v3q1 => (bif decide (0 ≤ (if (IntKind.i64.wrap ((v0.length : Int) + (1 : Int))) < v3q1 then (IntKind.i64.wrap ((v0.length : Int) + (1 : Int))) else v3q1) ∧ (if (IntKind.i64.wrap ((v0.length : Int) + (1 : Int))) < v3q1 then (IntKind.i64.wrap ((v0.length : Int) + (1 : Int))) else v3q1) ≤ (if (IntKind.i64.wrap ((v0.length : Int) + (1 : Int))) < v3q1 then (IntKind.i64.wrap ((v0.length : Int) + (1 : Int))) else v3q1) ∧ (if (IntKind.i64.wrap ((v0.length : Int) + (1 : Int))) < v3q1 then (IntKind.i64.wrap ((v0.length : Int) + (1 : Int))) else v3q1) * 16 ≤ 281474976710656) then (bif (hd (List.replicate (if (IntKind.i64.wrap ((v0.length : Int) + (1 : Int))) < v3q1 then (IntKind.i64.wrap ((v0.length : Int) + (1 : Int))) else v3q1).toNat ((.str ([] : List UInt8)) : AV)) ((List.replicate (if (IntKind.i64.wrap ((v0.length : Int) + (1 : Int))) < v3q1 then (IntKind.i64.wrap ((v0.length : Int) + (1 : Int))) else v3q1).toNat ((.str ([] : List UInt8)) : AV)).length) && true) then (qop v1 v2 (IntKind.i64.wrap ((if (IntKind.i64.wrap ((v0.length : Int) + (1 : Int))) < v3q1 then (IntKind.i64.wrap ((v0.length : Int) + (1 : Int))) else v3q1) - (1 : Int))) (fun v0q2 v10q3 a0q4 => (bif hd a0q4 a0q4.length then (bif decide (0 ≤ v10q3 ∧ v10q3 < a0q4.length) then (bif hd a0q4 a0q4.length then (oB (a0q4[v10q3.toNat]?) fun y5 => (oB (putE y5 0 1 [(.str v0q2)]) fun z6 => (bif hd (a0q4.set v10q3.toNat z6) a0q4.length then (oB (cutI (a0q4.set v10q3.toNat z6) none (some (IntKind.i64.wrap (v10q3 + (1 : Int))))) fun s7 => (some s7)) else none))) else none) else none) else none)) FU v0 (0 : Int) (List.replicate (if (IntKind.i64.wrap ((v0.length : Int) + (1 : Int))) < v3q1 then (IntKind.i64.wrap ((v0.length : Int) + (1 : Int))) else v3q1).toNat ((.str ([] : List UInt8)) : AV))) else none) else none)))))
def qtg := hull qhr
theorem q1t : qtg = qhr := qa _
def q20 {R : Type} : EntF Tryz.prog R := entB (nt := 66) (dec := (decX (.one (.sl 1)) fun z => aL z)) (enc := (fun r => .sl 1 r)) tabOk follows Tryz.func98 [.t 8] (hdeX fun _ => rfl) (.s .z (.s (.s .z (.s (.s .z (.v [.eta 8 (.one (.sl 1))])) .z)) (.s (.s .z (.s (.s (.r [(2, .c (eK (qbag (f := 129))))] []) .z) .z)) (.s (.sub [.sel [0, 1, 2, 3] []] qv3 []) (.s .z (.s .z (.s .z (.s .z (.s (.b (.sub [.sel [0, 1, 2, 3, 9, 10] [0]] qv4 [])) .z))))))))) S12_ qhr (fun f v => f (v.s 0 0) (v.s 4 0) (v.i 8 0) (v.i 12 0)) (by kernel_rfl) (by kernel_rfl) (by kernel_rfl) fun _ => (by kernel_rfl)
def qkl (v0 v1 : List UInt8) : Option (List AV) :=
  (oB (qtg v0 v1 (0 : Int) (-1 : Int)) fun r1 => (some r1))
def qm8 := hull qkl
theorem q7d : qm8 = qkl := qa _
def qu4 {R : Type} : EntF Tryz.prog R := entB (nt := 8) (dec := (decX (.one (.sl 1)) fun z => aL z)) (enc := (fun r => .sl 1 r)) tabOk follows Tryz.func68 [.t 4] (hdeX fun _ => rfl) (.s .z (.s (.r [(2, .k q20.b)] []) .z)) S9_ qkl (fun f v => f (v.s 0 0) (v.s 4 0)) (by kernel_rfl) (by kernel_rfl) (by kernel_rfl) fun _ => (by kernel_rfl)
def S14_ : Shp := ⟨[(0, .one (.l .s)), (4, .one (.l (.i .u8))), (13, .one (.l (.i .i64))), (14, .one (.l (.i .i64)))], []⟩
def S15_ : Shp := ⟨[(0, .one (.l .s)), (13, .one (.l (.i .i64))), (14, .one (.l (.i .i64)))], []⟩
def S16_ : Shp := ⟨[(0, .one (.l .s))], []⟩
def qwm  (v0 : List UInt8) (v13 v14 : Int) (K : Ex → Env → Mem → Option Bool) := (fun z_v41 => K .norm (qe [(0, (.str v0)), (13, (.int .i64 v13)), (14, (.int .i64 v14)), (41, (.bool z_v41))]) (qd []))
def qge  (v0 : List UInt8) (v4 v13 v14 : Int) (kn : Bool → Option Bool) : Option Bool :=
  (bif ((decide (v4 < (97 : Int))) || (decide (v4 > (122 : Int)))) then (bif (decide (v4 < (48 : Int))) then (kn ((v4 != (45 : Int)) && (v4 != (95 : Int)))) else (kn (((decide (v4 > (57 : Int))) && (v4 != (45 : Int))) && (v4 != (95 : Int))))) else (kn false))
def qk3 := hull (qge)
theorem qwn : qk3 = qge := qa _
def qyj : SubB Tryz.prog (TIof Tryz.prog) 43 0 (kret [.t 2] decB) := jnB tabOk follows Tryz.f69 11467 (.r [(3, .g 2), (15, .g 2), (19, .g 2)] [.sel [0, 13, 14, 41] []]) S14_ (qge) (fun f v K => f (v.s 0 0) (v.i 16 0) (v.i 52 0) (v.i 56 0) (qwm (v.s 0 0) (v.i 52 0) (v.i 56 0) K)) (by kernel_rfl) (fun _ _ => (by kernel_rfl))
def qmy  (K : Ex → Env → Mem → Option Bool) := (fun (_ : Unit) => K (.exit 0) (qe []) (qd []))
def qd9  (v0 : List UInt8) (v13 v14 : Int) (next : Int → Option Bool) (kx0 : Unit → Option Bool) : Option Bool :=
  (bif (decide (v14 < v13)) then (oB (ixB v0 v14) fun c1 => (qk3 v0 (c1.toNat : Int) v13 v14 (fun v41q2 => (bif v41q2 then (some false) else (next (IntKind.i64.wrap (v14 + (1 : Int)))))))) else (kx0 ()))
def qea  (v0 : List UInt8) (v13 : Int) (kx0 : Unit → Option Bool) : Nat → Int → Option Bool
  | 0 => (fun _ => none)
  | n + 1 => (fun v14 => qd9 v0 v13 v14 (qea v0 v13 kx0 n) kx0)
def qq5 := hull (qea)
theorem qwo : qq5 = qea := qa _
def qyk : SubB Tryz.prog (TIof Tryz.prog) 43 0 (kret [.t 2] decB) := lpB tabOk follows Tryz.f69 75 (.s .z (.s (.s .z (.v [.sel [] []])) (.s (.b (.s .z (.s .z (.s (.sub [.sel [0, 4, 13, 14] []] qyj []) .z)))) (.v [.sel [0, 13, 14] []])))) S15_ (qea) (fun f v K n => f (v.s 0 0) (v.i 52 0) (qmy K) n) (fun v f K => qd9 (v.s 0 0) (v.i 52 0) (v.i 56 0) f (qmy K)) (fun f v => f (v.i 56 0)) (fun k v => (fun z0 => k (v.ui 56 0 z0))) (by kernel_rfl) (fun _ _ => (by kernel_rfl)) (fun _ _ _ => (by kernel_rfl)) (fun _ _ _ => (by kernel_rfl)) (fun _ _ => (by kernel_rfl)) (fun _ _ _ _ _ => (by kernel_rfl))
def qi9 (v0 : List UInt8) : Option Bool :=
  (bif ((v0 == ([] : List UInt8)) || (decide ((v0.length : Int) > (63 : Int)))) then (some false) else (qq5 v0 (v0.length : Int) (fun (_ : Unit) => (some true)) FU (0 : Int)))
def qqc := hull qi9
theorem q5r : qqc = qi9 := qa _
def q7e {R : Type} : EntF Tryz.prog R := entB (nt := 43) (dec := decB) (enc := AV.bool) tabOk follows Tryz.func69 [.t 2] hdeB (.s .z (.s (.s (.r [(3, .g 3)] []) .z) (.s (.s .z (.b (.sub [.sel [0, 13, 14] []] qyk []))) .z))) S16_ qi9 (fun f v => f (v.s 0 0)) (by kernel_rfl) (by kernel_rfl) (by kernel_rfl) fun _ => (by kernel_rfl)
def S17_ : Shp := ⟨[(3, .one (.l (.i .i64))), (4, .one (.l .s)), (20, .one (.l (.sl 1))), (21, .one (.l (.i .i64))), (22, .one (.l (.i .i64)))], []⟩
def S18_ : Shp := ⟨[(20, .one (.l (.sl 1))), (21, .one (.l (.i .i64))), (22, .one (.l (.i .i64)))], []⟩
def q21  (v0 : List UInt8) (K : Ex → Env → Mem → Option Bool) := (fun z_v14 => K .norm (qe [(0, (.str v0)), (14, (.bool z_v14))]) (qd []))
def qii  (v0 : List UInt8) (kn : Bool → Option Bool) : Option Bool :=
  (bif (decide ((v0.length : Int) ≥ (255 : Int))) then (kn true) else (oB (qmf v0 ([46] : List UInt8)) fun r1 => (kn (!r1))))
def qu5 := hull (qii)
theorem q23 : qu5 = qii := qa _
def q5s : SubB Tryz.prog (TIof Tryz.prog) 39 0 (kret [.t 2] decB) := jnB tabOk follows Tryz.f52 19 (.r [(5, .c q1q.b)] [.sel [0, 14] []]) S16_ (qii) (fun f v K => f (v.s 0 0) (q21 (v.s 0 0) K)) (by kernel_rfl) (fun _ _ => (by kernel_rfl))
def q24  (v20 : List AV) (v21 v22 : Int) (K : Ex → Env → Mem → Option Bool) := (fun z_v37 => K .norm (qe [(20, (.sl 1 v20)), (21, (.int .i64 v21)), (22, (.int .i64 v22)), (37, (.bool z_v37))]) (qd []))
def qij  (v3 : Int) (v4 : List UInt8) (v20 : List AV) (v21 v22 : Int) (kn : Bool → Option Bool) : Option Bool :=
  (oB (qqc v4) fun r1 => (bif (!r1) then (bif (decide (v3 > (0 : Int))) then (kn true) else (kn (!(v4 == ([42] : List UInt8))))) else (kn false)))
def qu6 := hull (qij)
theorem q25 : qu6 = qij := qa _
def q5t : SubB Tryz.prog (TIof Tryz.prog) 39 0 (kret [.t 2] decB) := jnB tabOk follows Tryz.f52 10647 (.r [(1, .c q7e.b)] [.sel [20, 21, 22, 37] []]) S17_ (qij) (fun f v K => f (v.i 12 0) (v.s 16 0) (v.l 80 0) (v.i 84 0) (v.i 88 0) (q24 (v.l 80 0) (v.i 84 0) (v.i 88 0) K)) (by kernel_rfl) (fun _ _ => (by kernel_rfl))
def qp2  (K : Ex → Env → Mem → Option Bool) := (fun (_ : Unit) => K (.exit 0) (qe []) (qd []))
def qf8  (v20 : List AV) (v21 v22 : Int) (next : Int → Option Bool) (kx0 : Unit → Option Bool) : Option Bool :=
  (bif (decide (v22 < v21)) then (oB (ixB v20 v22) fun y1 => (bif fitC [.s] y1.cells then (qu6 v22 (gS y1.cells 0) v20 v21 v22 (fun v37q2 => (bif v37q2 then (some false) else (next (IntKind.i64.wrap (v22 + (1 : Int))))))) else none)) else (kx0 ()))
def qf9  (v20 : List AV) (v21 : Int) (kx0 : Unit → Option Bool) : Nat → Int → Option Bool
  | 0 => (fun _ => none)
  | n + 1 => (fun v22 => qf8 v20 v21 v22 (qf9 v20 v21 kx0 n) kx0)
def qoq := hull (qf9)
theorem q26 : qoq = qf9 := qa _
def q5u : SubB Tryz.prog (TIof Tryz.prog) 39 0 (kret [.t 2] decB) := lpB tabOk follows Tryz.f52 151 (.s .z (.s (.s .z (.v [.sel [] []])) (.s (.b (.s (.r [(1, .p (.etac 25 [.s]))] []) (.s (.sub [.sel [3, 4, 20, 21, 22] []] q5t []) .z))) (.v [.sel [20, 21, 22] []])))) S18_ (qf9) (fun f v K n => f (v.l 80 0) (v.i 84 0) (qp2 K) n) (fun v f K => qf8 (v.l 80 0) (v.i 84 0) (v.i 88 0) f (qp2 K)) (fun f v => f (v.i 88 0)) (fun k v => (fun z0 => k (v.ui 88 0 z0))) (by kernel_rfl) (fun _ _ => (by kernel_rfl)) (fun _ _ _ => (by kernel_rfl)) (fun _ _ _ => (by kernel_rfl)) (fun _ _ => (by kernel_rfl)) (fun _ _ _ _ _ => (by kernel_rfl))
def qm9 (v0 : List UInt8) : Option Bool :=
  (bif (v0 == ([46] : List UInt8)) then (some true) else (qu5 v0 (fun v14q1 => (bif v14q1 then (some false) else (oB (cutI v0 none (some (IntKind.i64.wrap ((v0.length : Int) - (1 : Int))))) fun s2 => (oB (qm8 s2 ([46] : List UInt8)) fun r3 => (qoq r3 (r3.length : Int) (fun (_ : Unit) => (some true)) FU (0 : Int))))))))
def qid := hull qm9
theorem qbat : qid = qm9 := qa _
def qna {R : Type} : EntF Tryz.prog R := entB (nt := 39) (dec := decB) (enc := AV.bool) tabOk follows Tryz.func52 [.t 2] hdeB (.s .z (.s .z (.s (.s (.sub [.sel [0] []] q5s []) .z) (.s (.s (.r [(5, .k qu4.b)] []) (.b (.sub [.sel [20, 21, 22] []] q5u []))) .z)))) S16_ qm9 (fun f v => f (v.s 0 0)) (by kernel_rfl) (by kernel_rfl) (by kernel_rfl) fun _ => (by kernel_rfl)
theorem qbna {R : Type} : qpv Tryz.prog 54 (q42 (R := R)) := qbpi Tryz.laysItoa (List.mem_singleton.2 rfl)
def S19_ : Shp := ⟨[(0, .one (.l (.i .u64))), (3, .one (.own 0)), (7, .one (.l (.i .i64))), (8, .one (.l (.i .i64)))], [.arr true 1]⟩
def S20_ : Shp := ⟨[(0, .one (.l (.i .u64)))], []⟩
def qq6  (K : Ex → Env → Mem → Option (List UInt8)) := (fun z_a0 => K (.exit 0) (qe [(3, (.own 0 z_a0.length))]) (qd [(some (.arr true 1 z_a0))]))
def qgu  (v0 v7 v8 : Int) (a0 : List AV) (next : Int → (List AV) → Option (List UInt8)) (kx0 : (List AV) → Option (List UInt8)) : Option (List UInt8) :=
  (bif (decide (v8 < v7)) then (bif decide ((IntKind.u64.wrap (IntKind.i64.wrap ((8 : Int) * v8))) < 0) then none else (bif hd a0 a0.length then (bif decide (0 ≤ (IntKind.i64.wrap ((7 : Int) - v8)) ∧ (IntKind.i64.wrap ((7 : Int) - v8)) < a0.length) then (bif hd a0 a0.length then (oB (a0[(IntKind.i64.wrap ((7 : Int) - v8)).toNat]?) fun y1 => (oB (putE y1 0 1 [(.int .u8 (IntKind.u8.wrap (v0.fdiv (2 ^ min (IntKind.u64.wrap (IntKind.i64.wrap ((8 : Int) * v8))).toNat IntKind.u64.bits))))]) fun z2 => (bif hd (a0.set ((IntKind.i64.wrap ((7 : Int) - v8)).toNat) z2) a0.length then (next (IntKind.i64.wrap (v8 + (1 : Int))) (a0.set ((IntKind.i64.wrap ((7 : Int) - v8)).toNat) z2)) else none))) else none) else none) else none)) else (kx0 a0))
def qgv  (v0 v7 : Int) (kx0 : (List AV) → Option (List UInt8)) : Nat → Int → (List AV) → Option (List UInt8)
  | 0 => (fun _ _ => none)
  | n + 1 => (fun v8 a0 => qgu v0 v7 v8 a0 (qgv v0 v7 kx0 n) kx0)
def qwp := hull (qgv)
theorem q5v : qwp = qgv := qa _
def q7f : SubB Tryz.prog (TIof Tryz.prog) 24 0 (kret [.t 2] decS) := lpB tabOk follows Tryz.f70 75 (.s .z (.s (.s .z (.v [.sel [3] [0]])) (.s .z (.v [.hd 3, .sel [0, 3, 7, 8] [0]])))) S19_ (qgv) (fun f v K n => f (v.i 0 0) (v.i 28 0) (qq6 K) n) (fun v f K => qgu (v.i 0 0) (v.i 28 0) (v.i 32 0) (v.r 0) f (qq6 K)) (fun f v => f (v.i 32 0) (v.r 0)) (fun k v => (fun z0 z1 => k ((v.ui 32 0 z0).ur 0 z1))) (by kernel_rfl) (fun _ _ => (by kernel_rfl)) (fun _ _ _ => (by kernel_rfl)) (fun _ _ _ => (by kernel_rfl)) (fun _ _ => (by kernel_rfl)) (fun _ _ _ _ _ => (by kernel_rfl))
def qnb (v0 : Int) : Option (List UInt8) :=
  (bif decide (0 ≤ (8 : Int) ∧ (8 : Int) ≤ (8 : Int) ∧ (8 : Int) * 1 ≤ 281474976710656) then (bif (hd (List.replicate (8 : Int).toNat ((.int .u8 (0 : Int)) : AV)) ((List.replicate (8 : Int).toNat ((.int .u8 (0 : Int)) : AV)).length) && true) then (qwp v0 (((List.replicate (8 : Int).toNat ((.int .u8 (0 : Int)) : AV)).length) : Int) (fun a0q1 => (bif hd a0q1 a0q1.length then (oB (qy a0q1) fun s2 => (some s2)) else none)) FU (0 : Int) (List.replicate (8 : Int).toNat ((.int .u8 (0 : Int)) : AV))) else none) else none)
def qqt := hull qnb
theorem qbau : qqt = qnb := qa _
def q1b {R : Type} : EntF Tryz.prog R := entB (nt := 24) (dec := decS) (enc := AV.str) tabOk follows Tryz.func70 [.t 2] hdeS (.s .z (.s .z (.s (.s .z (.b (.sub [.sel [0, 3, 7, 8] [0]] q7f []))) .z))) S20_ qnb (fun f v => f (v.i 0 0)) (by kernel_rfl) (by kernel_rfl) (by kernel_rfl) fun _ => (by kernel_rfl)
def S21_ : Shp := ⟨[(0, .one (.l .s)), (3, .one (.l (.i .u64))), (4, .one (.l (.i .i64)))], []⟩
def S22_ : Shp := ⟨[(3, .one (.l (.i .u64))), (18, .one (.l (.i .i64)))], []⟩
def qr3  (K : Ex → Env → Mem → Option Int) := (fun z_v3 => K (.exit 0) (qe [(3, (.int .u64 z_v3))]) (qd []))
def qhs  (v0 : List UInt8) (v3 v4 : Int) (next : Int → Int → Option Int) (kx0 : Int → Option Int) : Option Int :=
  (bif (decide (v4 < (v0.length : Int))) then (oB (ixB v0 v4) fun c1 => (next (IntKind.u64.wrap ((qdf .xor .u64 v3 (IntKind.u64.wrap (c1.toNat : Int))) * (1099511628211 : Int))) (IntKind.i64.wrap (v4 + (1 : Int))))) else (kx0 v3))
def qht  (v0 : List UInt8) (kx0 : Int → Option Int) : Nat → Int → Int → Option Int
  | 0 => (fun _ _ => none)
  | n + 1 => (fun v3 v4 => qhs v0 v3 v4 (qht v0 kx0 n) kx0)
def q1c := hull (qht)
theorem q7g : q1c = qht := qa _
def q8m : SubB Tryz.prog (TIof Tryz.prog) 27 0 (kret [.t 2] (decI .u64)) := lpB tabOk follows Tryz.f71 75 (.s (.s .z (.s .z (.v [.sel [3] []]))) (.s .z (.v [.sel [0, 3, 4] []]))) S21_ (qht) (fun f v K n => f (v.s 0 0) (qr3 K) n) (fun v f K => qhs (v.s 0 0) (v.i 12 0) (v.i 16 0) f (qr3 K)) (fun f v => f (v.i 12 0) (v.i 16 0)) (fun k v => (fun z0 z1 => k ((v.ui 12 0 z0).ui 16 0 z1))) (by kernel_rfl) (fun _ _ => (by kernel_rfl)) (fun _ _ _ => (by kernel_rfl)) (fun _ _ _ => (by kernel_rfl)) (fun _ _ => (by kernel_rfl)) (fun _ _ _ _ _ => (by kernel_rfl))
def qq7  (K : Ex → Env → Mem → Option Int) := (fun z_v3 => K (.exit 2) (qe [(3, (.int .u64 z_v3))]) (qd []))
def qfi  (v3 v18 : Int) (next : Int → Int → Option Int) (kx2 : Int → Option Int) : Option Int :=
  (bif (decide (v18 < (3 : Int))) then (next (IntKind.u64.wrap ((qdf .xor .u64 v3 (v3.fdiv (2 ^ min (32 : Int).toNat IntKind.u64.bits))) * (11400714819323198485 : Int))) (IntKind.i64.wrap (v18 + (1 : Int)))) else (kx2 v3))
def qdh  (kx2 : Int → Option Int) : Nat → Int → Int → Option Int
  | 0 => (fun _ _ => none)
  | n + 1 => (fun v3 v18 => qfi v3 v18 (qdh kx2 n) kx2)
def qiv := hull (qdh)
theorem q5w : qiv = qdh := qa _
def q7h : SubB Tryz.prog (TIof Tryz.prog) 27 0 (kret [.t 2] (decI .u64)) := lpB tabOk follows Tryz.f71 151 (.s .z (.s (.s .z (.v [.sel [3] []])) (.s .z (.v [.sel [3, 18] []])))) S22_ (qdh) (fun f v K n => f (qq7 K) n) (fun v f K => qfi (v.i 12 0) (v.i 72 0) f (qq7 K)) (fun f v => f (v.i 12 0) (v.i 72 0)) (fun k v => (fun z0 z1 => k ((v.ui 12 0 z0).ui 72 0 z1))) (by kernel_rfl) (fun _ _ => (by kernel_rfl)) (fun _ _ _ => (by kernel_rfl)) (fun _ _ _ => (by kernel_rfl)) (fun _ _ => (by kernel_rfl)) (fun _ _ _ _ _ => (by kernel_rfl))
def qor (v0 : List UInt8) : Option Int :=
  (q1c v0 (fun v3q1 => (qiv (fun v3q2 => (some v3q2)) FU v3q1 (0 : Int))) FU (14695981039346656037 : Int) (0 : Int))
def qyl := hull qor
theorem qbc6 : qyl = qor := qa _
def qbd8 {R : Type} : EntF Tryz.prog R := entB (nt := 27) (dec := (decI .u64)) (enc := (AV.int .u64)) tabOk follows Tryz.func71 [.t 2] hdeI (.s .z (.s .z (.s (.s .z (.b (.sub [.sel [0, 3, 4] []] q8m []))) (.s (.s .z (.b (.sub [.sel [3, 18] []] q7h []))) .z)))) S16_ qor (fun f v => f (v.s 0 0)) (by kernel_rfl) (by kernel_rfl) (by kernel_rfl) fun _ => (by kernel_rfl)
def qos (v0 v1 : List UInt8) : Option (List UInt8) :=
  (oB (qqt (IntKind.u64.wrap (v0.length : Int))) fun r1 => (bif decide (r1.length + v0.length ≤ 9223372036854775807) then (bif decide ((r1 ++ v0).length + v1.length ≤ 9223372036854775807) then (oB (qyl ((r1 ++ v0) ++ v1)) fun r2 => (oB (qqt r2) fun r3 => (some r3))) else none) else none))
def qym := hull qos
theorem qbc7 : qym = qos := qa _
def qbd9 {R : Type} : EntF Tryz.prog R := entB (nt := 15) (dec := decS) (enc := AV.str) tabOk follows Tryz.func53 [.t 4] hdeS (.s .z (.s (.r [(3, .c q1b.b), (8, .c qbd8.b), (9, .c q1b.b)] []) .z)) S9_ qos (fun f v => f (v.s 0 0) (v.s 4 0)) (by kernel_rfl) (by kernel_rfl) (by kernel_rfl) fun _ => (by kernel_rfl)
def qhu : List LT := [.s, .b, (.i .i64)]
def qgw (x0 : List UInt8) (x1 : Bool) (x2 : Int) : List AV := [.str x0, .bool x1, .int .i64 x2]
def qb6 : List LT := [.b, (.i .u64), (.i .u64), .s, .s, .s, (.i .i64), (.i .i64), (.i .i64), (.i .i64), (.i .i64), (.i .i64), (.i .u64)]
def q8 (x0 : Bool) (x1 x2 : Int) (x3 x4 x5 : List UInt8) (x6 x7 x8 x9 x10 x11 x12 : Int) : List AV := [.bool x0, .int .u64 x1, .int .u64 x2, .str x3, .str x4, .str x5, .int .i64 x6, .int .i64 x7, .int .i64 x8, .int .i64 x9, .int .i64 x10, .int .i64 x11, .int .u64 x12]
def S23_ : Shp := ⟨[(1, .one (.ptr 0 0)), (2, .one (.ptr 1 0))], [.box true (lk qhu), .box true (lk qb6)]⟩
def S24_ : Shp := ⟨[(1, .one (.ptr 0 0)), (2, .one (.ptr 1 0)), (4, .one (.l (.i .i64))), (5, .one (.l .s))], [.box true (lk qhu), .box true (lk qb6)]⟩
def S25_ : Shp := ⟨[(0, .st (lk qhu))], []⟩
def qot : AV → Option (AV × Int) := decN [(.st [.b, (.i .u64), (.i .u64), .s, .s, .s, (.i .i64), (.i .i64), (.i .i64), (.i .i64), (.i .i64), (.i .i64), (.i .u64)]), (.one (.i .i64))] fun z => ((gC (tpL z) 0), aI (gC (tpL z) 1))
def q5x  (Al : List UInt8) (Am : Bool) (An : Int) (Ao : Bool) (Ap Aq : Int) (Ar As At : List UInt8) (Au Av Aw Ax Ay Az A0 : Int) (K : Ex → Env → Mem → Option (AV × Int)) := (fun z_v15 => K .norm (qe [(1, (.ptr 0 0)), (2, (.ptr 1 0)), (15, (.bool z_v15))]) (qd [(some (.box true (qgw Al Am An))), (some (.box true (q8 Ao Ap Aq Ar As At Au Av Aw Ax Ay Az A0)))]))
def qja  (Al : List UInt8) (Am : Bool) (An : Int) (Ao : Bool) (Ap Aq : Int) (Ar As At : List UInt8) (Au Av Aw Ax Ay Az A0 : Int) (kn : Bool → Option (AV × Int)) : Option (AV × Int) :=
  (oB (qid Al) fun r1 => (bif (!r1) then (kn true) else (oB (ixB Al (0 : Int)) fun c2 => (kn ((c2.toNat : Int) == (42 : Int))))))
def qwq := hull (qja)
theorem q5y : qwq = qja := qa _
def q7i : SubB Tryz.prog (TIof Tryz.prog) 38 0 (kret [(.cell 2 true 13), .t 3] qot) := jnB tabOk follows Tryz.f32 9 (.r [(2, .c qna.b)] [.sel [1, 2, 15] [0, 1]]) S23_ (qja) (fun f v K => f (v.s 3 0) (v.b 3 1) (v.i 3 2) (v.b 7 0) (v.i 7 1) (v.i 7 2) (v.s 7 3) (v.s 7 4) (v.s 7 5) (v.i 7 6) (v.i 7 7) (v.i 7 8) (v.i 7 9) (v.i 7 10) (v.i 7 11) (v.i 7 12) (q5x (v.s 3 0) (v.b 3 1) (v.i 3 2) (v.b 7 0) (v.i 7 1) (v.i 7 2) (v.s 7 3) (v.s 7 4) (v.s 7 5) (v.i 7 6) (v.i 7 7) (v.i 7 8) (v.i 7 9) (v.i 7 10) (v.i 7 11) (v.i 7 12) K)) (by kernel_rfl) (fun _ _ => (by kernel_rfl))
def q27  (Al : List UInt8) (Am : Bool) (An : Int) (Ao : Bool) (Ap Aq : Int) (Ar As At : List UInt8) (Au Av Aw Ax Ay Az A0 : Int) (K : Ex → Env → Mem → Option (AV × Int)) := (fun z_v4 z_v5 => K .norm (qe [(1, (.ptr 0 0)), (2, (.ptr 1 0)), (4, (.int .i64 z_v4)), (5, (.str z_v5))]) (qd [(some (.box true (qgw Al Am An))), (some (.box true (q8 Ao Ap Aq Ar As At Au Av Aw Ax Ay Az A0)))]))
def qik  (v4 : Int) (v5 Al : List UInt8) (Am : Bool) (An : Int) (Ao : Bool) (Ap Aq : Int) (Ar As At : List UInt8) (Au Av Aw Ax Ay Az A0 : Int) (kn : Int → (List UInt8) → Option (AV × Int)) : Option (AV × Int) :=
  (bif Am then (kn (257 : Int) ([75] : List UInt8)) else (kn v4 v5))
def qu7 := hull (qik)
theorem q28 : qu7 = qik := qa _
def q5z : SubB Tryz.prog (TIof Tryz.prog) 38 0 (kret [(.cell 2 true 13), .t 3] qot) := jnB tabOk follows Tryz.f32 47 (.s .z (.s (.v [.sel [1, 2, 4, 5] [0, 1]]) (.v [.sel [1, 2, 4, 5] [0, 1]]))) S24_ (qik) (fun f v K => f (v.i 16 0) (v.s 20 0) (v.s 3 0) (v.b 3 1) (v.i 3 2) (v.b 7 0) (v.i 7 1) (v.i 7 2) (v.s 7 3) (v.s 7 4) (v.s 7 5) (v.i 7 6) (v.i 7 7) (v.i 7 8) (v.i 7 9) (v.i 7 10) (v.i 7 11) (v.i 7 12) (q27 (v.s 3 0) (v.b 3 1) (v.i 3 2) (v.b 7 0) (v.i 7 1) (v.i 7 2) (v.s 7 3) (v.s 7 4) (v.s 7 5) (v.i 7 6) (v.i 7 7) (v.i 7 8) (v.i 7 9) (v.i 7 10) (v.i 7 11) (v.i 7 12) K)) (by kernel_rfl) (fun _ _ => (by kernel_rfl))
def qnc (Aa : List UInt8) (Ab : Bool) (Ac : Int) : Option (AV × Int) :=
  (qwq Aa Ab Ac false (0 : Int) (0 : Int) ([] : List UInt8) ([] : List UInt8) ([] : List UInt8) (0 : Int) (0 : Int) (0 : Int) (0 : Int) (0 : Int) (0 : Int) (0 : Int) (fun v15q1 => (bif v15q1 then (some ((.agg [(.bool false), (.int .u64 (0 : Int)), (.int .u64 (0 : Int)), (.str ([] : List UInt8)), (.str ([] : List UInt8)), (.str ([] : List UInt8)), (.int .i64 (0 : Int)), (.int .i64 (0 : Int)), (.int .i64 (0 : Int)), (.int .i64 (0 : Int)), (.int .i64 (0 : Int)), (.int .i64 (0 : Int)), (.int .u64 (0 : Int))]), (2 : Int))) else (bif ((decide (Ac < (0 : Int))) || (decide (Ac ≥ (2147483648 : Int)))) then (some ((.agg [(.bool false), (.int .u64 (0 : Int)), (.int .u64 (0 : Int)), (.str ([] : List UInt8)), (.str ([] : List UInt8)), (.str ([] : List UInt8)), (.int .i64 (0 : Int)), (.int .i64 (0 : Int)), (.int .i64 (0 : Int)), (.int .i64 (0 : Int)), (.int .i64 (0 : Int)), (.int .i64 (0 : Int)), (.int .u64 (0 : Int))]), (1 : Int))) else (qu7 (256 : Int) ([90] : List UInt8) Aa Ab Ac false (0 : Int) (0 : Int) ([] : List UInt8) ([] : List UInt8) ([] : List UInt8) (0 : Int) (0 : Int) (0 : Int) (0 : Int) (0 : Int) (0 : Int) (0 : Int) (fun v4q2 v5q3 => (oB (qbak Ac) fun r4 => (bif decide (v5q3.length + r4.length ≤ 9223372036854775807) then (oB (qym Aa (v5q3 ++ r4)) fun r5 => (some ((.agg [(.bool false), (.int .u64 (0 : Int)), (.int .u64 (0 : Int)), (.str ([] : List UInt8)), (.str ([] : List UInt8)), (.str r5), (.int .i64 v4q2), (.int .i64 (3 : Int)), (.int .i64 (253 : Int)), (.int .i64 (0 : Int)), (.int .i64 (0 : Int)), (.int .i64 (0 : Int)), (.int .u64 (0 : Int))]), (0 : Int)))) else none))))))))
def qv5 := hull qnc
theorem qbav : qv5 = qnc := qa _
def qbc8 {R : Type} : EntF Tryz.prog R := entB (nt := 38) (dec := qot) (enc := (fun r => .tup [qpq (.st [.b, (.i .u64), (.i .u64), .s, .s, .s, (.i .i64), (.i .i64), (.i .i64), (.i .i64), (.i .i64), (.i .i64), (.i .u64)]) r.1, .int .i64 r.2])) tabOk follows Tryz.func32 [(.cell 2 true 13), .t 3] (hdeN fun _ => rfl) (.s .z (.s (.s (.sub [.sel [1, 2] [0, 1]] q7i []) .z) (.s (.s (.r [(4, .g 3)] []) .z) (.s .z (.s (.sub [.sel [1, 2, 4, 5] [0, 1]] q5z []) (.s (.d [] [(6, .c (eB qbna)), (8, .c qbd9.b)] [] []) .z)))))) S25_ qnc (fun f v => f (v.s 1 0) (v.b 1 1) (v.i 1 2)) (by kernel_rfl) (by kernel_rfl) (by kernel_rfl) fun _ => (by kernel_rfl)
def qrq : Option (List AV) :=
  (bif hd ([(.agg [(.int .i64 (1 : Int)), (.str ([65] : List UInt8)), (.str ([52] : List UInt8))]), (.agg [(.int .i64 (2 : Int)), (.str ([78, 83] : List UInt8)), (.str ([104] : List UInt8))]), (.agg [(.int .i64 (5 : Int)), (.str ([67, 78, 65, 77, 69] : List UInt8)), (.str ([104] : List UInt8))]), (.agg [(.int .i64 (6 : Int)), (.str ([83, 79, 65] : List UInt8)), (.str ([104, 109, 118, 119, 120, 121, 122] : List UInt8))]), (.agg [(.int .i64 (12 : Int)), (.str ([80, 84, 82] : List UInt8)), (.str ([104] : List UInt8))]), (.agg [(.int .i64 (15 : Int)), (.str ([77, 88] : List UInt8)), (.str ([65, 104] : List UInt8))]), (.agg [(.int .i64 (16 : Int)), (.str ([84, 88, 84] : List UInt8)), (.str ([116] : List UInt8))]), (.agg [(.int .i64 (28 : Int)), (.str ([65, 65, 65, 65] : List UInt8)), (.str ([54] : List UInt8))]), (.agg [(.int .i64 (33 : Int)), (.str ([83, 82, 86] : List UInt8)), (.str ([65, 66, 67, 104] : List UInt8))]), (.agg [(.int .i64 (39 : Int)), (.str ([68, 78, 65, 77, 69] : List UInt8)), (.str ([104] : List UInt8))]), (.agg [(.int .i64 (43 : Int)), (.str ([68, 83] : List UInt8)), (.str ([65, 98, 99, 114] : List UInt8))]), (.agg [(.int .i64 (46 : Int)), (.str ([82, 82, 83, 73, 71] : List UInt8)), (.str ([65, 115, 98, 120, 121, 122, 70, 104, 114] : List UInt8))]), (.agg [(.int .i64 (47 : Int)), (.str ([78, 83, 69, 67] : List UInt8)), (.str ([104, 110] : List UInt8))]), (.agg [(.int .i64 (48 : Int)), (.str ([68, 78, 83, 75, 69, 89] : List UInt8)), (.str ([65, 98, 99, 114] : List UInt8))])] : List AV) (([(.agg [(.int .i64 (1 : Int)), (.str ([65] : List UInt8)), (.str ([52] : List UInt8))]), (.agg [(.int .i64 (2 : Int)), (.str ([78, 83] : List UInt8)), (.str ([104] : List UInt8))]), (.agg [(.int .i64 (5 : Int)), (.str ([67, 78, 65, 77, 69] : List UInt8)), (.str ([104] : List UInt8))]), (.agg [(.int .i64 (6 : Int)), (.str ([83, 79, 65] : List UInt8)), (.str ([104, 109, 118, 119, 120, 121, 122] : List UInt8))]), (.agg [(.int .i64 (12 : Int)), (.str ([80, 84, 82] : List UInt8)), (.str ([104] : List UInt8))]), (.agg [(.int .i64 (15 : Int)), (.str ([77, 88] : List UInt8)), (.str ([65, 104] : List UInt8))]), (.agg [(.int .i64 (16 : Int)), (.str ([84, 88, 84] : List UInt8)), (.str ([116] : List UInt8))]), (.agg [(.int .i64 (28 : Int)), (.str ([65, 65, 65, 65] : List UInt8)), (.str ([54] : List UInt8))]), (.agg [(.int .i64 (33 : Int)), (.str ([83, 82, 86] : List UInt8)), (.str ([65, 66, 67, 104] : List UInt8))]), (.agg [(.int .i64 (39 : Int)), (.str ([68, 78, 65, 77, 69] : List UInt8)), (.str ([104] : List UInt8))]), (.agg [(.int .i64 (43 : Int)), (.str ([68, 83] : List UInt8)), (.str ([65, 98, 99, 114] : List UInt8))]), (.agg [(.int .i64 (46 : Int)), (.str ([82, 82, 83, 73, 71] : List UInt8)), (.str ([65, 115, 98, 120, 121, 122, 70, 104, 114] : List UInt8))]), (.agg [(.int .i64 (47 : Int)), (.str ([78, 83, 69, 67] : List UInt8)), (.str ([104, 110] : List UInt8))]), (.agg [(.int .i64 (48 : Int)), (.str ([68, 78, 83, 75, 69, 89] : List UInt8)), (.str ([65, 98, 99, 114] : List UInt8))])] : List AV).length) then (some ([(.agg [(.int .i64 (1 : Int)), (.str ([65] : List UInt8)), (.str ([52] : List UInt8))]), (.agg [(.int .i64 (2 : Int)), (.str ([78, 83] : List UInt8)), (.str ([104] : List UInt8))]), (.agg [(.int .i64 (5 : Int)), (.str ([67, 78, 65, 77, 69] : List UInt8)), (.str ([104] : List UInt8))]), (.agg [(.int .i64 (6 : Int)), (.str ([83, 79, 65] : List UInt8)), (.str ([104, 109, 118, 119, 120, 121, 122] : List UInt8))]), (.agg [(.int .i64 (12 : Int)), (.str ([80, 84, 82] : List UInt8)), (.str ([104] : List UInt8))]), (.agg [(.int .i64 (15 : Int)), (.str ([77, 88] : List UInt8)), (.str ([65, 104] : List UInt8))]), (.agg [(.int .i64 (16 : Int)), (.str ([84, 88, 84] : List UInt8)), (.str ([116] : List UInt8))]), (.agg [(.int .i64 (28 : Int)), (.str ([65, 65, 65, 65] : List UInt8)), (.str ([54] : List UInt8))]), (.agg [(.int .i64 (33 : Int)), (.str ([83, 82, 86] : List UInt8)), (.str ([65, 66, 67, 104] : List UInt8))]), (.agg [(.int .i64 (39 : Int)), (.str ([68, 78, 65, 77, 69] : List UInt8)), (.str ([104] : List UInt8))]), (.agg [(.int .i64 (43 : Int)), (.str ([68, 83] : List UInt8)), (.str ([65, 98, 99, 114] : List UInt8))]), (.agg [(.int .i64 (46 : Int)), (.str ([82, 82, 83, 73, 71] : List UInt8)), (.str ([65, 115, 98, 120, 121, 122, 70, 104, 114] : List UInt8))]), (.agg [(.int .i64 (47 : Int)), (.str ([78, 83, 69, 67] : List UInt8)), (.str ([104, 110] : List UInt8))]), (.agg [(.int .i64 (48 : Int)), (.str ([68, 78, 83, 75, 69, 89] : List UInt8)), (.str ([65, 98, 99, 114] : List UInt8))])] : List AV)) else none)
def qv6 := hull qrq
theorem qbaw : qv6 = qrq := qa _
def q1d {R : Type} : EntF Tryz.prog R := entB (nt := 16) (dec := (decF true 3)) (enc := (AV.fr true 3)) tabOk follows Tryz.func100 [.t 0] hdeF (.z) (⟨[], []⟩ : Shp) qrq (fun f v => f) (by kernel_rfl) (by kernel_rfl) (by kernel_rfl) fun _ => (by kernel_rfl)
def qgx : List LT := [(.i .i64), .s, .s]
def qou (x0 : Int) (x1 x2 : List UInt8) : List AV := [.int .i64 x0, .str x1, .str x2]
def S26_ : Shp := ⟨[(0, .one (.l (.i .i64))), (2, .one (.ptr 0 0)), (6, .one (.l (.sl 3))), (7, .one (.l (.i .i64))), (8, .one (.l (.i .i64)))], [.box true (lk qgx)]⟩
def S27_ : Shp := ⟨[(0, .one (.l (.i .i64)))], []⟩
def qwr : AV → Option (AV × Bool) := decN [(.st [(.i .i64), .s, .s]), (.one .b)] fun z => ((gC (tpL z) 0), aB (gC (tpL z) 1))
def qr4  (Al : Int) (Am An : List UInt8) (K : Ex → Env → Mem → Option (AV × Bool)) := (fun (_ : Unit) => K (.exit 0) (qe [(2, (.ptr 0 0))]) (qd [(some (.box true (qou Al Am An)))]))
def qu8  (v0 : Int) (v6 : List AV) (v7 v8 Al : Int) (Am An : List UInt8) (next : Int → Option (AV × Bool)) (kx0 : Unit → Option (AV × Bool)) : Option (AV × Bool) :=
  (bif (decide (v8 < v7)) then (oB (ixB v6 v8) fun y1 => (bif fitC qgx y1.cells then (bif ((gI y1.cells 0) == v0) then (some ((.agg [(.int .i64 (gI y1.cells 0)), (.str (gS y1.cells 1)), (.str (gS y1.cells 2))]), true)) else (next (IntKind.i64.wrap (v8 + (1 : Int))))) else none)) else (kx0 ()))
def qkm  (v0 : Int) (v6 : List AV) (v7 Al : Int) (Am An : List UInt8) (kx0 : Unit → Option (AV × Bool)) : Nat → Int → Option (AV × Bool)
  | 0 => (fun _ => none)
  | n + 1 => (fun v8 => qu8 v0 v6 v7 v8 Al Am An (qkm v0 v6 v7 Al Am An kx0 n) kx0)
def q1e := hull (qkm)
theorem q7j : q1e = qkm := qa _
def q8n : SubB Tryz.prog (TIof Tryz.prog) 19 0 (kret [(.cell 2 true 3), .t 3] qwr) := lpB tabOk follows Tryz.f73 37 (.s .z (.s (.s .z (.v [.sel [2] [0]])) (.s (.b (.s (.r [(0, .p (.etac 10 qgx))] []) .z)) (.v [.sel [0, 2, 6, 7, 8] [0]])))) S26_ (qkm) (fun f v K n => f (v.i 0 0) (v.l 24 0) (v.i 28 0) (v.i 3 0) (v.s 3 1) (v.s 3 2) (qr4 (v.i 3 0) (v.s 3 1) (v.s 3 2) K) n) (fun v f K => qu8 (v.i 0 0) (v.l 24 0) (v.i 28 0) (v.i 32 0) (v.i 3 0) (v.s 3 1) (v.s 3 2) f (qr4 (v.i 3 0) (v.s 3 1) (v.s 3 2) K)) (fun f v => f (v.i 32 0)) (fun k v => (fun z0 => k (v.ui 32 0 z0))) (by kernel_rfl) (fun _ _ => (by kernel_rfl)) (fun _ _ _ => (by kernel_rfl)) (fun _ _ _ => (by kernel_rfl)) (fun _ _ => (by kernel_rfl)) (fun _ _ _ _ _ => (by kernel_rfl))
def qov (v0 : Int) : Option (AV × Bool) :=
  (oB (qv6) fun r1 => (q1e v0 r1 (r1.length : Int) (0 : Int) ([] : List UInt8) ([] : List UInt8) (fun (_ : Unit) => (some ((.agg [(.int .i64 (0 : Int)), (.str ([] : List UInt8)), (.str ([] : List UInt8))]), false))) FU (0 : Int)))
def qsp := hull qov
theorem qbc9 : qsp = qov := qa _
def q29 {R : Type} : EntF Tryz.prog R := entB (nt := 19) (dec := qwr) (enc := (fun r => .tup [qpq (.st [(.i .i64), .s, .s]) r.1, .bool r.2])) tabOk follows Tryz.func73 [(.cell 2 true 3), .t 3] (hdeN fun _ => rfl) (.s .z (.s (.s (.r [(0, .k q1d.b)] []) (.b (.sub [.sel [0, 2, 6, 7, 8] [0]] q8n []))) .z)) S27_ qov (fun f v => f (v.i 0 0)) (by kernel_rfl) (by kernel_rfl) (by kernel_rfl) fun _ => (by kernel_rfl)
def qbhx : List LT := [.b, (.i .u64), (.i .u64)]
def S28_ : Shp := ⟨[(0, .st (lk qbhx))], []⟩
def q3a (Aa : Bool) (Ab Ac : Int) : Option Bool :=
  (bif Aa then (some true) else (bif (Ab == (0 : Int)) then (some (decide (Ac ≤ (4294967295 : Int)))) else (some false)))
def q8o := hull q3a
def q3b {R : Type} : EntF Tryz.prog R := entB (nt := 15) (dec := decB) (enc := AV.bool) tabOk follows Tryz.func101 [.t 2] hdeB (.z) S28_ q3a (fun f v => f (v.b 1 0) (v.i 1 1) (v.i 1 2)) (by kernel_rfl) (by kernel_rfl) (by kernel_rfl) fun _ => (by kernel_rfl)
def ql7 (v0 v1 : List UInt8) : Option Bool :=
  (bif (decide ((v0.length : Int) ≥ (v1.length : Int))) then (oB (cutI v0 none (some (v1.length : Int))) fun s1 => (some (s1 == v1))) else (some false))
def qws := hull ql7
def qus {R : Type} : EntF Tryz.prog R := entB (nt := 18) (dec := decB) (enc := AV.bool) tabOk follows Tryz.func152 [.t 4] hdeB (.z) S9_ ql7 (fun f v => f (v.s 0 0) (v.s 4 0)) (by kernel_rfl) (by kernel_rfl) (by kernel_rfl) fun _ => (by kernel_rfl)
def qp3 (v0 v1 : List UInt8) : Option Bool :=
  (oB (qws v0 v1) fun r1 => (some r1))
def q50 := hull qp3
def q1u {R : Type} : EntF Tryz.prog R := entB (nt := 8) (dec := decB) (enc := AV.bool) tabOk follows Tryz.func136 [.t 4] hdeB (.s .z (.s (.r [(2, .c qus.b)] []) .z)) S9_ qp3 (fun f v => f (v.s 0 0) (v.s 4 0)) (by kernel_rfl) (by kernel_rfl) (by kernel_rfl) fun _ => (by kernel_rfl)
def q3c (v0 : List UInt8) : Option Bool :=
  (oB (qid v0) fun r1 => (bif r1 then (oB (q50 v0 ([42] : List UInt8)) fun r2 => (some (!r2))) else (some false)))
def qlo := hull q3c
def qiw {R : Type} : EntF Tryz.prog R := entB (nt := 10) (dec := decB) (enc := AV.bool) tabOk follows Tryz.func102 [.t 2] hdeB (.s .z (.s (.r [(1, .c qna.b), (4, .c q1u.b)] []) .z)) S16_ q3c (fun f v => f (v.s 0 0)) (by kernel_rfl) (by kernel_rfl) (by kernel_rfl) fun _ => (by kernel_rfl)
def qwt (v0 : Int) : Option Bool :=
  (some ((decide (v0 ≥ (0 : Int))) && (decide (v0 < (4294967296 : Int)))))
def qbea := hull qwt
def qbax {R : Type} : EntF Tryz.prog R := entB (nt := 9) (dec := decB) (enc := AV.bool) tabOk follows Tryz.func103 [.t 2] hdeB (.s .z (.s (.r [(3, .g 2)] []) .z)) S27_ qwt (fun f v => f (v.i 0 0)) (by kernel_rfl) (by kernel_rfl) (by kernel_rfl) fun _ => (by kernel_rfl)
def S29_ : Shp := ⟨[(0, .one (.l (.i .i64))), (1, .one (.l (.i .i64)))], []⟩
def qqd (v0 v1 : Int) : Option Bool :=
  (some ((decide (v0 ≥ (0 : Int))) && (decide (v0 ≤ v1))))
def q9 := hull qqd
theorem q8p : q9 = qqd := qa _
def qba {R : Type} : EntF Tryz.prog R := entB (nt := 12) (dec := decB) (enc := AV.bool) tabOk follows Tryz.func104 [.t 4] hdeB (.s .z (.s (.r [(3, .g 3)] []) .z)) S29_ qqd (fun f v => f (v.i 0 0) (v.i 4 0)) (by kernel_rfl) (by kernel_rfl) (by kernel_rfl) fun _ => (by kernel_rfl)
def qow (v0 : List UInt8) : Option Bool :=
  (some ((decide ((v0.length : Int) ≥ (1 : Int))) && (decide ((v0.length : Int) ≤ (255 : Int)))))
def qox := hull qow
theorem qbda : qox = qow := qa _
def qth {R : Type} : EntF Tryz.prog R := entB (nt := 11) (dec := decB) (enc := AV.bool) tabOk follows Tryz.func105 [.t 2] hdeB (.s .z (.s (.r [(4, .g 3)] []) .z)) S16_ qow (fun f v => f (v.s 0 0)) (by kernel_rfl) (by kernel_rfl) (by kernel_rfl) fun _ => (by kernel_rfl)
def q1f (v0 : Int) : Option Bool :=
  (oB (qsp v0) fun r1 => (some r1.2))
def qbgb := hull q1f
def qbdb {R : Type} : EntF Tryz.prog R := entB (nt := 11) (dec := decB) (enc := AV.bool) tabOk follows Tryz.func106 [.t 2] hdeB (.s .z (.s (.r [(1, .c q29.b)] []) .z)) S27_ q1f (fun f v => f (v.i 0 0)) (by kernel_rfl) (by kernel_rfl) (by kernel_rfl) fun _ => (by kernel_rfl)
def S30_ : Shp := ⟨[(1, .one (.l (.i .u64))), (4, .one (.l (.sl 3))), (5, .one (.l (.i .i64))), (6, .one (.l (.i .i64)))], []⟩
def qti  (K : Ex → Env → Mem → Option Int) := (fun z_v1 => K (.exit 0) (qe [(1, (.int .u64 z_v1))]) (qd []))
def qwu  (v1 : Int) (v4 : List AV) (v5 v6 : Int) (next : Int → Int → Option Int) (kx0 : Int → Option Int) : Option Int :=
  (bif (decide (v6 < v5)) then (oB (ixB v4 v6) fun y1 => (bif fitC qgx y1.cells then (bif decide ((gI y1.cells 0) < 0) then none else (next (qdf .or .u64 v1 (IntKind.u64.wrap ((1 : Int) * 2 ^ min (gI y1.cells 0).toNat IntKind.u64.bits))) (IntKind.i64.wrap (v6 + (1 : Int))))) else none)) else (kx0 v1))
def qqe  (v4 : List AV) (v5 : Int) (kx0 : Int → Option Int) : Nat → Int → Int → Option Int
  | 0 => (fun _ _ => none)
  | n + 1 => (fun v1 v6 => qwu v1 v4 v5 v6 (qqe v4 v5 kx0 n) kx0)
def qbeb := hull (qqe)
def qbay : SubB Tryz.prog (TIof Tryz.prog) 17 0 (kret [.t 0] (decI .u64)) := lpB tabOk follows Tryz.f107 75 (.s .z (.s (.s .z (.v [.sel [1] []])) (.s (.b (.s (.r [(0, .p (.etac 8 qgx))] []) .z)) (.v [.sel [1, 4, 5, 6] []])))) S30_ (qqe) (fun f v K n => f (v.l 16 0) (v.i 20 0) (qti K) n) (fun v f K => qwu (v.i 4 0) (v.l 16 0) (v.i 20 0) (v.i 24 0) f (qti K)) (fun f v => f (v.i 4 0) (v.i 24 0)) (fun k v => (fun z0 z1 => k ((v.ui 4 0 z0).ui 24 0 z1))) (by kernel_rfl) (fun _ _ => (by kernel_rfl)) (fun _ _ _ => (by kernel_rfl)) (fun _ _ _ => (by kernel_rfl)) (fun _ _ => (by kernel_rfl)) (fun _ _ _ _ _ => (by kernel_rfl))
def q6s : Option Int :=
  (oB (qv6) fun r1 => (qbeb r1 (r1.length : Int) (fun v1q2 => (some v1q2)) FU (0 : Int) (0 : Int)))
def qbit := hull q6s
def qbgc {R : Type} : EntF Tryz.prog R := entB (nt := 17) (dec := (decI .u64)) (enc := (AV.int .u64)) tabOk follows Tryz.func107 [.t 0] hdeI (.s .z (.s .z (.s (.s (.r [(0, .k q1d.b)] []) (.b (.sub [.sel [1, 4, 5, 6] []] qbay []))) .z))) (⟨[], []⟩ : Shp) q6s (fun f v => f) (by kernel_rfl) (by kernel_rfl) (by kernel_rfl) fun _ => (by kernel_rfl)
def S31_ : Shp := ⟨[(0, .one (.l (.i .i64))), (3, .one (.ptr 0 0)), (5, .one (.l (.i .i64)))], [.box true (lk qb6)]⟩
def S32_ : Shp := ⟨[(3, .one (.ptr 0 0)), (5, .one (.l (.i .i64)))], [.box true (lk qb6)]⟩
def S33_ : Shp := ⟨[(3, .one (.ptr 0 0))], [.box true (lk qb6)]⟩
def S34_ : Shp := ⟨[(0, .one (.l (.i .i64))), (1, .st (lk qb6))], []⟩
def q51  (v0 v5 : Int) (Al : Bool) (Am An : Int) (A1 A2 A3 : List UInt8) (A4 A5 A6 A7 A8 A9 Ba : Int) (K : Ex → Env → Mem → Option Bool) := (fun z_v6 => K .norm (qe [(0, (.int .i64 v0)), (3, (.ptr 0 0)), (5, (.int .i64 v5)), (6, (.bool z_v6))]) (qd [(some (.box true (q8 Al Am An A1 A2 A3 A4 A5 A6 A7 A8 A9 Ba)))]))
def qjb  (v0 v5 : Int) (Al : Bool) (Am An : Int) (A1 A2 A3 : List UInt8) (A4 A5 A6 A7 A8 A9 Ba : Int) (kn : Bool → Option Bool) : Option Bool :=
  (bif (v5 == (1 : Int)) then (kn true) else (kn (v5 == (28 : Int))))
def qwv := hull (qjb)
theorem q52 : qwv = qjb := qa _
def q7k : SubB Tryz.prog (TIof Tryz.prog) 324 0 (kret [.t 4] decB) := jnB tabOk follows Tryz.f74 37 (.s .z (.s (.v [.sel [0, 3, 5, 6] [0]]) (.v [.sel [0, 3, 5, 6] [0]]))) S31_ (qjb) (fun f v K => f (v.i 0 0) (v.i 20 0) (v.b 3 0) (v.i 3 1) (v.i 3 2) (v.s 3 3) (v.s 3 4) (v.s 3 5) (v.i 3 6) (v.i 3 7) (v.i 3 8) (v.i 3 9) (v.i 3 10) (v.i 3 11) (v.i 3 12) (q51 (v.i 0 0) (v.i 20 0) (v.b 3 0) (v.i 3 1) (v.i 3 2) (v.s 3 3) (v.s 3 4) (v.s 3 5) (v.i 3 6) (v.i 3 7) (v.i 3 8) (v.i 3 9) (v.i 3 10) (v.i 3 11) (v.i 3 12) K)) (by kernel_rfl) (fun _ _ => (by kernel_rfl))
def q3d  (v5 : Int) (Al : Bool) (Am An : Int) (A1 A2 A3 : List UInt8) (A4 A5 A6 A7 A8 A9 Ba : Int) (K : Ex → Env → Mem → Option Bool) := (fun z_v27 => K .norm (qe [(3, (.ptr 0 0)), (5, (.int .i64 v5)), (27, (.bool z_v27))]) (qd [(some (.box true (q8 Al Am An A1 A2 A3 A4 A5 A6 A7 A8 A9 Ba)))]))
def qil  (v5 : Int) (Al : Bool) (Am An : Int) (A1 A2 A3 : List UInt8) (A4 A5 A6 A7 A8 A9 Ba : Int) (kn : Bool → Option Bool) : Option Bool :=
  (bif (v5 == (2 : Int)) then (kn true) else (bif (v5 == (5 : Int)) then (kn true) else (bif (v5 == (12 : Int)) then (kn true) else (kn (v5 == (39 : Int))))))
def qu9 := hull (qil)
theorem q3e : qu9 = qil := qa _
def q53 : SubB Tryz.prog (TIof Tryz.prog) 324 0 (kret [.t 4] decB) := jnB tabOk follows Tryz.f74 181 (.s .z (.s (.v [.sel [3, 5, 27] [0]]) (.s .z (.s (.v [.sel [3, 5, 27] [0]]) (.s .z (.s (.v [.sel [3, 5, 27] [0]]) (.v [.sel [3, 5, 27] [0]]))))))) S32_ (qil) (fun f v K => f (v.i 20 0) (v.b 3 0) (v.i 3 1) (v.i 3 2) (v.s 3 3) (v.s 3 4) (v.s 3 5) (v.i 3 6) (v.i 3 7) (v.i 3 8) (v.i 3 9) (v.i 3 10) (v.i 3 11) (v.i 3 12) (q3d (v.i 20 0) (v.b 3 0) (v.i 3 1) (v.i 3 2) (v.s 3 3) (v.s 3 4) (v.s 3 5) (v.i 3 6) (v.i 3 7) (v.i 3 8) (v.i 3 9) (v.i 3 10) (v.i 3 11) (v.i 3 12) K)) (by kernel_rfl) (fun _ _ => (by kernel_rfl))
def q3f  (K : Ex → Env → Mem → Option Bool) := (fun z_v4 => K .norm (qe [(4, (.bool z_v4))]) (qd []))
def qr5  (Al : Bool) (Am An : Int) (A1 A2 A3 : List UInt8) (A4 A5 A6 A7 A8 A9 Ba : Int) (kn : Bool → Option Bool) : Option Bool :=
  (bif ((Al == false) && ((Am == (0 : Int)) && ((An == (0 : Int)) && ((A1 == A1) && ((A2 == A2) && ((A3 == ([] : List UInt8)) && ((A4 == A4) && ((A5 == A5) && ((A6 == A6) && ((A7 == A7) && ((A8 == A8) && ((A9 == (0 : Int)) && ((Ba == (0 : Int)) && true))))))))))))) then (oB (qlo A1) fun r1 => (bif r1 then (oB (qlo A2) fun r2 => (bif r2 then (oB (qbea A4) fun r3 => (bif r3 then (oB (q9 A5 (2147483647 : Int)) fun r4 => (bif r4 then (oB (q9 A6 (2147483647 : Int)) fun r5 => (bif r5 then (oB (q9 A7 (2147483647 : Int)) fun r6 => (bif r6 then (oB (q9 A8 (2147483647 : Int)) fun r7 => (kn r7)) else (kn false))) else (kn false))) else (kn false))) else (kn false))) else (kn false))) else (kn false))) else (kn false))
def q8q := hull (qr5)
def q54 : SubB Tryz.prog (TIof Tryz.prog) 324 0 (kret [.t 4] decB) := jnB tabOk follows Tryz.f74 2549 (.r [(20, .c qiw.b), (25, .c qiw.b), (30, .c qbax.b), (35, .c qba.b), (40, .c qba.b), (45, .c qba.b), (50, .c qba.b)] [.sel [4] []]) S33_ (qr5) (fun f v K => f (v.b 3 0) (v.i 3 1) (v.i 3 2) (v.s 3 3) (v.s 3 4) (v.s 3 5) (v.i 3 6) (v.i 3 7) (v.i 3 8) (v.i 3 9) (v.i 3 10) (v.i 3 11) (v.i 3 12) (q3f K)) (by kernel_rfl) (fun _ _ => (by kernel_rfl))
def q3g  (K : Ex → Env → Mem → Option Bool) := (fun z_v4 => K .norm (qe [(4, (.bool z_v4))]) (qd []))
def qr6  (Al : Bool) (Am An : Int) (A1 A2 A3 : List UInt8) (A4 A5 A6 A7 A8 A9 Ba : Int) (kn : Bool → Option Bool) : Option Bool :=
  (bif ((Al == false) && ((Am == (0 : Int)) && ((An == (0 : Int)) && ((A1 == A1) && ((A2 == ([] : List UInt8)) && ((A3 == A3) && ((A4 == A4) && ((A5 == A5) && ((A6 == A6) && ((A7 == A7) && ((A8 == A8) && ((A9 == A9) && ((Ba == (0 : Int)) && true))))))))))))) then (oB (qox A3) fun r1 => (bif r1 then (oB (qlo A1) fun r2 => (bif r2 then (oB (qbgb A4) fun r3 => (bif (r3 && (A4 != (46 : Int))) then (oB (q9 A5 (127 : Int)) fun r4 => (bif r4 then (oB (q9 A6 (2147483647 : Int)) fun r5 => (bif r5 then (oB (q9 A7 (4294967295 : Int)) fun r6 => (bif r6 then (oB (q9 A8 (4294967295 : Int)) fun r7 => (bif r7 then (oB (q9 A9 (65535 : Int)) fun r8 => (kn r8)) else (kn false))) else (kn false))) else (kn false))) else (kn false))) else (kn false))) else (kn false))) else (kn false))) else (kn false))
def q8r := hull (qr6)
def q55 : SubB Tryz.prog (TIof Tryz.prog) 324 0 (kret [.t 4] decB) := jnB tabOk follows Tryz.f74 2621429 (.r [(22, .c qth.b), (27, .c qiw.b), (32, .c qbdb.b), (35, .g 3), (42, .c qba.b), (47, .c qba.b), (52, .c qba.b), (57, .c qba.b), (62, .c qba.b)] [.sel [4] []]) S33_ (qr6) (fun f v K => f (v.b 3 0) (v.i 3 1) (v.i 3 2) (v.s 3 3) (v.s 3 4) (v.s 3 5) (v.i 3 6) (v.i 3 7) (v.i 3 8) (v.i 3 9) (v.i 3 10) (v.i 3 11) (v.i 3 12) (q3g K)) (by kernel_rfl) (fun _ _ => (by kernel_rfl))
def q3h  (K : Ex → Env → Mem → Option Bool) := (fun z_v4 => K .norm (qe [(4, (.bool z_v4))]) (qd []))
def qim  (Al : Bool) (Am An : Int) (A1 A2 A3 : List UInt8) (A4 A5 A6 A7 A8 A9 Ba : Int) (kn : Bool → Option Bool) : Option Bool :=
  (bif ((Al == false) && ((Am == (0 : Int)) && ((An == (0 : Int)) && ((A1 == ([] : List UInt8)) && ((A2 == ([] : List UInt8)) && ((A3 == A3) && ((A4 == A4) && ((A5 == A5) && ((A6 == A6) && ((A7 == (0 : Int)) && ((A8 == (0 : Int)) && ((A9 == (0 : Int)) && ((Ba == (0 : Int)) && true))))))))))))) then (oB (qox A3) fun r1 => (bif r1 then (bif (A4 == (256 : Int)) then (bif (A5 == (3 : Int)) then (oB (q9 A6 (255 : Int)) fun r2 => (kn r2)) else (kn false)) else (bif ((A4 == (257 : Int)) && (A5 == (3 : Int))) then (oB (q9 A6 (255 : Int)) fun r3 => (kn r3)) else (kn false))) else (kn false))) else (kn false))
def qva := hull (qim)
theorem q3i : qva = qim := qa _
def q56 : SubB Tryz.prog (TIof Tryz.prog) 324 0 (kret [.t 4] decB) := jnB tabOk follows Tryz.f74 41943029 (.r [(14, .c qth.b), (27, .g 3), (34, .c qba.b)] [.sel [4] []]) S33_ (qim) (fun f v K => f (v.b 3 0) (v.i 3 1) (v.i 3 2) (v.s 3 3) (v.s 3 4) (v.s 3 5) (v.i 3 6) (v.i 3 7) (v.i 3 8) (v.i 3 9) (v.i 3 10) (v.i 3 11) (v.i 3 12) (q3h K)) (by kernel_rfl) (fun _ _ => (by kernel_rfl))
def qnd (v0 : Int) (Bb : Bool) (Bc Bd : Int) (Be Bf Bg : List UInt8) (Bh Bi Bj Bl Bm Bn Bo : Int) : Option Bool :=
  (qwv v0 v0 Bb Bc Bd Be Bf Bg Bh Bi Bj Bl Bm Bn Bo (fun v6q1 => (bif v6q1 then (bif ((Bb == Bb) && ((Bc == Bc) && ((Bd == Bd) && ((Be == ([] : List UInt8)) && ((Bf == ([] : List UInt8)) && ((Bg == ([] : List UInt8)) && ((Bh == (0 : Int)) && ((Bi == (0 : Int)) && ((Bj == (0 : Int)) && ((Bl == (0 : Int)) && ((Bm == (0 : Int)) && ((Bn == (0 : Int)) && ((Bo == (0 : Int)) && true))))))))))))) then (oB (q8o Bb Bc Bd) fun r2 => (some (r2 && ((Bb == (v0 == (28 : Int))) && true)))) else (some false)) else (qu9 v0 Bb Bc Bd Be Bf Bg Bh Bi Bj Bl Bm Bn Bo (fun v27q3 => (bif v27q3 then (bif ((Bb == false) && ((Bc == (0 : Int)) && ((Bd == (0 : Int)) && ((Be == Be) && ((Bf == ([] : List UInt8)) && ((Bg == ([] : List UInt8)) && ((Bh == (0 : Int)) && ((Bi == (0 : Int)) && ((Bj == (0 : Int)) && ((Bl == (0 : Int)) && ((Bm == (0 : Int)) && ((Bn == (0 : Int)) && ((Bo == (0 : Int)) && true))))))))))))) then (oB (qlo Be) fun r4 => (some r4)) else (some false)) else (bif (v0 == (6 : Int)) then (q8q Bb Bc Bd Be Bf Bg Bh Bi Bj Bl Bm Bn Bo (fun v4q5 => (some v4q5))) else (bif (v0 == (15 : Int)) then (bif ((Bb == false) && ((Bc == (0 : Int)) && ((Bd == (0 : Int)) && ((Be == Be) && ((Bf == ([] : List UInt8)) && ((Bg == ([] : List UInt8)) && ((Bh == Bh) && ((Bi == (0 : Int)) && ((Bj == (0 : Int)) && ((Bl == (0 : Int)) && ((Bm == (0 : Int)) && ((Bn == (0 : Int)) && ((Bo == (0 : Int)) && true))))))))))))) then (oB (qlo Be) fun r6 => (bif r6 then (oB (q9 Bh (65535 : Int)) fun r7 => (some r7)) else (some false))) else (some false)) else (bif (v0 == (16 : Int)) then (some (((Bb == false) && ((Bc == (0 : Int)) && ((Bd == (0 : Int)) && ((Be == ([] : List UInt8)) && ((Bf == ([] : List UInt8)) && ((Bg == Bg) && ((Bh == (0 : Int)) && ((Bi == (0 : Int)) && ((Bj == (0 : Int)) && ((Bl == (0 : Int)) && ((Bm == (0 : Int)) && ((Bn == (0 : Int)) && ((Bo == (0 : Int)) && true))))))))))))) && (decide ((Bg.length : Int) ≤ (255 : Int))))) else (bif (v0 == (33 : Int)) then (bif ((Bb == false) && ((Bc == (0 : Int)) && ((Bd == (0 : Int)) && ((Be == Be) && ((Bf == ([] : List UInt8)) && ((Bg == ([] : List UInt8)) && ((Bh == Bh) && ((Bi == Bi) && ((Bj == Bj) && ((Bl == (0 : Int)) && ((Bm == (0 : Int)) && ((Bn == (0 : Int)) && ((Bo == (0 : Int)) && true))))))))))))) then (oB (qlo Be) fun r8 => (bif r8 then (oB (q9 Bh (65535 : Int)) fun r9 => (bif r9 then (oB (q9 Bi (65535 : Int)) fun r10 => (bif r10 then (oB (q9 Bj (65535 : Int)) fun r11 => (some r11)) else (some false))) else (some false))) else (some false))) else (some false)) else (bif (v0 == (43 : Int)) then (bif ((Bb == false) && ((Bc == (0 : Int)) && ((Bd == (0 : Int)) && ((Be == ([] : List UInt8)) && ((Bf == ([] : List UInt8)) && ((Bg == Bg) && ((Bh == Bh) && ((Bi == Bi) && ((Bj == Bj) && ((Bl == (0 : Int)) && ((Bm == (0 : Int)) && ((Bn == (0 : Int)) && ((Bo == (0 : Int)) && true))))))))))))) then (oB (qox Bg) fun r12 => (bif r12 then (oB (q9 Bh (65535 : Int)) fun r13 => (bif r13 then (oB (q9 Bi (255 : Int)) fun r14 => (bif r14 then (oB (q9 Bj (255 : Int)) fun r15 => (some r15)) else (some false))) else (some false))) else (some false))) else (some false)) else (bif (v0 == (46 : Int)) then (q8r Bb Bc Bd Be Bf Bg Bh Bi Bj Bl Bm Bn Bo (fun v4q16 => (some v4q16))) else (bif (v0 == (47 : Int)) then (bif ((Bb == false) && ((Bc == (0 : Int)) && ((Bd == (0 : Int)) && ((Be == Be) && ((Bf == ([] : List UInt8)) && ((Bg == ([] : List UInt8)) && ((Bh == (0 : Int)) && ((Bi == (0 : Int)) && ((Bj == (0 : Int)) && ((Bl == (0 : Int)) && ((Bm == (0 : Int)) && ((Bn == (0 : Int)) && ((Bo == Bo) && true))))))))))))) then (oB (qid Be) fun r17 => (bif r17 then (bif (Bo != (0 : Int)) then (oB (qbit) fun r18 => (some ((qdf .andNot .u64 Bo r18) == (0 : Int)))) else (some false)) else (some false))) else (some false)) else (bif (v0 == (48 : Int)) then (qva Bb Bc Bd Be Bf Bg Bh Bi Bj Bl Bm Bn Bo (fun v4q19 => (some v4q19))) else (some false)))))))))))))))
def qv7 := hull qnd
theorem qbaz : qv7 = qnd := qa _
def qbdc {R : Type} : EntF Tryz.prog R := entB (nt := 324) (dec := decB) (enc := AV.bool) tabOk follows Tryz.func74 [.t 4] hdeB (.s .z (.s (.s .z (.b (.s (.sub [.sel [0, 3, 5] [0]] q7k []) (.s (.s (.r [(8, .c q3b.b), (11, .g 6)] []) .z) (.s (.sub [.sel [3, 5] [0]] q53 []) (.s (.s (.r [(8, .c qiw.b)] []) .z) (.s .z (.s (.s (.sub [.sel [3] [0]] q54 []) .z) (.s .z (.s (.s (.r [(10, .c qiw.b), (15, .c qba.b)] []) .z) (.s .z (.s (.s (.r [(6, .g 4)] []) .z) (.s .z (.s (.s (.r [(14, .c qiw.b), (19, .c qba.b), (24, .c qba.b), (29, .c qba.b)] []) .z) (.s .z (.s (.s (.r [(14, .c qth.b), (19, .c qba.b), (24, .c qba.b), (29, .c qba.b)] []) .z) (.s .z (.s (.s (.sub [.sel [3] [0]] q55 []) .z) (.s .z (.s (.s (.d [] [(10, .c qna.b), (20, .c qbgc.b)] [] []) .z) (.s .z (.s (.s (.sub [.sel [3] [0]] q56 []) .z) .z)))))))))))))))))))))) .z)) S34_ qnd (fun f v => f (v.i 0 0) (v.b 5 0) (v.i 5 1) (v.i 5 2) (v.s 5 3) (v.s 5 4) (v.s 5 5) (v.i 5 6) (v.i 5 7) (v.i 5 8) (v.i 5 9) (v.i 5 10) (v.i 5 11) (v.i 5 12)) (by kernel_rfl) (by kernel_rfl) (by kernel_rfl) fun _ => (by kernel_rfl)
def q3j  (v0 : List UInt8) (K : Ex → Env → Mem → Option (List AV)) := (fun z_v9 => K .norm (qe [(0, (.str v0)), (9, (.bool z_v9))]) (qd []))
def qr7  (v0 : List UInt8) (kn : Bool → Option (List AV)) : Option (List AV) :=
  (bif (v0 == ([46] : List UInt8)) then (kn true) else (oB (qid v0) fun r1 => (kn (!r1))))
def q8s := hull (qr7)
def q57 : SubB Tryz.prog (TIof Tryz.prog) 16 0 (kret [.t 2] (decX (.one (.sl 1)) fun z => aL z)) := jnB tabOk follows Tryz.f108 9 (.r [(4, .c qna.b)] [.sel [0, 9] []]) S16_ (qr7) (fun f v K => f (v.s 0 0) (q3j (v.s 0 0) K)) (by kernel_rfl) (fun _ _ => (by kernel_rfl))
def qww (v0 : List UInt8) : Option (List AV) :=
  (q8s v0 (fun v9q1 => (bif v9q1 then (some ([] : List AV)) else (oB (cutI v0 none (some (IntKind.i64.wrap ((v0.length : Int) - (1 : Int))))) fun s2 => (oB (qm8 s2 ([46] : List UInt8)) fun r3 => (some r3))))))
def qbec := hull qww
def qba0 {R : Type} : EntF Tryz.prog R := entB (nt := 16) (dec := (decX (.one (.sl 1)) fun z => aL z)) (enc := (fun r => .sl 1 r)) tabOk follows Tryz.func108 [.t 2] (hdeX fun _ => rfl) (.s .z (.s (.s (.sub [.sel [0] []] q57 []) (.s (.s .z (.v [.eta 2 (.one (.sl 1))])) .z)) (.s (.r [(5, .k qu4.b)] []) .z))) S16_ qww (fun f v => f (v.s 0 0)) (by kernel_rfl) (by kernel_rfl) (by kernel_rfl) fun _ => (by kernel_rfl)
def S35_ : Shp := ⟨[(3, .one (.l .s)), (7, .one (.l (.sl 1))), (8, .one (.l (.i .i64))), (9, .one (.l (.i .i64)))], []⟩
def qr8  (K : Ex → Env → Mem → Option (List UInt8)) := (fun z_v3 => K (.exit 0) (qe [(3, (.str z_v3))]) (qd []))
def qvb  (v3 : List UInt8) (v7 : List AV) (v8 v9 : Int) (next : (List UInt8) → Int → Option (List UInt8)) (kx0 : (List UInt8) → Option (List UInt8)) : Option (List UInt8) :=
  (bif (decide (v9 < v8)) then (oB (ixB v7 v9) fun y1 => (bif fitC [.s] y1.cells then (bif hd ([(.int .u8 (IntKind.u8.wrap ((gS y1.cells 0).length : Int)))] : List AV) (([(.int .u8 (IntKind.u8.wrap ((gS y1.cells 0).length : Int)))] : List AV).length) then (oB (qy ([(.int .u8 (IntKind.u8.wrap ((gS y1.cells 0).length : Int)))] : List AV)) fun s2 => (bif decide (s2.length + (gS y1.cells 0).length ≤ 9223372036854775807) then (bif decide (v3.length + (s2 ++ (gS y1.cells 0)).length ≤ 9223372036854775807) then (next (v3 ++ (s2 ++ (gS y1.cells 0))) (IntKind.i64.wrap (v9 + (1 : Int)))) else none) else none)) else none) else none)) else (kx0 v3))
def qoy  (v7 : List AV) (v8 : Int) (kx0 : (List UInt8) → Option (List UInt8)) : Nat → (List UInt8) → Int → Option (List UInt8)
  | 0 => (fun _ _ => none)
  | n + 1 => (fun v3 v9 => qvb v3 v7 v8 v9 (qoy v7 v8 kx0 n) kx0)
def qbdd := hull (qoy)
def q8t : SubB Tryz.prog (TIof Tryz.prog) 25 0 (kret [.t 2] decS) := lpB tabOk follows Tryz.f75 75 (.s .z (.s (.s .z (.v [.sel [3] []])) (.s (.b (.s (.r [(0, .p (.etac 11 [.s]))] []) .z)) (.v [.sel [3, 7, 8, 9] []])))) S35_ (qoy) (fun f v K n => f (v.l 28 0) (v.i 32 0) (qr8 K) n) (fun v f K => qvb (v.s 12 0) (v.l 28 0) (v.i 32 0) (v.i 36 0) f (qr8 K)) (fun f v => f (v.s 12 0) (v.i 36 0)) (fun k v => (fun z0 z1 => k ((v.us 12 0 z0).ui 36 0 z1))) (by kernel_rfl) (fun _ _ => (by kernel_rfl)) (fun _ _ _ => (by kernel_rfl)) (fun _ _ _ => (by kernel_rfl)) (fun _ _ => (by kernel_rfl)) (fun _ _ _ _ _ => (by kernel_rfl))
def q3k (v0 : List UInt8) : Option (List UInt8) :=
  (oB (qbec v0) fun r1 => (qbdd r1 (r1.length : Int) (fun v3q2 => (bif decide (v3q2.length + ([0] : List UInt8).length ≤ 9223372036854775807) then (some (v3q2 ++ ([0] : List UInt8))) else none)) FU ([] : List UInt8) (0 : Int)))
def q8u := hull q3k
def q3l {R : Type} : EntF Tryz.prog R := entB (nt := 25) (dec := decS) (enc := AV.str) tabOk follows Tryz.func75 [.t 2] hdeS (.s .z (.s .z (.s (.s (.r [(1, .k qba0.b)] []) (.b (.sub [.sel [3, 7, 8, 9] []] q8t []))) .z))) S16_ q3k (fun f v => f (v.s 0 0)) (by kernel_rfl) (by kernel_rfl) (by kernel_rfl) fun _ => (by kernel_rfl)
def qr9  (K : Ex → Env → Mem → Option (List AV)) := (fun z_a0 => K (.exit 0) (qe [(3, (.own 0 z_a0.length))]) (qd [(some (.arr true 1 z_a0))]))
def qvc  (v0 v7 v8 : Int) (a0 : List AV) (next : Int → (List AV) → Option (List AV)) (kx0 : (List AV) → Option (List AV)) : Option (List AV) :=
  (bif (decide (v8 < v7)) then (bif decide ((IntKind.i64.wrap ((56 : Int) - (IntKind.i64.wrap ((8 : Int) * v8)))) < 0) then none else (bif hd a0 a0.length then (bif decide (0 ≤ v8 ∧ v8 < a0.length) then (bif hd a0 a0.length then (oB (a0[v8.toNat]?) fun y1 => (oB (putE y1 0 1 [(.int .u8 (IntKind.u8.wrap (v0.fdiv (2 ^ min (IntKind.i64.wrap ((56 : Int) - (IntKind.i64.wrap ((8 : Int) * v8)))).toNat IntKind.u64.bits))))]) fun z2 => (bif hd (a0.set v8.toNat z2) a0.length then (next (IntKind.i64.wrap (v8 + (1 : Int))) (a0.set v8.toNat z2)) else none))) else none) else none) else none)) else (kx0 a0))
def qoz  (v0 v7 : Int) (kx0 : (List AV) → Option (List AV)) : Nat → Int → (List AV) → Option (List AV)
  | 0 => (fun _ _ => none)
  | n + 1 => (fun v8 a0 => qvc v0 v7 v8 a0 (qoz v0 v7 kx0 n) kx0)
def qbde := hull (qoz)
def q8v : SubB Tryz.prog (TIof Tryz.prog) 22 0 (kret [.t 2] (decF true 1)) := lpB tabOk follows Tryz.f109 75 (.s .z (.s (.s .z (.v [.sel [3] [0]])) (.s .z (.v [.hd 3, .sel [0, 3, 7, 8] [0]])))) S19_ (qoz) (fun f v K n => f (v.i 0 0) (v.i 28 0) (qr9 K) n) (fun v f K => qvc (v.i 0 0) (v.i 28 0) (v.i 32 0) (v.r 0) f (qr9 K)) (fun f v => f (v.i 32 0) (v.r 0)) (fun k v => (fun z0 z1 => k ((v.ui 32 0 z0).ur 0 z1))) (by kernel_rfl) (fun _ _ => (by kernel_rfl)) (fun _ _ _ => (by kernel_rfl)) (fun _ _ _ => (by kernel_rfl)) (fun _ _ => (by kernel_rfl)) (fun _ _ _ _ _ => (by kernel_rfl))
def q3m (v0 : Int) : Option (List AV) :=
  (bif decide (0 ≤ (8 : Int) ∧ (8 : Int) ≤ (8 : Int) ∧ (8 : Int) * 1 ≤ 281474976710656) then (bif (hd (List.replicate (8 : Int).toNat ((.int .u8 (0 : Int)) : AV)) ((List.replicate (8 : Int).toNat ((.int .u8 (0 : Int)) : AV)).length) && true) then (qbde v0 (((List.replicate (8 : Int).toNat ((.int .u8 (0 : Int)) : AV)).length) : Int) (fun a0q1 => (bif hd a0q1 a0q1.length then (some a0q1) else none)) FU (0 : Int) (List.replicate (8 : Int).toNat ((.int .u8 (0 : Int)) : AV))) else none) else none)
def qyn := hull q3m
def qtj {R : Type} : EntF Tryz.prog R := entB (nt := 22) (dec := (decF true 1)) (enc := (AV.fr true 1)) tabOk follows Tryz.func109 [.t 2] hdeF (.s .z (.s .z (.s (.s .z (.b (.sub [.sel [0, 3, 7, 8] [0]] q8v []))) .z))) S20_ q3m (fun f v => f (v.i 0 0)) (by kernel_rfl) (by kernel_rfl) (by kernel_rfl) fun _ => (by kernel_rfl)
def qbdf : AV → Option ((List UInt8) × Int) := decN [(.one .s), (.one (.i .i64))] fun z => (aS (gC (tpL z) 0), aI (gC (tpL z) 1))
def q6t (Aa : Bool) (Ab Ac : Int) : Option ((List UInt8) × Int) :=
  (oB (q8o Aa Ab Ac) fun r1 => (bif (!r1) then (some (([] : List UInt8), (3 : Int))) else (bif (!Aa) then (oB (qyn Ac) fun r2 => (oB (cutI r2 (some (4 : Int)) none) fun s3 => (oB (qy s3) fun s4 => (some (s4, (0 : Int)))))) else (oB (qyn Ab) fun r5 => (oB (qy r5) fun s6 => (oB (qyn Ac) fun r7 => (oB (qy r7) fun s8 => (bif decide (s6.length + s8.length ≤ 9223372036854775807) then (some ((s6 ++ s8), (0 : Int))) else none))))))))
def qbiu := hull q6t
def qbgd {R : Type} : EntF Tryz.prog R := entB (nt := 26) (dec := qbdf) (enc := (fun r => .tup [.str r.1, .int .i64 r.2])) tabOk follows Tryz.func76 [.t 2, .t 3] (hdeN fun _ => rfl) (.s .z (.s (.b (.s (.r [(1, .c q3b.b)] []) (.s .z (.s .z (.s (.s (.r [(2, .k qtj.b)] []) .z) .z))))) (.s (.d [] [(2, .c qtj.b), (6, .c qtj.b)] [] []) .z))) S28_ q6t (fun f v => f (v.b 1 0) (v.i 1 1) (v.i 1 2)) (by kernel_rfl) (by kernel_rfl) (by kernel_rfl) fun _ => (by kernel_rfl)
def qbiv {R : Type} (vs : List AV) (m : Mem) (K : AV → Mem → Option R) : Option R := q8c vs m K
theorem qbiw {R : Type} : qni Tryz.prog 78 (qbiv (R := R)) := qbl5
def S36_ : Shp := ⟨[(0, .one (.l (.i .i64))), (5, .one (.own 0)), (6, .one (.l (.i .i64)))], [.arr true 1]⟩
def qp4  (K : Ex → Env → Mem → Option (List UInt8)) := (fun z_a0 => K (.exit 0) (qe [(5, (.own 0 z_a0.length))]) (qd [(some (.arr true 1 z_a0))]))
def qsa  (v0 v6 : Int) (a0 : List AV) (next : Int → Int → (List AV) → Option (List UInt8)) (kx0 : (List AV) → Option (List UInt8)) : Option (List UInt8) :=
  (bif (decide (v6 ≥ (0 : Int))) then (bif hd a0 a0.length then (bif decide (0 ≤ v6 ∧ v6 < a0.length) then (bif hd a0 a0.length then (oB (a0[v6.toNat]?) fun y1 => (oB (putE y1 0 1 [(.int .u8 (IntKind.u8.wrap v0))]) fun z2 => (bif hd (a0.set v6.toNat z2) a0.length then (next (v0.fdiv (2 ^ min (8 : Int).toNat IntKind.i64.bits)) (IntKind.i64.wrap (v6 - (1 : Int))) (a0.set v6.toNat z2)) else none))) else none) else none) else none) else (kx0 a0))
def qin  (kx0 : (List AV) → Option (List UInt8)) : Nat → Int → Int → (List AV) → Option (List UInt8)
  | 0 => (fun _ _ _ => none)
  | n + 1 => (fun v0 v6 a0 => qsa v0 v6 a0 (qin kx0 n) kx0)
def qvd := hull (qin)
theorem qk4 : qvd = qin := qa _
def q58 : SubB Tryz.prog (TIof Tryz.prog) 24 0 (kret [.t 4] decS) := lpB tabOk follows Tryz.f79 75 (.s (.s .z (.s .z (.v [.sel [5] [0]]))) (.s .z (.v [.hd 5, .sel [0, 5, 6] [0]]))) S36_ (qin) (fun f v K n => f (qp4 K) n) (fun v f K => qsa (v.i 0 0) (v.i 24 0) (v.r 0) f (qp4 K)) (fun f v => f (v.i 0 0) (v.i 24 0) (v.r 0)) (fun k v => (fun z0 z1 z2 => k (((v.ui 0 0 z0).ui 24 0 z1).ur 0 z2))) (by kernel_rfl) (fun _ _ => (by kernel_rfl)) (fun _ _ _ => (by kernel_rfl)) (fun _ _ _ => (by kernel_rfl)) (fun _ _ => (by kernel_rfl)) (fun _ _ _ _ _ => (by kernel_rfl))
def qgq (v0 v1 : Int) : Option (List UInt8) :=
  (bif decide (0 ≤ v1 ∧ v1 ≤ v1 ∧ v1 * 1 ≤ 281474976710656) then (bif (hd (List.replicate v1.toNat ((.int .u8 (0 : Int)) : AV)) ((List.replicate v1.toNat ((.int .u8 (0 : Int)) : AV)).length) && true) then (qvd (fun a0q1 => (bif hd a0q1 a0q1.length then (oB (qy a0q1) fun s2 => (some s2)) else none)) FU v0 (IntKind.i64.wrap (v1 - (1 : Int))) (List.replicate v1.toNat ((.int .u8 (0 : Int)) : AV))) else none) else none)
def qz := hull qgq
theorem qo0 : qz = qgq := qa _
def qba1 {R : Type} : EntF Tryz.prog R := entB (nt := 24) (dec := decS) (enc := AV.str) tabOk follows Tryz.func79 [.t 4] hdeS (.s .z (.s .z (.s (.s .z (.b (.sub [.sel [0, 5, 6] [0]] q58 []))) .z))) S29_ qgq (fun f v => f (v.i 0 0) (v.i 4 0)) (by kernel_rfl) (by kernel_rfl) (by kernel_rfl) fun _ => (by kernel_rfl)
def S37_ : Shp := ⟨[(3, .one (.ptr 0 0)), (6, .one (.ptr 1 0)), (8, .one (.l .s)), (10, .one (.l (.i .u8))), (31, .one (.l (.i .i64))), (32, .one (.l (.i .i64))), (39, .one (.l (.i .u8)))], [.box true (lk qb6), .box true (lk qgx)]⟩
def S38_ : Shp := ⟨[(3, .one (.ptr 0 0)), (6, .one (.ptr 1 0)), (8, .one (.l .s)), (31, .one (.l (.i .i64))), (32, .one (.l (.i .i64)))], [.box true (lk qb6), .box true (lk qgx)]⟩
def qlp : AV → Option ((List UInt8) × Int) := decN [(.one .s), (.one (.i .i64))] fun z => (aS (gC (tpL z) 0), aI (gC (tpL z) 1))
def q59  (v8 : List UInt8) (v10 v31 v32 v39 : Int) (Al : Bool) (Am An : Int) (A1 A2 A3 : List UInt8) (A4 A5 A6 A7 A8 A9 Ba Ao : Int) (Ap Aq : List UInt8) (K : Ex → Env → Mem → Option ((List UInt8) × Int)) := (fun z_v66 => K .norm (qe [(3, (.ptr 0 0)), (6, (.ptr 1 0)), (8, (.str v8)), (10, (.int .u8 v10)), (31, (.int .i64 v31)), (32, (.int .i64 v32)), (39, (.int .u8 v39)), (66, (.bool z_v66))]) (qd [(some (.box true (q8 Al Am An A1 A2 A3 A4 A5 A6 A7 A8 A9 Ba))), (some (.box true (qou Ao Ap Aq)))]))
def qdi  (v8 : List UInt8) (v10 v31 v32 v39 : Int) (Al : Bool) (Am An : Int) (A1 A2 A3 : List UInt8) (A4 A5 A6 A7 A8 A9 Ba Ao : Int) (Ap Aq : List UInt8) (kn : Bool → Option ((List UInt8) × Int)) : Option ((List UInt8) × Int) :=
  (bif (v39 == (52 : Int)) then (kn true) else (kn (v39 == (54 : Int))))
def qwx := hull (qdi)
theorem qio : qwx = qdi := qa _
def q7l : SubB Tryz.prog (TIof Tryz.prog) 118 0 (kret [.t 4, .t 5] qlp) := jnB tabOk follows Tryz.f55 3109679 (.s .z (.s (.v [.sel [3, 6, 8, 10, 31, 32, 39, 66] [0, 1]]) (.v [.sel [3, 6, 8, 10, 31, 32, 39, 66] [0, 1]]))) S37_ (qdi) (fun f v K => f (v.s 32 0) (v.i 40 0) (v.i 124 0) (v.i 128 0) (v.i 156 0) (v.b 3 0) (v.i 3 1) (v.i 3 2) (v.s 3 3) (v.s 3 4) (v.s 3 5) (v.i 3 6) (v.i 3 7) (v.i 3 8) (v.i 3 9) (v.i 3 10) (v.i 3 11) (v.i 3 12) (v.i 7 0) (v.s 7 1) (v.s 7 2) (q59 (v.s 32 0) (v.i 40 0) (v.i 124 0) (v.i 128 0) (v.i 156 0) (v.b 3 0) (v.i 3 1) (v.i 3 2) (v.s 3 3) (v.s 3 4) (v.s 3 5) (v.i 3 6) (v.i 3 7) (v.i 3 8) (v.i 3 9) (v.i 3 10) (v.i 3 11) (v.i 3 12) (v.i 7 0) (v.s 7 1) (v.s 7 2) K)) (by kernel_rfl) (fun _ _ => (by kernel_rfl))
def q6a  (v31 v32 : Int) (Al : Bool) (Am An : Int) (A1 A2 A3 : List UInt8) (A4 A5 A6 A7 A8 A9 Ba Ao : Int) (Ap Aq : List UInt8) (K : Ex → Env → Mem → Option ((List UInt8) × Int)) := (fun z_v8 => K .norm (qe [(3, (.ptr 0 0)), (6, (.ptr 1 0)), (8, (.str z_v8)), (31, (.int .i64 v31)), (32, (.int .i64 v32))]) (qd [(some (.box true (q8 Al Am An A1 A2 A3 A4 A5 A6 A7 A8 A9 Ba))), (some (.box true (qou Ao Ap Aq)))]))
def qjc  (v8 : List UInt8) (v31 v32 : Int) (Al : Bool) (Am An : Int) (A1 A2 A3 : List UInt8) (A4 A5 A6 A7 A8 A9 Ba Ao : Int) (Ap Aq : List UInt8) (kn : (List UInt8) → Option ((List UInt8) × Int)) : Option ((List UInt8) × Int) :=
  (oB (ixB Aq v32) fun c1 => (bif ((c1.toNat : Int) == (104 : Int)) then (oB (q8u A1) fun r2 => (bif decide (v8.length + r2.length ≤ 9223372036854775807) then (kn (v8 ++ r2)) else none)) else (bif ((c1.toNat : Int) == (109 : Int)) then (oB (q8u A2) fun r3 => (bif decide (v8.length + r3.length ≤ 9223372036854775807) then (kn (v8 ++ r3)) else none)) else (qwx v8 (c1.toNat : Int) v31 v32 (c1.toNat : Int) Al Am An A1 A2 A3 A4 A5 A6 A7 A8 A9 Ba Ao Ap Aq (fun v66q4 => (bif v66q4 then (oB (qbiu Al Am An) fun r5 => (bif decide (v8.length + r5.1.length ≤ 9223372036854775807) then (kn (v8 ++ r5.1)) else none)) else (bif ((c1.toNat : Int) == (116 : Int)) then (bif hd ([(.int .u8 (IntKind.u8.wrap (A3.length : Int)))] : List AV) (([(.int .u8 (IntKind.u8.wrap (A3.length : Int)))] : List AV).length) then (oB (qy ([(.int .u8 (IntKind.u8.wrap (A3.length : Int)))] : List AV)) fun s6 => (bif decide (s6.length + A3.length ≤ 9223372036854775807) then (bif decide (v8.length + (s6 ++ A3).length ≤ 9223372036854775807) then (kn (v8 ++ (s6 ++ A3))) else none) else none)) else none) else (bif ((c1.toNat : Int) == (114 : Int)) then (bif decide (v8.length + A3.length ≤ 9223372036854775807) then (kn (v8 ++ A3)) else none) else (bif ((c1.toNat : Int) == (115 : Int)) then (bif decide (v8.length + ([253] : List UInt8).length ≤ 9223372036854775807) then (kn (v8 ++ ([253] : List UInt8))) else none) else (bif ((c1.toNat : Int) == (110 : Int)) then none else (bif ((c1.toNat : Int) == (65 : Int)) then (oB (qz A4 (2 : Int)) fun r23 => (bif decide (v8.length + r23.length ≤ 9223372036854775807) then (kn (v8 ++ r23)) else none)) else (bif ((c1.toNat : Int) == (66 : Int)) then (oB (qz A5 (2 : Int)) fun r22 => (bif decide (v8.length + r22.length ≤ 9223372036854775807) then (kn (v8 ++ r22)) else none)) else (bif ((c1.toNat : Int) == (67 : Int)) then (oB (qz A6 (2 : Int)) fun r21 => (bif decide (v8.length + r21.length ≤ 9223372036854775807) then (kn (v8 ++ r21)) else none)) else (bif ((c1.toNat : Int) == (68 : Int)) then (oB (qz A7 (2 : Int)) fun r20 => (bif decide (v8.length + r20.length ≤ 9223372036854775807) then (kn (v8 ++ r20)) else none)) else (bif ((c1.toNat : Int) == (69 : Int)) then (oB (qz A8 (2 : Int)) fun r19 => (bif decide (v8.length + r19.length ≤ 9223372036854775807) then (kn (v8 ++ r19)) else none)) else (bif ((c1.toNat : Int) == (70 : Int)) then (oB (qz A9 (2 : Int)) fun r18 => (bif decide (v8.length + r18.length ≤ 9223372036854775807) then (kn (v8 ++ r18)) else none)) else (bif ((c1.toNat : Int) == (97 : Int)) then (oB (qz A4 (1 : Int)) fun r17 => (bif decide (v8.length + r17.length ≤ 9223372036854775807) then (kn (v8 ++ r17)) else none)) else (bif ((c1.toNat : Int) == (98 : Int)) then (oB (qz A5 (1 : Int)) fun r16 => (bif decide (v8.length + r16.length ≤ 9223372036854775807) then (kn (v8 ++ r16)) else none)) else (bif ((c1.toNat : Int) == (99 : Int)) then (oB (qz A6 (1 : Int)) fun r15 => (bif decide (v8.length + r15.length ≤ 9223372036854775807) then (kn (v8 ++ r15)) else none)) else (bif ((c1.toNat : Int) == (100 : Int)) then (oB (qz A7 (1 : Int)) fun r14 => (bif decide (v8.length + r14.length ≤ 9223372036854775807) then (kn (v8 ++ r14)) else none)) else (bif ((c1.toNat : Int) == (101 : Int)) then (oB (qz A8 (1 : Int)) fun r13 => (bif decide (v8.length + r13.length ≤ 9223372036854775807) then (kn (v8 ++ r13)) else none)) else (bif ((c1.toNat : Int) == (102 : Int)) then (oB (qz A9 (1 : Int)) fun r12 => (bif decide (v8.length + r12.length ≤ 9223372036854775807) then (kn (v8 ++ r12)) else none)) else (bif ((c1.toNat : Int) == (118 : Int)) then (oB (qz A4 (4 : Int)) fun r11 => (bif decide (v8.length + r11.length ≤ 9223372036854775807) then (kn (v8 ++ r11)) else none)) else (bif ((c1.toNat : Int) == (119 : Int)) then (oB (qz A5 (4 : Int)) fun r10 => (bif decide (v8.length + r10.length ≤ 9223372036854775807) then (kn (v8 ++ r10)) else none)) else (bif ((c1.toNat : Int) == (120 : Int)) then (oB (qz A6 (4 : Int)) fun r9 => (bif decide (v8.length + r9.length ≤ 9223372036854775807) then (kn (v8 ++ r9)) else none)) else (bif ((c1.toNat : Int) == (121 : Int)) then (oB (qz A7 (4 : Int)) fun r8 => (bif decide (v8.length + r8.length ≤ 9223372036854775807) then (kn (v8 ++ r8)) else none)) else (bif ((c1.toNat : Int) == (122 : Int)) then (oB (qz A8 (4 : Int)) fun r7 => (bif decide (v8.length + r7.length ≤ 9223372036854775807) then (kn (v8 ++ r7)) else none)) else none)))))))))))))))))))))))))))
def qqf := hull (qjc)
theorem q6b : qqf = qjc := qa _
def q7m : SubB Tryz.prog (TIof Tryz.prog) 118 0 (kret [.t 4, .t 5] qlp) := jnB tabOk follows Tryz.f55 2863 (.b (.s .z (.s .z (.s .z (.b (.s .z (.s (.r [(3, .c q3l.b)] [.sel [3, 6, 8, 31, 32] [0, 1]]) (.s .z (.s (.r [(3, .c q3l.b)] [.sel [3, 6, 8, 31, 32] [0, 1]]) (.s (.sub [.sel [3, 6, 8, 10, 31, 32, 39] [0, 1]] q7l []) (.s (.s (.r [(2, .c qbgd.b)] []) (.v [.sel [3, 6, 8, 31, 32] [0, 1]])) (.s .z (.s (.v [.sel [3, 6, 8, 31, 32] [0, 1]]) (.s .z (.s (.v [.sel [3, 6, 8, 31, 32] [0, 1]]) (.s .z (.s (.v [.sel [3, 6, 8, 31, 32] [0, 1]]) (.s .z (.s (.s (.r [(2, .c (eK (qbag (f := 77))))] []) .z) (.s (.r [(1, .r (rB qbiw))] []) (.r [(5, .c qba1.b)] [.sel [3, 6, 8, 31, 32] [0, 1]]))))))))))))))))))))) S38_ (qjc) (fun f v K => f (v.s 32 0) (v.i 124 0) (v.i 128 0) (v.b 3 0) (v.i 3 1) (v.i 3 2) (v.s 3 3) (v.s 3 4) (v.s 3 5) (v.i 3 6) (v.i 3 7) (v.i 3 8) (v.i 3 9) (v.i 3 10) (v.i 3 11) (v.i 3 12) (v.i 7 0) (v.s 7 1) (v.s 7 2) (q6a (v.i 124 0) (v.i 128 0) (v.b 3 0) (v.i 3 1) (v.i 3 2) (v.s 3 3) (v.s 3 4) (v.s 3 5) (v.i 3 6) (v.i 3 7) (v.i 3 8) (v.i 3 9) (v.i 3 10) (v.i 3 11) (v.i 3 12) (v.i 7 0) (v.s 7 1) (v.s 7 2) K)) (by kernel_rfl) (fun _ _ => (by kernel_rfl))
def qq8  (K : Ex → Env → Mem → Option ((List UInt8) × Int)) := (fun z_v8 => K (.exit 1) (qe [(8, (.str z_v8))]) (qd []))
def qgy  (v8 : List UInt8) (v31 v32 : Int) (Al : Bool) (Am An : Int) (A1 A2 A3 : List UInt8) (A4 A5 A6 A7 A8 A9 Ba Ao : Int) (Ap Aq : List UInt8) (next : (List UInt8) → Int → Option ((List UInt8) × Int)) (kx1 : (List UInt8) → Option ((List UInt8) × Int)) : Option ((List UInt8) × Int) :=
  (bif (decide (v32 < v31)) then (qqf v8 v31 v32 Al Am An A1 A2 A3 A4 A5 A6 A7 A8 A9 Ba Ao Ap Aq (fun v8q1 => (next v8q1 (IntKind.i64.wrap (v32 + (1 : Int)))))) else (kx1 v8))
def qdj  (v31 : Int) (Al : Bool) (Am An : Int) (A1 A2 A3 : List UInt8) (A4 A5 A6 A7 A8 A9 Ba Ao : Int) (Ap Aq : List UInt8) (kx1 : (List UInt8) → Option ((List UInt8) × Int)) : Nat → (List UInt8) → Int → Option ((List UInt8) × Int)
  | 0 => (fun _ _ => none)
  | n + 1 => (fun v8 v32 => qgy v8 v31 v32 Al Am An A1 A2 A3 A4 A5 A6 A7 A8 A9 Ba Ao Ap Aq (qdj v31 Al Am An A1 A2 A3 A4 A5 A6 A7 A8 A9 Ba Ao Ap Aq kx1 n) kx1)
def qwy := hull (qdj)
theorem q6c : qwy = qdj := qa _
def q7n : SubB Tryz.prog (TIof Tryz.prog) 118 0 (kret [.t 4, .t 5] qlp) := lpB tabOk follows Tryz.f55 303 (.s .z (.s (.s .z (.v [.sel [8] []])) (.s (.sub [.sel [3, 6, 8, 31, 32] [0, 1]] q7m []) (.v [.sel [3, 6, 8, 31, 32] [0, 1]])))) S38_ (qdj) (fun f v K n => f (v.i 124 0) (v.b 3 0) (v.i 3 1) (v.i 3 2) (v.s 3 3) (v.s 3 4) (v.s 3 5) (v.i 3 6) (v.i 3 7) (v.i 3 8) (v.i 3 9) (v.i 3 10) (v.i 3 11) (v.i 3 12) (v.i 7 0) (v.s 7 1) (v.s 7 2) (qq8 K) n) (fun v f K => qgy (v.s 32 0) (v.i 124 0) (v.i 128 0) (v.b 3 0) (v.i 3 1) (v.i 3 2) (v.s 3 3) (v.s 3 4) (v.s 3 5) (v.i 3 6) (v.i 3 7) (v.i 3 8) (v.i 3 9) (v.i 3 10) (v.i 3 11) (v.i 3 12) (v.i 7 0) (v.s 7 1) (v.s 7 2) f (qq8 K)) (fun f v => f (v.s 32 0) (v.i 128 0)) (fun k v => (fun z0 z1 => k ((v.us 32 0 z0).ui 128 0 z1))) (by kernel_rfl) (fun _ _ => (by kernel_rfl)) (fun _ _ _ => (by kernel_rfl)) (fun _ _ _ => (by kernel_rfl)) (fun _ _ => (by kernel_rfl)) (fun _ _ _ _ _ => (by kernel_rfl))
def qo1 (v0 : Int) (Bb : Bool) (Bc Bd : Int) (Be Bf Bg : List UInt8) (Bh Bi Bj Bl Bm Bn Bo : Int) : Option ((List UInt8) × Int) :=
  (oB (qsp v0) fun r1 => (bif (!r1.2) then (some (([] : List UInt8), (4 : Int))) else (oB (qv7 v0 Bb Bc Bd Be Bf Bg Bh Bi Bj Bl Bm Bn Bo) fun r2 => (bif (!r2) then (some (([] : List UInt8), (5 : Int))) else (qwy ((gS r1.1.cells 2).length : Int) Bb Bc Bd Be Bf Bg Bh Bi Bj Bl Bm Bn Bo (gI r1.1.cells 0) (gS r1.1.cells 1) (gS r1.1.cells 2) (fun v8q3 => (some (v8q3, (0 : Int)))) FU ([] : List UInt8) (0 : Int))))))
def qyo := hull qo1
theorem qbdg : qyo = qo1 := qa _
def qbed {R : Type} : EntF Tryz.prog R := entB (nt := 118) (dec := qlp) (enc := (fun r => .tup [.str r.1, .int .i64 r.2])) tabOk follows Tryz.func55 [.t 4, .t 5] (hdeN fun _ => rfl) (.s .z (.s (.r [(1, .c q29.b)] []) (.s (.b (.s .z (.s .z (.s (.r [(2, .c qbdc.b)] []) .z)))) (.s .z (.s (.s .z (.b (.sub [.sel [3, 6, 8, 31, 32] [0, 1]] q7n []))) .z))))) S34_ qo1 (fun f v => f (v.i 0 0) (v.b 5 0) (v.i 5 1) (v.i 5 2) (v.s 5 3) (v.s 5 4) (v.s 5 5) (v.i 5 6) (v.i 5 7) (v.i 5 8) (v.i 5 9) (v.i 5 10) (v.i 5 11) (v.i 5 12)) (by kernel_rfl) (by kernel_rfl) (by kernel_rfl) fun _ => (by kernel_rfl)
def S39_ : Shp := ⟨[(0, .one (.l .s)), (3, .one (.l (.i .i64))), (4, .one (.l (.i .i64)))], []⟩
def qsb  (K : Ex → Env → Mem → Option Int) := (fun z_v3 => K (.exit 0) (qe [(3, (.int .i64 z_v3))]) (qd []))
def qhv  (v0 : List UInt8) (v3 v4 : Int) (next : Int → Int → Option Int) (kx0 : Int → Option Int) : Option Int :=
  (bif (decide (v4 < (v0.length : Int))) then (bif ((v4.tmod (2 : Int)) == (0 : Int)) then (oB (ixB v0 v4) fun c1 => (next (IntKind.i64.wrap (v3 + (IntKind.i64.wrap ((IntKind.i64.wrap (c1.toNat : Int)) * 2 ^ min (8 : Int).toNat IntKind.i64.bits)))) (IntKind.i64.wrap (v4 + (1 : Int))))) else (oB (ixB v0 v4) fun c2 => (next (IntKind.i64.wrap (v3 + (IntKind.i64.wrap (c2.toNat : Int)))) (IntKind.i64.wrap (v4 + (1 : Int)))))) else (kx0 v3))
def qhw  (v0 : List UInt8) (kx0 : Int → Option Int) : Nat → Int → Int → Option Int
  | 0 => (fun _ _ => none)
  | n + 1 => (fun v3 v4 => qhv v0 v3 v4 (qhw v0 kx0 n) kx0)
def q1g := hull (qhw)
theorem q7o : q1g = qhw := qa _
def q8w : SubB Tryz.prog (TIof Tryz.prog) 34 0 (kret [.t 2] (decI .i64)) := lpB tabOk follows Tryz.f56 75 (.s (.s .z (.s .z (.v [.sel [3] []]))) (.s .z (.v [.sel [0, 3, 4] []]))) S39_ (qhw) (fun f v K n => f (v.s 0 0) (qsb K) n) (fun v f K => qhv (v.s 0 0) (v.i 12 0) (v.i 16 0) f (qsb K)) (fun f v => f (v.i 12 0) (v.i 16 0)) (fun k v => (fun z0 z1 => k ((v.ui 12 0 z0).ui 16 0 z1))) (by kernel_rfl) (fun _ _ => (by kernel_rfl)) (fun _ _ _ => (by kernel_rfl)) (fun _ _ _ => (by kernel_rfl)) (fun _ _ => (by kernel_rfl)) (fun _ _ _ _ _ => (by kernel_rfl))
def qo2 (v0 : List UInt8) : Option Int :=
  (q1g v0 (fun v3q1 => (some (qdf .and .i64 (IntKind.i64.wrap (v3q1 + (qdf .and .i64 (v3q1.fdiv (2 ^ min (16 : Int).toNat IntKind.i64.bits)) (65535 : Int)))) (65535 : Int)))) FU (0 : Int) (0 : Int))
def qyp := hull qo2
theorem qbdh : qyp = qo2 := qa _
def qbee {R : Type} : EntF Tryz.prog R := entB (nt := 34) (dec := (decI .i64)) (enc := (AV.int .i64)) tabOk follows Tryz.func56 [.t 2] hdeI (.s .z (.s .z (.s (.s .z (.b (.sub [.sel [0, 3, 4] []] q8w []))) .z))) S16_ qo2 (fun f v => f (v.s 0 0)) (by kernel_rfl) (by kernel_rfl) (by kernel_rfl) fun _ => (by kernel_rfl)
def S40_ : Shp := ⟨[(0, .st (lk qb6))], []⟩
def qo3 (Aa : Bool) (Ab Ac : Int) (Ad Ae Af : List UInt8) (Ag Bp Bq Br Bs Bt Bu : Int) : Option Int :=
  (oB (qyo (48 : Int) Aa Ab Ac Ad Ae Af Ag Bp Bq Br Bs Bt Bu) fun r1 => (bif (r1.2 != (0 : Int)) then (some (0 : Int)) else (oB (qyp r1.1) fun r2 => (some r2))))
def qsq := hull qo3
theorem qbdi : qsq = qo3 := qa _
def qbef {R : Type} : EntF Tryz.prog R := entB (nt := 14) (dec := (decI .i64)) (enc := (AV.int .i64)) tabOk follows Tryz.func33 [.t 2] hdeI (.s .z (.s (.r [(1, .c qbed.b)] []) (.s .z (.s (.r [(1, .c qbee.b)] []) .z)))) S40_ qo3 (fun f v => f (v.b 1 0) (v.i 1 1) (v.i 1 2) (v.s 1 3) (v.s 1 4) (v.s 1 5) (v.i 1 6) (v.i 1 7) (v.i 1 8) (v.i 1 9) (v.i 1 10) (v.i 1 11) (v.i 1 12)) (by kernel_rfl) (by kernel_rfl) (by kernel_rfl) fun _ => (by kernel_rfl)
def S41_ : Shp := ⟨[(0, .one (.l (.sl 1))), (1, .one (.l (.i .i64))), (7, .one (.l (.i .i64))), (8, .one (.l (.i .i64)))], []⟩
def S42_ : Shp := ⟨[(0, .one (.l (.sl 1))), (1, .one (.l (.i .i64)))], []⟩
def qi8  (K : Ex → Env → Mem → Option Int) := (fun (_ : Unit) => K (.exit 0) (qe []) (qd []))
def qdy  (v0 : List AV) (v1 v7 v8 : Int) (next : Int → Option Int) (kx0 : Unit → Option Int) : Option Int :=
  (bif (decide (v8 < v7)) then (oB (ixB v0 v8) fun y1 => (bif fitC [(.i .i64)] y1.cells then (bif (v1 == (gI y1.cells 0)) then (some v8) else (next (IntKind.i64.wrap (v8 + (1 : Int))))) else none)) else (kx0 ()))
def qck  (v0 : List AV) (v1 v7 : Int) (kx0 : Unit → Option Int) : Nat → Int → Option Int
  | 0 => (fun _ => none)
  | n + 1 => (fun v8 => qdy v0 v1 v7 v8 (qck v0 v1 v7 kx0 n) kx0)
def ql8 := hull (qck)
theorem qrr : ql8 = qck := qa _
def qsr : SubB Tryz.prog (TIof Tryz.prog) 19 0 (kret [.t 4] (decI .i64)) := lpB tabOk follows Tryz.f57 37 (.s .z (.s (.s .z (.v [.sel [] []])) (.s (.b (.s .z (.s (.r [(3, .p (.etac 14 [(.i .i64)]))] []) .z))) (.v [.sel [0, 1, 7, 8] []])))) S41_ (qck) (fun f v K n => f (v.l 0 0) (v.i 4 0) (v.i 28 0) (qi8 K) n) (fun v f K => qdy (v.l 0 0) (v.i 4 0) (v.i 28 0) (v.i 32 0) f (qi8 K)) (fun f v => f (v.i 32 0)) (fun k v => (fun z0 => k (v.ui 32 0 z0))) (by kernel_rfl) (fun _ _ => (by kernel_rfl)) (fun _ _ _ => (by kernel_rfl)) (fun _ _ _ => (by kernel_rfl)) (fun _ _ => (by kernel_rfl)) (fun _ _ _ _ _ => (by kernel_rfl))
def qfo (v0 : List AV) (v1 : Int) : Option Int :=
  (ql8 v0 v1 (v0.length : Int) (fun (_ : Unit) => (some (-1 : Int))) FU (0 : Int))
def qjd := hull qfo
theorem qut : qjd = qfo := qa _
def qv8 {R : Type} : EntF Tryz.prog R := entB (nt := 19) (dec := (decI .i64)) (enc := (AV.int .i64)) tabOk follows Tryz.func57 [.t 4] hdeI (.s .z (.s (.s .z (.b (.sub [.sel [0, 1, 7, 8] []] qsr []))) .z)) S42_ qfo (fun f v => f (v.l 0 0) (v.i 4 0)) (by kernel_rfl) (by kernel_rfl) (by kernel_rfl) fun _ => (by kernel_rfl)
def qdz (v0 : List AV) (v1 : Int) : Option Bool :=
  (oB (qjd v0 v1) fun r1 => (some (decide (r1 ≥ (0 : Int)))))
def qhn := hull qdz
theorem qrs : qhn = qdz := qa _
def qss {R : Type} : EntF Tryz.prog R := entB (nt := 9) (dec := decB) (enc := AV.bool) tabOk follows Tryz.func34 [.t 4] hdeB (.s .z (.s (.r [(2, .c qv8.b)] []) .z)) S42_ qdz (fun f v => f (v.l 0 0) (v.i 4 0)) (by kernel_rfl) (by kernel_rfl) (by kernel_rfl) fun _ => (by kernel_rfl)
def qkn (v0 : Int) : Option Bool :=
  (some (v0 != v0))
def qne := hull qkn
theorem q7p : qne = qkn := qa _
def qve {R : Type} : EntF Tryz.prog R := entB (nt := 6) (dec := decB) (enc := AV.bool) tabOk follows Tryz.func80 [.t 2] hdeB (.z) S27_ qkn (fun f v => f (v.i 0 0)) (by kernel_rfl) (by kernel_rfl) (by kernel_rfl) fun _ => (by kernel_rfl)
def qlq (v0 v1 : Int) : Option Bool :=
  (oB (qne v0) fun r1 => (bif r1 then (oB (qne v1) fun r2 => (some ((!r2) || (decide (v0 < v1))))) else (some (decide (v0 < v1)))))
def qtk := hull qlq
theorem q8x : qtk = qlq := qa _
def qba2 {R : Type} : EntF Tryz.prog R := entB (nt := 17) (dec := decB) (enc := AV.bool) tabOk follows Tryz.func58 [.t 4] hdeB (.s .z (.s (.r [(1, .c qve.b), (4, .c qve.b), (8, .g 3)] []) .z)) S29_ qlq (fun f v => f (v.i 0 0) (v.i 4 0)) (by kernel_rfl) (by kernel_rfl) (by kernel_rfl) fun _ => (by kernel_rfl)
def S43_ : Shp := ⟨[(0, .one (.l (.sl 1))), (3, .one (.l (.i .i64)))], []⟩
def S44_ : Shp := ⟨[(0, .one (.l (.sl 1)))], []⟩
def qhx  (K : Ex → Env → Mem → Option Bool) := (fun (_ : Unit) => K (.exit 0) (qe []) (qd []))
def qfj  (v0 : List AV) (v3 : Int) (next : Int → Option Bool) (kx0 : Unit → Option Bool) : Option Bool :=
  (bif (decide (v3 > (0 : Int))) then (oB (ixB v0 v3) fun y1 => (bif fitC [(.i .i64)] y1.cells then (oB (ixB v0 (IntKind.i64.wrap (v3 - (1 : Int)))) fun y2 => (bif fitC [(.i .i64)] y2.cells then (oB (qtk (gI y1.cells 0) (gI y2.cells 0)) fun r3 => (bif r3 then (some false) else (next (IntKind.i64.wrap (v3 - (1 : Int)))))) else none)) else none)) else (kx0 ()))
def qbb  (v0 : List AV) (kx0 : Unit → Option Bool) : Nat → Int → Option Bool
  | 0 => (fun _ => none)
  | n + 1 => (fun v3 => qfj v0 v3 (qbb v0 kx0 n) kx0)
def qj4 := hull (qbb)
theorem qpz : qj4 = qbb := qa _
def qqg : SubB Tryz.prog (TIof Tryz.prog) 21 0 (kret [.t 2] decB) := lpB tabOk follows Tryz.f36 37 (.s (.s .z (.s .z (.v [.sel [] []]))) (.s (.b (.s (.d [] [(2, .e 13 [(.i .i64)]), (7, .e 18 [(.i .i64)])] [(0, .c qba2.b)] []) .z)) (.v [.sel [0, 3] []]))) S43_ (qbb) (fun f v K n => f (v.l 0 0) (qhx K) n) (fun v f K => qfj (v.l 0 0) (v.i 12 0) f (qhx K)) (fun f v => f (v.i 12 0)) (fun k v => (fun z0 => k (v.ui 12 0 z0))) (by kernel_rfl) (fun _ _ => (by kernel_rfl)) (fun _ _ _ => (by kernel_rfl)) (fun _ _ _ => (by kernel_rfl)) (fun _ _ => (by kernel_rfl)) (fun _ _ _ _ _ => (by kernel_rfl))
def qd0 (v0 : List AV) : Option Bool :=
  (qj4 v0 (fun (_ : Unit) => (some true)) FU (IntKind.i64.wrap ((v0.length : Int) - (1 : Int))))
def qew := hull qd0
theorem qrt : qew = qd0 := qa _
def qst {R : Type} : EntF Tryz.prog R := entB (nt := 21) (dec := decB) (enc := AV.bool) tabOk follows Tryz.func36 [.t 2] hdeB (.s .z (.s (.s .z (.b (.sub [.sel [0, 3] []] qqg []))) .z)) S44_ qd0 (fun f v => f (v.l 0 0)) (by kernel_rfl) (by kernel_rfl) (by kernel_rfl) fun _ => (by kernel_rfl)
def qca (x0 : List UInt8) (x1 : Bool) (x2 x3 x4 x5 x6 : Int) : List AV := [.str x0, .bool x1, .int .i64 x2, .int .i64 x3, .int .i64 x4, .int .i64 x5, .int .i64 x6]
def S45_ : Shp := ⟨[(0, .one (.l (.sl 7))), (3, .one (.own 0)), (5, .one (.ptr 1 0)), (6, .one (.ptr 2 0)), (7, .one (.l (.i .i64))), (13, .one (.l (.sl 7))), (14, .one (.l (.i .i64))), (15, .one (.l (.i .i64)))], [.arr true 1, .box true (lk qb), .box true (lk qb6)]⟩
def S46_ : Shp := ⟨[(0, .one (.l (.sl 7))), (3, .one (.own 0)), (13, .one (.l (.sl 7))), (14, .one (.l (.i .i64))), (15, .one (.l (.i .i64)))], [.arr true 1]⟩
def qwz  (v0 v13 : List AV) (v14 v15 : Int) (a0 : List AV) (Ao : List UInt8) (Ap : Bool) (Aq Ar As At Au : Int) (Bv : Bool) (Bw Bx : Int) (By Bz B0 : List UInt8) (B1 B2 B3 B4 B5 B6 B7 : Int) (K : Ex → Env → Mem → Option Int) := (fun z_v37 => K .norm (qe [(0, (.sl 7 v0)), (3, (.own 0 a0.length)), (5, (.ptr 1 0)), (6, (.ptr 2 0)), (13, (.sl 7 v13)), (14, (.int .i64 v14)), (15, (.int .i64 v15)), (37, (.bool z_v37))]) (qd [(some (.arr true 1 a0)), (some (.box true (qca Ao Ap Aq Ar As At Au))), (some (.box true (q8 Bv Bw Bx By Bz B0 B1 B2 B3 B4 B5 B6 B7)))]))
def qgf  (v0 : List AV) (v7 : Int) (v13 : List AV) (v14 v15 : Int) (a0 : List AV) (Ao : List UInt8) (Ap : Bool) (Aq Ar As At Au : Int) (Bv : Bool) (Bw Bx : Int) (By Bz B0 : List UInt8) (B1 B2 B3 B4 B5 B6 B7 : Int) (kn : Bool → Option Int) : Option Int :=
  (bif (v7 != (0 : Int)) then (kn true) else (oB (ixB v0 (0 : Int)) fun y1 => (bif fitC qb y1.cells then (kn (!(Ao == (gS y1.cells 0)))) else none)))
def qq9 := hull (qgf)
theorem qw0 : qq9 = qgf := qa _
def qyq : SubB Tryz.prog (TIof Tryz.prog) 63 0 (kret [.t 2] (decI .i64)) := jnB tabOk follows Tryz.f16 39319 (.d [] [(7, .e 32 qb)] [] [.sel [0, 3, 5, 6, 13, 14, 15, 37] [0, 1, 2]]) S45_ (qgf) (fun f v K => f (v.l 0 0) (v.i 28 0) (v.l 52 0) (v.i 56 0) (v.i 60 0) (v.r 0) (v.s 7 0) (v.b 7 1) (v.i 7 2) (v.i 7 3) (v.i 7 4) (v.i 7 5) (v.i 7 6) (v.b 11 0) (v.i 11 1) (v.i 11 2) (v.s 11 3) (v.s 11 4) (v.s 11 5) (v.i 11 6) (v.i 11 7) (v.i 11 8) (v.i 11 9) (v.i 11 10) (v.i 11 11) (v.i 11 12) (qwz (v.l 0 0) (v.l 52 0) (v.i 56 0) (v.i 60 0) (v.r 0) (v.s 7 0) (v.b 7 1) (v.i 7 2) (v.i 7 3) (v.i 7 4) (v.i 7 5) (v.i 7 6) (v.b 11 0) (v.i 11 1) (v.i 11 2) (v.s 11 3) (v.s 11 4) (v.s 11 5) (v.i 11 6) (v.i 11 7) (v.i 11 8) (v.i 11 9) (v.i 11 10) (v.i 11 11) (v.i 11 12) K)) (by kernel_rfl) (fun _ _ => (by kernel_rfl))
def qmz  (K : Ex → Env → Mem → Option Int) := (fun (_ : Unit) => K (.exit 0) (qe []) (qd []))
def qeb  (v0 v13 : List AV) (v14 v15 : Int) (a0 : List AV) (next : Int → (List AV) → Option Int) (kx0 : Unit → Option Int) : Option Int :=
  (bif (decide (v15 < v14)) then (oB (ixB v13 v15) fun y1 => (bif fitC qb y1.cells then (oB (qv5 (gS y1.cells 0) (gB y1.cells 1) (gI y1.cells 2)) fun r2 => (bif (hd a0 (a0.length) && true) then (qq9 v0 r2.2 v13 v14 v15 a0 (gS y1.cells 0) (gB y1.cells 1) (gI y1.cells 2) (gI y1.cells 3) (gI y1.cells 4) (gI y1.cells 5) (gI y1.cells 6) (gB r2.1.cells 0) (gI r2.1.cells 1) (gI r2.1.cells 2) (gS r2.1.cells 3) (gS r2.1.cells 4) (gS r2.1.cells 5) (gI r2.1.cells 6) (gI r2.1.cells 7) (gI r2.1.cells 8) (gI r2.1.cells 9) (gI r2.1.cells 10) (gI r2.1.cells 11) (gI r2.1.cells 12) (fun v37q3 => (bif v37q3 then (some (18 : Int)) else (oB (qsq (gB r2.1.cells 0) (gI r2.1.cells 1) (gI r2.1.cells 2) (gS r2.1.cells 3) (gS r2.1.cells 4) (gS r2.1.cells 5) (gI r2.1.cells 6) (gI r2.1.cells 7) (gI r2.1.cells 8) (gI r2.1.cells 9) (gI r2.1.cells 10) (gI r2.1.cells 11) (gI r2.1.cells 12)) fun r4 => (bif hd a0 a0.length then (oB (qhn a0 r4) fun r5 => (bif r5 then (some (18 : Int)) else (bif hd a0 a0.length then (bif hd ([(.int .i64 r4)] : List AV) (([(.int .i64 r4)] : List AV).length) then (bif decide ((a0.length + ([(.int .i64 r4)] : List AV).length) * 8 ≤ 140737488355328) then (oB (qfh (gS y1.cells 0) (gB y1.cells 1) (gI y1.cells 2) (gI y1.cells 3) (gI y1.cells 4) (gI y1.cells 5) (gI y1.cells 6)) fun r6 => (bif (decide ((gI r6.cells 0) < (0 : Int))) then (some (20 : Int)) else (oB (qew ([(.int .i64 (gI r6.cells 0)), (.int .i64 (gI r6.cells 1)), (.int .i64 (gI r6.cells 2)), (.int .i64 (gI r6.cells 3))] : List AV)) fun r7 => (bif ((!r7) || (decide ((gI r6.cells 3) > (4294967295 : Int)))) then (some (20 : Int)) else (next (IntKind.i64.wrap (v15 + (1 : Int))) (a0 ++ ([(.int .i64 r4)] : List AV))))))) else none) else none) else none))) else none))))) else none)) else none)) else (kx0 ()))
def qec  (v0 v13 : List AV) (v14 : Int) (kx0 : Unit → Option Int) : Nat → Int → (List AV) → Option Int
  | 0 => (fun _ _ => none)
  | n + 1 => (fun v15 a0 => qeb v0 v13 v14 v15 a0 (qec v0 v13 v14 kx0 n) kx0)
def qra := hull (qec)
theorem qw1 : qra = qec := qa _
def qyr : SubB Tryz.prog (TIof Tryz.prog) 63 0 (kret [.t 2] (decI .i64)) := lpB tabOk follows Tryz.f16 151 (.s .z (.s (.s .z (.v [.sel [] []])) (.s (.b (.s (.r [(0, .p (.etac 17 qb))] []) (.s (.r [(2, .c qbc8.b)] []) (.s (.s (.sub [.sel [0, 3, 5, 6, 7, 13, 14, 15] [0, 1, 2]] qyq []) .z) (.s (.r [(1, .c qbef.b)] []) (.s (.s (.r [(2, .c qss.b)] []) .z) (.s .z (.s (.r [(1, .c qnm.b)] []) (.s (.r [(5, .c qst.b), (9, .g 3)] []) .z))))))))) (.v [.sel [0, 3, 13, 14, 15] [0]])))) S46_ (qec) (fun f v K n => f (v.l 0 0) (v.l 52 0) (v.i 56 0) (qmz K) n) (fun v f K => qeb (v.l 0 0) (v.l 52 0) (v.i 56 0) (v.i 60 0) (v.r 0) f (qmz K)) (fun f v => f (v.i 60 0) (v.r 0)) (fun k v => (fun z0 z1 => k ((v.ui 60 0 z0).ur 0 z1))) (by kernel_rfl) (fun _ _ => (by kernel_rfl)) (fun _ _ _ => (by kernel_rfl)) (fun _ _ _ => (by kernel_rfl)) (fun _ _ => (by kernel_rfl)) (fun _ _ _ _ _ => (by kernel_rfl))
def qje (v0 : List AV) : Option Int :=
  (bif (decide ((v0.length : Int) > (16 : Int))) then (some (9 : Int)) else (bif (hd ([] : List AV) (([] : List AV).length) && true) then (qra v0 v0 (v0.length : Int) (fun (_ : Unit) => (some (0 : Int))) FU (0 : Int) ([] : List AV)) else none))
def qdq := hull qje
theorem q6d : qdq = qje := qa _
def qjf {R : Type} : EntF Tryz.prog R := entB (nt := 63) (dec := (decI .i64)) (enc := (AV.int .i64)) tabOk follows Tryz.func16 [.t 2] hdeI (.s .z (.s .z (.s .z (.s (.s .z (.b (.sub [.own 3 1, .sel [0, 3, 13, 14, 15] [0]] qyr []))) .z)))) S1_ qje (fun f v => f (v.l 0 0)) (by kernel_rfl) (by kernel_rfl) (by kernel_rfl) fun _ => (by kernel_rfl)
def S47_ : Shp := ⟨[(0, .one (.l .s)), (3, .one (.l (.i .i64))), (4, .one (.l (.i .u8)))], []⟩
def S48_ : Shp := ⟨[(0, .one (.l .s)), (3, .one (.l (.i .i64)))], []⟩
def quu  (v0 : List UInt8) (v3 : Int) (K : Ex → Env → Mem → Option Bool) := (fun z_v46 => K .norm (qe [(0, (.str v0)), (3, (.int .i64 v3)), (46, (.bool z_v46))]) (qd []))
def qfp  (v0 : List UInt8) (v3 v4 : Int) (kn : Bool → Option Bool) : Option Bool :=
  (bif ((decide (v4 ≥ (97 : Int))) && (decide (v4 ≤ (122 : Int)))) then (kn false) else (bif (decide (v4 ≥ (48 : Int))) then (kn (!(((decide (v4 ≤ (57 : Int))) || (v4 == (45 : Int))) || (v4 == (95 : Int))))) else (kn (!((v4 == (45 : Int)) || (v4 == (95 : Int)))))))
def qjg := hull (qfp)
theorem quv : qjg = qfp := qa _
def qv9 : SubB Tryz.prog (TIof Tryz.prog) 47 0 (kret [.t 2] decB) := jnB tabOk follows Tryz.f111 5271 (.r [(3, .g 2), (15, .g 2), (19, .g 2)] [.sel [0, 3, 46] []]) S47_ (qfp) (fun f v K => f (v.s 0 0) (v.i 12 0) (v.i 16 0) (quu (v.s 0 0) (v.i 12 0) K)) (by kernel_rfl) (fun _ _ => (by kernel_rfl))
def qk5  (K : Ex → Env → Mem → Option Bool) := (fun (_ : Unit) => K (.exit 0) (qe []) (qd []))
def qc0  (v0 : List UInt8) (v3 : Int) (next : Int → Option Bool) (kx0 : Unit → Option Bool) : Option Bool :=
  (bif (decide (v3 < (v0.length : Int))) then (oB (ixB v0 v3) fun c1 => (qjg v0 v3 (c1.toNat : Int) (fun v46q2 => (bif v46q2 then (some false) else (next (IntKind.i64.wrap (v3 + (1 : Int)))))))) else (kx0 ()))
def qc1  (v0 : List UInt8) (kx0 : Unit → Option Bool) : Nat → Int → Option Bool
  | 0 => (fun _ => none)
  | n + 1 => (fun v3 => qc0 v0 v3 (qc1 v0 kx0 n) kx0)
def qo4 := hull (qc1)
theorem quw : qo4 = qc1 := qa _
def qwa : SubB Tryz.prog (TIof Tryz.prog) 47 0 (kret [.t 2] decB) := lpB tabOk follows Tryz.f111 151 (.s (.s .z (.s .z (.v [.sel [] []]))) (.s (.b (.s .z (.s (.sub [.sel [0, 3, 4] []] qv9 []) .z))) (.v [.sel [0, 3] []]))) S48_ (qc1) (fun f v K n => f (v.s 0 0) (qk5 K) n) (fun v f K => qc0 (v.s 0 0) (v.i 12 0) f (qk5 K)) (fun f v => f (v.i 12 0)) (fun k v => (fun z0 => k (v.ui 12 0 z0))) (by kernel_rfl) (fun _ _ => (by kernel_rfl)) (fun _ _ _ => (by kernel_rfl)) (fun _ _ _ => (by kernel_rfl)) (fun _ _ => (by kernel_rfl)) (fun _ _ _ _ _ => (by kernel_rfl))
def qhy (v0 : List UInt8) : Option Bool :=
  (bif (v0 == ([42] : List UInt8)) then (some true) else (bif ((decide ((v0.length : Int) < (1 : Int))) || (decide ((v0.length : Int) > (63 : Int)))) then (some false) else (qo4 v0 (fun (_ : Unit) => (some true)) FU (0 : Int))))
def qnn := hull qhy
theorem q1v : qnn = qhy := qa _
def q3n {R : Type} : EntF Tryz.prog R := entB (nt := 47) (dec := decB) (enc := AV.bool) tabOk follows Tryz.func111 [.t 2] hdeB (.s .z (.s .z (.s (.s (.r [(4, .g 3)] []) .z) (.s (.s .z (.b (.sub [.sel [0, 3] []] qwa []))) .z)))) S16_ qhy (fun f v => f (v.s 0 0)) (by kernel_rfl) (by kernel_rfl) (by kernel_rfl) fun _ => (by kernel_rfl)
def S49_ : Shp := ⟨[(0, .one (.l .s)), (4, .one (.own 0)), (5, .one (.l (.i .i64))), (6, .one (.l (.i .i64))), (7, .one (.l .s))], [.arr true 1]⟩
def S50_ : Shp := ⟨[(0, .one (.l .s)), (4, .one (.own 0)), (5, .one (.l (.i .i64))), (6, .one (.l (.i .i64)))], [.arr true 1]⟩
def qhz : AV → Option ((List AV) × Bool) := decN [(.one (.fr true 1)), (.one .b)] fun z => (aL (gC (tpL z) 0), aB (gC (tpL z) 1))
def qw2  (v0 : List UInt8) (K : Ex → Env → Mem → Option ((List AV) × Bool)) := (fun z_v25 => K .norm (qe [(0, (.str v0)), (25, (.bool z_v25))]) (qd []))
def qgg  (v0 : List UInt8) (kn : Bool → Option ((List AV) × Bool)) : Option ((List AV) × Bool) :=
  (bif ((decide ((v0.length : Int) < (2 : Int))) || (decide ((v0.length : Int) > (254 : Int)))) then (kn true) else (oB (ixB v0 (IntKind.i64.wrap ((v0.length : Int) - (1 : Int)))) fun c1 => (kn ((c1.toNat : Int) != (46 : Int)))))
def qrb := hull (qgg)
theorem qw3 : qrb = qgg := qa _
def qys : SubB Tryz.prog (TIof Tryz.prog) 58 0 (kret [.t 2, .t 3] qhz) := jnB tabOk follows Tryz.f81 19 (.r [(4, .g 3)] [.sel [0, 25] []]) S16_ (qgg) (fun f v K => f (v.s 0 0) (qw2 (v.s 0 0) K)) (by kernel_rfl) (fun _ _ => (by kernel_rfl))
def qw4  (v0 : List UInt8) (v6 : Int) (v7 : List UInt8) (a0 : List AV) (K : Ex → Env → Mem → Option ((List AV) × Bool)) := (fun z_v50 => K .norm (qe [(0, (.str v0)), (4, (.own 0 a0.length)), (6, (.int .i64 v6)), (7, (.str v7)), (50, (.bool z_v50))]) (qd [(some (.arr true 1 a0))]))
def qgh  (v0 : List UInt8) (v5 v6 : Int) (v7 : List UInt8) (a0 : List AV) (kn : Bool → Option ((List AV) × Bool)) : Option ((List AV) × Bool) :=
  (oB (qnn v7) fun r1 => (bif (!r1) then (kn true) else (bif (v7 == ([42] : List UInt8)) then (kn (decide (v5 > (0 : Int)))) else (kn false))))
def qrc := hull (qgh)
theorem qw5 : qrc = qgh := qa _
def qyt : SubB Tryz.prog (TIof Tryz.prog) 58 0 (kret [.t 2, .t 3] qhz) := jnB tabOk follows Tryz.f81 78431 (.r [(1, .c q3n.b)] [.sel [0, 4, 6, 7, 50] [0]]) S49_ (qgh) (fun f v K => f (v.s 0 0) (v.i 20 0) (v.i 24 0) (v.s 28 0) (v.r 0) (qw4 (v.s 0 0) (v.i 24 0) (v.s 28 0) (v.r 0) K)) (by kernel_rfl) (fun _ _ => (by kernel_rfl))
def qm0  (K : Ex → Env → Mem → Option ((List AV) × Bool)) := (fun z_a0 => K (.exit 0) (qe [(4, (.own 0 z_a0.length))]) (qd [(some (.arr true 1 z_a0))]))
def qed  (v0 : List UInt8) (v5 v6 : Int) (a0 : List AV) (next : Int → Int → (List AV) → Option ((List AV) × Bool)) (kx0 : (List AV) → Option ((List AV) × Bool)) : Option ((List AV) × Bool) :=
  (bif (decide (v6 < (v0.length : Int))) then (oB (ixB v0 v6) fun c1 => (bif ((c1.toNat : Int) != (46 : Int)) then (next v5 (IntKind.i64.wrap (v6 + (1 : Int))) a0) else (oB (cutI v0 (some v5) (some v6)) fun s2 => (bif (hd a0 (a0.length) && true) then (qrc v0 v5 v6 s2 a0 (fun v50q3 => (bif v50q3 then (bif hd ([] : List AV) (([] : List AV).length) then (some (([] : List AV), false)) else none) else (bif hd a0 a0.length then (bif hd ([(.str s2)] : List AV) (([(.str s2)] : List AV).length) then (bif decide ((a0.length + ([(.str s2)] : List AV).length) * 16 ≤ 140737488355328) then (next (IntKind.i64.wrap (v6 + (1 : Int))) (IntKind.i64.wrap (v6 + (1 : Int))) (a0 ++ ([(.str s2)] : List AV))) else none) else none) else none)))) else none)))) else (kx0 a0))
def qee  (v0 : List UInt8) (kx0 : (List AV) → Option ((List AV) × Bool)) : Nat → Int → Int → (List AV) → Option ((List AV) × Bool)
  | 0 => (fun _ _ _ => none)
  | n + 1 => (fun v5 v6 a0 => qed v0 v5 v6 a0 (qee v0 kx0 n) kx0)
def qk6 := hull (qee)
theorem qw6 : qk6 = qee := qa _
def qyu : SubB Tryz.prog (TIof Tryz.prog) 58 0 (kret [.t 2, .t 3] qhz) := lpB tabOk follows Tryz.f81 607 (.s (.s .z (.s .z (.v [.sel [4] [0]]))) (.s (.b (.s .z (.s .z (.s (.s (.sub [.sel [0, 4, 5, 6, 7] [0]] qyt []) (.s (.s .z (.v [.own 2 1])) .z)) .z)))) (.v [.sel [0, 4, 5, 6] [0]]))) S50_ (qee) (fun f v K n => f (v.s 0 0) (qm0 K) n) (fun v f K => qed (v.s 0 0) (v.i 20 0) (v.i 24 0) (v.r 0) f (qm0 K)) (fun f v => f (v.i 20 0) (v.i 24 0) (v.r 0)) (fun k v => (fun z0 z1 z2 => k (((v.ui 20 0 z0).ui 24 0 z1).ur 0 z2))) (by kernel_rfl) (fun _ _ => (by kernel_rfl)) (fun _ _ _ => (by kernel_rfl)) (fun _ _ _ => (by kernel_rfl)) (fun _ _ => (by kernel_rfl)) (fun _ _ _ _ _ => (by kernel_rfl))
def qjh (v0 : List UInt8) : Option ((List AV) × Bool) :=
  (bif (v0 == ([46] : List UInt8)) then (bif hd ([] : List AV) (([] : List AV).length) then (some (([] : List AV), true)) else none) else (qrb v0 (fun v25q1 => (bif v25q1 then (bif hd ([] : List AV) (([] : List AV).length) then (some (([] : List AV), false)) else none) else (bif (hd ([] : List AV) (([] : List AV).length) && true) then (qk6 v0 (fun a0q2 => (bif hd a0q2 a0q2.length then (some (a0q2, true)) else none)) FU (0 : Int) (0 : Int) ([] : List AV)) else none)))))
def qlr := hull qjh
theorem q6e : qlr = qjh := qa _
def qtl {R : Type} : EntF Tryz.prog R := entB (nt := 58) (dec := qhz) (enc := (fun r => .tup [.fr true 1 r.1, .bool r.2])) tabOk follows Tryz.func81 [.t 2, .t 3] (hdeN fun _ => rfl) (.s .z (.s (.s .z (.s (.s .z (.v [.own 2 1])) .z)) (.s (.s (.sub [.sel [0] []] qys []) (.s (.s .z (.v [.own 2 1])) .z)) (.s .z (.s .z (.s (.s .z (.b (.sub [.own 4 1, .sel [0, 4, 5, 6] [0]] qyu []))) .z)))))) S16_ qjh (fun f v => f (v.s 0 0)) (by kernel_rfl) (by kernel_rfl) (by kernel_rfl) fun _ => (by kernel_rfl)
def qip (v0 : List UInt8) : Option (List AV) :=
  (oB (qlr v0) fun r1 => (some r1.1))
def qko := hull qip
theorem q3o : qko = qip := qa _
def qsc {R : Type} : EntF Tryz.prog R := entB (nt := 11) (dec := (decX (.one (.sl 1)) fun z => aL z)) (enc := (fun r => .sl 1 r)) tabOk follows Tryz.func59 [.t 2] (hdeX fun _ => rfl) (.s .z (.s (.r [(1, .k qtl.b)] []) .z)) S16_ qip (fun f v => f (v.s 0 0)) (by kernel_rfl) (by kernel_rfl) (by kernel_rfl) fun _ => (by kernel_rfl)
def qji (v0 : List UInt8) : Option Bool :=
  (oB (qlr v0) fun r1 => (some r1.2))
def qix := hull qji
theorem q6f : qix = qji := qa _
def qno {R : Type} : EntF Tryz.prog R := entB (nt := 11) (dec := decB) (enc := AV.bool) tabOk follows Tryz.func60 [.t 2] hdeB (.s .z (.s (.r [(1, .k qtl.b)] []) .z)) S16_ qji (fun f v => f (v.s 0 0)) (by kernel_rfl) (by kernel_rfl) (by kernel_rfl) fun _ => (by kernel_rfl)
def S51_ : Shp := ⟨[(0, .one (.l (.i .i64))), (3, .one (.l .s))], []⟩
def ql9  (K : Ex → Env → Mem → Option (List UInt8)) := (fun z_v0 z_v3 => K (.exit 0) (qe [(0, (.int .i64 z_v0)), (3, (.str z_v3))]) (qd []))
def qf2  (v0 : Int) (v3 : List UInt8) (next : Int → (List UInt8) → Option (List UInt8)) (kx0 : Int → (List UInt8) → Option (List UInt8)) : Option (List UInt8) :=
  (bif (decide (v0 > (9 : Int))) then (bif hd ([(.int .u8 (IntKind.u8.wrap (IntKind.i64.wrap ((48 : Int) + (v0.tmod (10 : Int))))))] : List AV) (([(.int .u8 (IntKind.u8.wrap (IntKind.i64.wrap ((48 : Int) + (v0.tmod (10 : Int))))))] : List AV).length) then (oB (qy ([(.int .u8 (IntKind.u8.wrap (IntKind.i64.wrap ((48 : Int) + (v0.tmod (10 : Int))))))] : List AV)) fun s1 => (bif decide (s1.length + v3.length ≤ 9223372036854775807) then (next (IntKind.i64.wrap (v0.tdiv (10 : Int))) (s1 ++ v3)) else none)) else none) else (kx0 v0 v3))
def qcn  (kx0 : Int → (List UInt8) → Option (List UInt8)) : Nat → Int → (List UInt8) → Option (List UInt8)
  | 0 => (fun _ _ => none)
  | n + 1 => (fun v0 v3 => qf2 v0 v3 (qcn kx0 n) kx0)
def qp5 := hull (qcn)
theorem qwb : qp5 = qcn := qa _
def qw7 : SubB Tryz.prog (TIof Tryz.prog) 23 0 (kret [.t 2] decS) := lpB tabOk follows Tryz.f62 35 (.s (.s .z (.s .z (.v [.sel [0, 3] []]))) (.b (.s .z (.v [.sel [0, 3] []])))) S51_ (qcn) (fun f v K n => f (ql9 K) n) (fun v f K => qf2 (v.i 0 0) (v.s 12 0) f (ql9 K)) (fun f v => f (v.i 0 0) (v.s 12 0)) (fun k v => (fun z0 z1 => k ((v.ui 0 0 z0).us 12 0 z1))) (by kernel_rfl) (fun _ _ => (by kernel_rfl)) (fun _ _ _ => (by kernel_rfl)) (fun _ _ _ => (by kernel_rfl)) (fun _ _ => (by kernel_rfl)) (fun _ _ _ _ _ => (by kernel_rfl))
def qh0 (v0 : Int) : Option (List UInt8) :=
  (qp5 (fun v0q1 v3q2 => (bif hd ([(.int .u8 (IntKind.u8.wrap (IntKind.i64.wrap ((48 : Int) + v0q1))))] : List AV) (([(.int .u8 (IntKind.u8.wrap (IntKind.i64.wrap ((48 : Int) + v0q1))))] : List AV).length) then (oB (qy ([(.int .u8 (IntKind.u8.wrap (IntKind.i64.wrap ((48 : Int) + v0q1))))] : List AV)) fun s3 => (bif decide (s3.length + v3q2.length ≤ 9223372036854775807) then (some (s3 ++ v3q2)) else none)) else none)) FU v0 ([] : List UInt8))
def qnp := hull qh0
theorem q1w : qnp = qh0 := qa _
def q3p {R : Type} : EntF Tryz.prog R := entB (nt := 23) (dec := decS) (enc := AV.str) tabOk follows Tryz.func62 [.t 2] hdeS (.s .z (.s .z (.s (.b (.sub [.sel [0, 3] []] qw7 [])) .z))) S27_ qh0 (fun f v => f (v.i 0 0)) (by kernel_rfl) (by kernel_rfl) (by kernel_rfl) fun _ => (by kernel_rfl)
def S52_ : Shp := ⟨[(0, .one (.l (.i .u64))), (3, .one (.own 0)), (4, .one (.l (.i .i64)))], [.arr true 1]⟩
def qo5  (K : Ex → Env → Mem → Option (List UInt8)) := (fun z_a0 => K (.exit 0) (qe [(3, (.own 0 z_a0.length))]) (qd [(some (.arr true 1 z_a0))]))
def qh1  (v0 v4 : Int) (a0 : List AV) (next : Int → Int → (List AV) → Option (List UInt8)) (kx0 : (List AV) → Option (List UInt8)) : Option (List UInt8) :=
  (bif (decide (v4 ≥ (0 : Int))) then (bif hd a0 a0.length then (bif decide (0 ≤ v4 ∧ v4 < a0.length) then (bif hd a0 a0.length then (oB (a0[v4.toNat]?) fun y1 => (oB (putE y1 0 1 [(.int .u8 (IntKind.u8.wrap (v0.tmod (256 : Int))))]) fun z2 => (bif hd (a0.set v4.toNat z2) a0.length then (next (IntKind.u64.wrap (v0.tdiv (256 : Int))) (IntKind.i64.wrap (v4 - (1 : Int))) (a0.set v4.toNat z2)) else none))) else none) else none) else none) else (kx0 a0))
def qfw  (kx0 : (List AV) → Option (List UInt8)) : Nat → Int → Int → (List AV) → Option (List UInt8)
  | 0 => (fun _ _ _ => none)
  | n + 1 => (fun v0 v4 a0 => qh1 v0 v4 a0 (qfw kx0 n) kx0)
def qtm := hull (qfw)
theorem q1x : qtm = qfw := qa _
def q3q : SubB Tryz.prog (TIof Tryz.prog) 20 0 (kret [.t 2] decS) := lpB tabOk follows Tryz.f82 75 (.s (.s .z (.s .z (.v [.sel [3] [0]]))) (.s .z (.v [.hd 3, .sel [0, 3, 4] [0]]))) S52_ (qfw) (fun f v K n => f (qo5 K) n) (fun v f K => qh1 (v.i 0 0) (v.i 16 0) (v.r 0) f (qo5 K)) (fun f v => f (v.i 0 0) (v.i 16 0) (v.r 0)) (fun k v => (fun z0 z1 z2 => k (((v.ui 0 0 z0).ui 16 0 z1).ur 0 z2))) (by kernel_rfl) (fun _ _ => (by kernel_rfl)) (fun _ _ _ => (by kernel_rfl)) (fun _ _ _ => (by kernel_rfl)) (fun _ _ => (by kernel_rfl)) (fun _ _ _ _ _ => (by kernel_rfl))
def qkp (v0 : Int) : Option (List UInt8) :=
  (bif decide (0 ≤ (8 : Int) ∧ (8 : Int) ≤ (8 : Int) ∧ (8 : Int) * 1 ≤ 281474976710656) then (bif (hd (List.replicate (8 : Int).toNat ((.int .u8 (0 : Int)) : AV)) ((List.replicate (8 : Int).toNat ((.int .u8 (0 : Int)) : AV)).length) && true) then (qtm (fun a0q1 => (bif hd a0q1 a0q1.length then (oB (qy a0q1) fun s2 => (some s2)) else none)) FU v0 (7 : Int) (List.replicate (8 : Int).toNat ((.int .u8 (0 : Int)) : AV))) else none) else none)
def qnf := hull qkp
theorem q7q : qnf = qkp := qa _
def qvf {R : Type} : EntF Tryz.prog R := entB (nt := 20) (dec := decS) (enc := AV.str) tabOk follows Tryz.func82 [.t 2] hdeS (.s .z (.s .z (.s (.s .z (.b (.sub [.sel [0, 3, 4] [0]] q3q []))) .z))) S20_ qkp (fun f v => f (v.i 0 0)) (by kernel_rfl) (by kernel_rfl) (by kernel_rfl) fun _ => (by kernel_rfl)
def S53_ : Shp := ⟨[(3, .one (.l (.i .u64))), (5, .one (.l (.i .i64)))], []⟩
def qp6  (K : Ex → Env → Mem → Option Int) := (fun z_v3 => K (.exit 0) (qe [(3, (.int .u64 z_v3))]) (qd []))
def qga  (v0 : List UInt8) (v3 v4 : Int) (next : Int → Int → Option Int) (kx0 : Int → Option Int) : Option Int :=
  (bif (decide (v4 < (v0.length : Int))) then (oB (ixB v0 v4) fun c1 => (next (IntKind.u64.wrap ((qdf .xor .u64 v3 (IntKind.u64.wrap (c1.toNat : Int))) * (1099511628211 : Int))) (IntKind.i64.wrap (v4 + (1 : Int))))) else (kx0 v3))
def qgb  (v0 : List UInt8) (kx0 : Int → Option Int) : Nat → Int → Int → Option Int
  | 0 => (fun _ _ => none)
  | n + 1 => (fun v3 v4 => qga v0 v3 v4 (qgb v0 kx0 n) kx0)
def qvg := hull (qgb)
theorem q3r : qvg = qgb := qa _
def q6g : SubB Tryz.prog (TIof Tryz.prog) 29 0 (kret [.t 2] (decI .u64)) := lpB tabOk follows Tryz.f83 75 (.s (.s .z (.s .z (.v [.sel [3] []]))) (.s .z (.v [.sel [0, 3, 4] []]))) S21_ (qgb) (fun f v K n => f (v.s 0 0) (qp6 K) n) (fun v f K => qga (v.s 0 0) (v.i 12 0) (v.i 16 0) f (qp6 K)) (fun f v => f (v.i 12 0) (v.i 16 0)) (fun k v => (fun z0 z1 => k ((v.ui 12 0 z0).ui 16 0 z1))) (by kernel_rfl) (fun _ _ => (by kernel_rfl)) (fun _ _ _ => (by kernel_rfl)) (fun _ _ _ => (by kernel_rfl)) (fun _ _ => (by kernel_rfl)) (fun _ _ _ _ _ => (by kernel_rfl))
def qo6  (K : Ex → Env → Mem → Option Int) := (fun z_v3 => K (.exit 2) (qe [(3, (.int .u64 z_v3))]) (qd []))
def qdr  (v3 v5 : Int) (next : Int → Int → Option Int) (kx2 : Int → Option Int) : Option Int :=
  (bif (decide (v5 < (3 : Int))) then (next (IntKind.u64.wrap ((qdf .xor .u64 v3 (IntKind.u64.wrap (v3.tdiv (4294967296 : Int)))) * (11400714819323198485 : Int))) (IntKind.i64.wrap (v5 + (1 : Int)))) else (kx2 v3))
def qcp  (kx2 : Int → Option Int) : Nat → Int → Int → Option Int
  | 0 => (fun _ _ => none)
  | n + 1 => (fun v3 v5 => qdr v3 v5 (qcp kx2 n) kx2)
def qgz := hull (qcp)
theorem q1y : qgz = qcp := qa _
def q3s : SubB Tryz.prog (TIof Tryz.prog) 29 0 (kret [.t 2] (decI .u64)) := lpB tabOk follows Tryz.f83 151 (.s (.s .z (.s .z (.v [.sel [3] []]))) (.s .z (.v [.sel [3, 5] []]))) S53_ (qcp) (fun f v K n => f (qo6 K) n) (fun v f K => qdr (v.i 12 0) (v.i 20 0) f (qo6 K)) (fun f v => f (v.i 12 0) (v.i 20 0)) (fun k v => (fun z0 z1 => k ((v.ui 12 0 z0).ui 20 0 z1))) (by kernel_rfl) (fun _ _ => (by kernel_rfl)) (fun _ _ _ => (by kernel_rfl)) (fun _ _ _ => (by kernel_rfl)) (fun _ _ => (by kernel_rfl)) (fun _ _ _ _ _ => (by kernel_rfl))
def qls (v0 : List UInt8) : Option Int :=
  (qvg v0 (fun v3q1 => (qgz (fun v3q2 => (some v3q2)) FU v3q1 (0 : Int))) FU (14695981039346656037 : Int) (0 : Int))
def qtn := hull qls
theorem q8y : qtn = qls := qa _
def qba3 {R : Type} : EntF Tryz.prog R := entB (nt := 29) (dec := (decI .u64)) (enc := (AV.int .u64)) tabOk follows Tryz.func83 [.t 2] hdeI (.s .z (.s .z (.s (.s .z (.b (.sub [.sel [0, 3, 4] []] q6g []))) (.s (.s .z (.b (.sub [.sel [3, 5] []] q3s []))) .z)))) S16_ qls (fun f v => f (v.s 0 0)) (by kernel_rfl) (by kernel_rfl) (by kernel_rfl) fun _ => (by kernel_rfl)
def qlt (v0 v1 : List UInt8) : Option (List UInt8) :=
  (oB (qnf (IntKind.u64.wrap (v0.length : Int))) fun r1 => (bif decide (r1.length + v0.length ≤ 9223372036854775807) then (bif decide ((r1 ++ v0).length + v1.length ≤ 9223372036854775807) then (oB (qtn ((r1 ++ v0) ++ v1)) fun r2 => (oB (qnf r2) fun r3 => (some r3))) else none) else none))
def qto := hull qlt
theorem q8z : qto = qlt := qa _
def qba4 {R : Type} : EntF Tryz.prog R := entB (nt := 15) (dec := decS) (enc := AV.str) tabOk follows Tryz.func61 [.t 4] hdeS (.s .z (.s (.r [(3, .c qvf.b), (8, .c qba3.b), (9, .c qvf.b)] []) .z)) S9_ qlt (fun f v => f (v.s 0 0) (v.s 4 0)) (by kernel_rfl) (by kernel_rfl) (by kernel_rfl) fun _ => (by kernel_rfl)
def S54_ : Shp := ⟨[(1, .one (.ptr 0 0)), (2, .one (.ptr 1 0)), (4, .one (.l (.sl 1)))], [.box true (lk qhu), .box true (lk qb6)]⟩
def S55_ : Shp := ⟨[(1, .one (.ptr 0 0)), (2, .one (.ptr 1 0)), (5, .one (.ptr 2 0)), (6, .one (.l .s))], [.box true (lk qhu), .box true (lk qb6), .box true (lk qb6)]⟩
def qmg : AV → Option (AV × Int) := decN [(.st [.b, (.i .u64), (.i .u64), .s, .s, .s, (.i .i64), (.i .i64), (.i .i64), (.i .i64), (.i .i64), (.i .i64), (.i .u64)]), (.one (.i .i64))] fun z => ((gC (tpL z) 0), aI (gC (tpL z) 1))
def q1z  (Al : List UInt8) (Am : Bool) (An : Int) (Ao : Bool) (Ap Aq : Int) (Ar As At : List UInt8) (Au Av Aw Ax Ay Az A0 : Int) (K : Ex → Env → Mem → Option (AV × Int)) := (fun z_v24 => K .norm (qe [(1, (.ptr 0 0)), (2, (.ptr 1 0)), (24, (.bool z_v24))]) (qd [(some (.box true (qgw Al Am An))), (some (.box true (q8 Ao Ap Aq Ar As At Au Av Aw Ax Ay Az A0)))]))
def qh2  (v4 : List AV) (Al : List UInt8) (Am : Bool) (An : Int) (Ao : Bool) (Ap Aq : Int) (Ar As At : List UInt8) (Au Av Aw Ax Ay Az A0 : Int) (kn : Bool → Option (AV × Int)) : Option (AV × Int) :=
  (oB (qix Al) fun r1 => (bif (!r1) then (kn true) else (bif (decide ((v4.length : Int) > (0 : Int))) then (oB (ixB v4 (0 : Int)) fun y2 => (bif fitC [.s] y2.cells then (kn ((gS y2.cells 0) == ([42] : List UInt8))) else none)) else (kn false))))
def qnq := hull (qh2)
theorem q10 : qnq = qh2 := qa _
def q3t : SubB Tryz.prog (TIof Tryz.prog) 49 0 (kret [(.cell 2 true 13), .t 3] qmg) := jnB tabOk follows Tryz.f42 19 (.r [(2, .c qno.b), (10, .p (.etac 20 [.s]))] [.sel [1, 2, 24] [0, 1]]) S54_ (qh2) (fun f v K => f (v.l 16 0) (v.s 3 0) (v.b 3 1) (v.i 3 2) (v.b 7 0) (v.i 7 1) (v.i 7 2) (v.s 7 3) (v.s 7 4) (v.s 7 5) (v.i 7 6) (v.i 7 7) (v.i 7 8) (v.i 7 9) (v.i 7 10) (v.i 7 11) (v.i 7 12) (q1z (v.s 3 0) (v.b 3 1) (v.i 3 2) (v.b 7 0) (v.i 7 1) (v.i 7 2) (v.s 7 3) (v.s 7 4) (v.s 7 5) (v.i 7 6) (v.i 7 7) (v.i 7 8) (v.i 7 9) (v.i 7 10) (v.i 7 11) (v.i 7 12) K)) (by kernel_rfl) (fun _ _ => (by kernel_rfl))
def qyv  (Al : List UInt8) (Am : Bool) (An : Int) (Ao : Bool) (Ap Aq : Int) (Ar As At : List UInt8) (Au Av Aw Ax Ay Az A0 : Int) (Bv : Bool) (Bw Bx : Int) (By Bz B0 : List UInt8) (B2 B3 B4 B5 B6 B7 : Int) (K : Ex → Env → Mem → Option (AV × Int)) := (fun z_v6 z_b2_6 => K .norm (qe [(1, (.ptr 0 0)), (2, (.ptr 1 0)), (5, (.ptr 2 0)), (6, (.str z_v6))]) (qd [(some (.box true (qgw Al Am An))), (some (.box true (q8 Ao Ap Aq Ar As At Au Av Aw Ax Ay Az A0))), (some (.box true (q8 Bv Bw Bx By Bz B0 z_b2_6 B2 B3 B4 B5 B6 B7)))]))
def qg5  (v6 Al : List UInt8) (Am : Bool) (An : Int) (Ao : Bool) (Ap Aq : Int) (Ar As At : List UInt8) (Au Av Aw Ax Ay Az A0 : Int) (Bv : Bool) (Bw Bx : Int) (By Bz B0 : List UInt8) (B1 B2 B3 B4 B5 B6 B7 : Int) (kn : (List UInt8) → Int → Option (AV × Int)) : Option (AV × Int) :=
  (bif Am then (kn ([75] : List UInt8) (257 : Int)) else (kn v6 B1))
def qsd := hull (qg5)
theorem qyw : qsd = qg5 := qa _
def q11 : SubB Tryz.prog (TIof Tryz.prog) 49 0 (kret [(.cell 2 true 13), .t 3] qmg) := jnB tabOk follows Tryz.f42 191 (.s .z (.s (.s .z (.v [.sel [1, 2, 5, 6] [0, 1, 2]])) (.v [.sel [1, 2, 5, 6] [0, 1, 2]]))) S55_ (qg5) (fun f v K => f (v.s 24 0) (v.s 3 0) (v.b 3 1) (v.i 3 2) (v.b 7 0) (v.i 7 1) (v.i 7 2) (v.s 7 3) (v.s 7 4) (v.s 7 5) (v.i 7 6) (v.i 7 7) (v.i 7 8) (v.i 7 9) (v.i 7 10) (v.i 7 11) (v.i 7 12) (v.b 11 0) (v.i 11 1) (v.i 11 2) (v.s 11 3) (v.s 11 4) (v.s 11 5) (v.i 11 6) (v.i 11 7) (v.i 11 8) (v.i 11 9) (v.i 11 10) (v.i 11 11) (v.i 11 12) (qyv (v.s 3 0) (v.b 3 1) (v.i 3 2) (v.b 7 0) (v.i 7 1) (v.i 7 2) (v.s 7 3) (v.s 7 4) (v.s 7 5) (v.i 7 6) (v.i 7 7) (v.i 7 8) (v.i 7 9) (v.i 7 10) (v.i 7 11) (v.i 7 12) (v.b 11 0) (v.i 11 1) (v.i 11 2) (v.s 11 3) (v.s 11 4) (v.s 11 5) (v.i 11 7) (v.i 11 8) (v.i 11 9) (v.i 11 10) (v.i 11 11) (v.i 11 12) K)) (by kernel_rfl) (fun _ _ => (by kernel_rfl))
def qkq (Aa : List UInt8) (Ab : Bool) (Ac : Int) : Option (AV × Int) :=
  (oB (qko Aa) fun r1 => (qnq r1 Aa Ab Ac false (0 : Int) (0 : Int) ([] : List UInt8) ([] : List UInt8) ([] : List UInt8) (0 : Int) (0 : Int) (0 : Int) (0 : Int) (0 : Int) (0 : Int) (0 : Int) (fun v24q2 => (bif v24q2 then (some ((.agg [(.bool false), (.int .u64 (0 : Int)), (.int .u64 (0 : Int)), (.str ([] : List UInt8)), (.str ([] : List UInt8)), (.str ([] : List UInt8)), (.int .i64 (0 : Int)), (.int .i64 (0 : Int)), (.int .i64 (0 : Int)), (.int .i64 (0 : Int)), (.int .i64 (0 : Int)), (.int .i64 (0 : Int)), (.int .u64 (0 : Int))]), (2 : Int))) else (bif ((decide (Ac < (0 : Int))) || (decide (Ac > (2147483647 : Int)))) then (some ((.agg [(.bool false), (.int .u64 (0 : Int)), (.int .u64 (0 : Int)), (.str ([] : List UInt8)), (.str ([] : List UInt8)), (.str ([] : List UInt8)), (.int .i64 (0 : Int)), (.int .i64 (0 : Int)), (.int .i64 (0 : Int)), (.int .i64 (0 : Int)), (.int .i64 (0 : Int)), (.int .i64 (0 : Int)), (.int .u64 (0 : Int))]), (1 : Int))) else (qsd ([90] : List UInt8) Aa Ab Ac false (0 : Int) (0 : Int) ([] : List UInt8) ([] : List UInt8) ([] : List UInt8) (0 : Int) (0 : Int) (0 : Int) (0 : Int) (0 : Int) (0 : Int) (0 : Int) false (0 : Int) (0 : Int) ([] : List UInt8) ([] : List UInt8) ([] : List UInt8) (256 : Int) (3 : Int) (253 : Int) (0 : Int) (0 : Int) (0 : Int) (0 : Int) (fun v6q3 b2_6q4 => (oB (qnp Ac) fun r5 => (bif decide (v6q3.length + r5.length ≤ 9223372036854775807) then (oB (qto Aa (v6q3 ++ r5)) fun r6 => (some ((.agg [(.bool false), (.int .u64 (0 : Int)), (.int .u64 (0 : Int)), (.str ([] : List UInt8)), (.str ([] : List UInt8)), (.str r6), (.int .i64 b2_6q4), (.int .i64 (3 : Int)), (.int .i64 (253 : Int)), (.int .i64 (0 : Int)), (.int .i64 (0 : Int)), (.int .i64 (0 : Int)), (.int .u64 (0 : Int))]), (0 : Int)))) else none)))))))))
def qng := hull qkq
theorem q7r : qng = qkq := qa _
def qvh {R : Type} : EntF Tryz.prog R := entB (nt := 49) (dec := qmg) (enc := (fun r => .tup [qpq (.st [.b, (.i .u64), (.i .u64), .s, .s, .s, (.i .i64), (.i .i64), (.i .i64), (.i .i64), (.i .i64), (.i .i64), (.i .u64)]) r.1, .int .i64 r.2])) tabOk follows Tryz.func42 [(.cell 2 true 13), .t 3] (hdeN fun _ => rfl) (.s .z (.s (.r [(2, .k qsc.b)] []) (.s (.s (.sub [.sel [1, 2, 4] [0, 1]] q3t []) .z) (.s (.s (.r [(4, .g 3)] []) .z) (.s .z (.s .z (.s (.sub [.sel [1, 2, 5, 6] [0, 1, 2]] q11 []) (.s (.d [] [(5, .c q3p.b)] [(0, .c qba4.b)] []) .z)))))))) S25_ qkq (fun f v => f (v.s 1 0) (v.b 1 1) (v.i 1 2)) (by kernel_rfl) (by kernel_rfl) (by kernel_rfl) fun _ => (by kernel_rfl)
def qke (v0 : Int) : Option (List UInt8) :=
  (bif (v0 == (1 : Int)) then (some ([65] : List UInt8)) else (bif (v0 == (2 : Int)) then (some ([78, 83] : List UInt8)) else (bif (v0 == (5 : Int)) then (some ([67, 78, 65, 77, 69] : List UInt8)) else (bif (v0 == (6 : Int)) then (some ([83, 79, 65] : List UInt8)) else (bif (v0 == (12 : Int)) then (some ([80, 84, 82] : List UInt8)) else (bif (v0 == (15 : Int)) then (some ([77, 88] : List UInt8)) else (bif (v0 == (16 : Int)) then (some ([84, 88, 84] : List UInt8)) else (bif (v0 == (28 : Int)) then (some ([65, 65, 65, 65] : List UInt8)) else (bif (v0 == (33 : Int)) then (some ([83, 82, 86] : List UInt8)) else (bif (v0 == (39 : Int)) then (some ([68, 78, 65, 77, 69] : List UInt8)) else (bif (v0 == (43 : Int)) then (some ([68, 83] : List UInt8)) else (bif (v0 == (46 : Int)) then (some ([82, 82, 83, 73, 71] : List UInt8)) else (bif (v0 == (47 : Int)) then (some ([78, 83, 69, 67] : List UInt8)) else (bif (v0 == (48 : Int)) then (some ([68, 78, 83, 75, 69, 89] : List UInt8)) else (some ([] : List UInt8))))))))))))))))
def qse := hull qke
theorem qyx : qse = qke := qa _
def q12 {R : Type} : EntF Tryz.prog R := entB (nt := 32) (dec := decS) (enc := AV.str) tabOk follows Tryz.func141 [.t 2] hdeS (.z) S27_ qke (fun f v => f (v.i 0 0)) (by kernel_rfl) (by kernel_rfl) (by kernel_rfl) fun _ => (by kernel_rfl)
def qjj (v0 : Int) : Option Bool :=
  (oB (qse v0) fun r1 => (some (!(r1 == ([] : List UInt8)))))
def qgr := hull qjj
theorem q6h : qgr = qjj := qa _
def qjk {R : Type} : EntF Tryz.prog R := entB (nt := 6) (dec := decB) (enc := AV.bool) tabOk follows Tryz.func112 [.t 2] hdeB (.s .z (.s (.r [(1, .c q12.b)] []) .z)) S27_ qjj (fun f v => f (v.i 0 0)) (by kernel_rfl) (by kernel_rfl) (by kernel_rfl) fun _ => (by kernel_rfl)
def S56_ : Shp := ⟨[(3, .one (.ptr 0 0)), (4, .one (.ptr 1 0)), (5, .one (.l (.i .i64)))], [.box true (lk qb6), .box true (lk qb6)]⟩
def q13  (v5 : Int) (Al : Bool) (Am An : Int) (A1 A2 A3 : List UInt8) (A4 A5 A6 A7 A8 A9 Ba : Int) (Ao : Bool) (Ap Aq : Int) (Ar As At : List UInt8) (Au Av Aw Ax Ay Az A0 : Int) (K : Ex → Env → Mem → Option AV) := (fun z_v6 => K .norm (qe [(3, (.ptr 0 0)), (4, (.ptr 1 0)), (5, (.int .i64 v5)), (6, (.bool z_v6))]) (qd [(some (.box true (q8 Al Am An A1 A2 A3 A4 A5 A6 A7 A8 A9 Ba))), (some (.box true (q8 Ao Ap Aq Ar As At Au Av Aw Ax Ay Az A0)))]))
def qh3  (v5 : Int) (Al : Bool) (Am An : Int) (A1 A2 A3 : List UInt8) (A4 A5 A6 A7 A8 A9 Ba : Int) (Ao : Bool) (Ap Aq : Int) (Ar As At : List UInt8) (Au Av Aw Ax Ay Az A0 : Int) (kn : Bool → Option AV) : Option AV :=
  (bif (v5 == (1 : Int)) then (kn true) else (kn (v5 == (28 : Int))))
def qtp := hull (qh3)
theorem q14 : qtp = qh3 := qa _
def q3u : SubB Tryz.prog (TIof Tryz.prog) 96 0 (kret [(.cell 4 true 13)] (decT [.b, (.i .u64), (.i .u64), .s, .s, .s, (.i .i64), (.i .i64), (.i .i64), (.i .i64), (.i .i64), (.i .i64), (.i .u64)])) := jnB tabOk follows Tryz.f113 37 (.s .z (.s (.v [.sel [3, 4, 5, 6] [0, 1]]) (.v [.sel [3, 4, 5, 6] [0, 1]]))) S56_ (qh3) (fun f v K => f (v.i 20 0) (v.b 3 0) (v.i 3 1) (v.i 3 2) (v.s 3 3) (v.s 3 4) (v.s 3 5) (v.i 3 6) (v.i 3 7) (v.i 3 8) (v.i 3 9) (v.i 3 10) (v.i 3 11) (v.i 3 12) (v.b 7 0) (v.i 7 1) (v.i 7 2) (v.s 7 3) (v.s 7 4) (v.s 7 5) (v.i 7 6) (v.i 7 7) (v.i 7 8) (v.i 7 9) (v.i 7 10) (v.i 7 11) (v.i 7 12) (q13 (v.i 20 0) (v.b 3 0) (v.i 3 1) (v.i 3 2) (v.s 3 3) (v.s 3 4) (v.s 3 5) (v.i 3 6) (v.i 3 7) (v.i 3 8) (v.i 3 9) (v.i 3 10) (v.i 3 11) (v.i 3 12) (v.b 7 0) (v.i 7 1) (v.i 7 2) (v.s 7 3) (v.s 7 4) (v.s 7 5) (v.i 7 6) (v.i 7 7) (v.i 7 8) (v.i 7 9) (v.i 7 10) (v.i 7 11) (v.i 7 12) K)) (by kernel_rfl) (fun _ _ => (by kernel_rfl))
def qyy  (v5 : Int) (Al : Bool) (Am An : Int) (A1 A2 A3 : List UInt8) (A4 A5 A6 A7 A8 A9 Ba : Int) (Ao : Bool) (Ap Aq : Int) (Ar As At : List UInt8) (Au Av Aw Ax Ay Az A0 : Int) (K : Ex → Env → Mem → Option AV) := (fun z_v12 => K .norm (qe [(3, (.ptr 0 0)), (4, (.ptr 1 0)), (5, (.int .i64 v5)), (12, (.bool z_v12))]) (qd [(some (.box true (q8 Al Am An A1 A2 A3 A4 A5 A6 A7 A8 A9 Ba))), (some (.box true (q8 Ao Ap Aq Ar As At Au Av Aw Ax Ay Az A0)))]))
def qg6  (v5 : Int) (Al : Bool) (Am An : Int) (A1 A2 A3 : List UInt8) (A4 A5 A6 A7 A8 A9 Ba : Int) (Ao : Bool) (Ap Aq : Int) (Ar As At : List UInt8) (Au Av Aw Ax Ay Az A0 : Int) (kn : Bool → Option AV) : Option AV :=
  (bif (v5 == (2 : Int)) then (kn true) else (bif (v5 == (5 : Int)) then (kn true) else (bif (v5 == (12 : Int)) then (kn true) else (kn (v5 == (39 : Int))))))
def qsf := hull (qg6)
theorem qyz : qsf = qg6 := qa _
def q15 : SubB Tryz.prog (TIof Tryz.prog) 96 0 (kret [(.cell 4 true 13)] (decT [.b, (.i .u64), (.i .u64), .s, .s, .s, (.i .i64), (.i .i64), (.i .i64), (.i .i64), (.i .i64), (.i .i64), (.i .u64)])) := jnB tabOk follows Tryz.f113 181 (.s .z (.s (.v [.sel [3, 4, 5, 12] [0, 1]]) (.s .z (.s (.v [.sel [3, 4, 5, 12] [0, 1]]) (.s .z (.s (.v [.sel [3, 4, 5, 12] [0, 1]]) (.v [.sel [3, 4, 5, 12] [0, 1]]))))))) S56_ (qg6) (fun f v K => f (v.i 20 0) (v.b 3 0) (v.i 3 1) (v.i 3 2) (v.s 3 3) (v.s 3 4) (v.s 3 5) (v.i 3 6) (v.i 3 7) (v.i 3 8) (v.i 3 9) (v.i 3 10) (v.i 3 11) (v.i 3 12) (v.b 7 0) (v.i 7 1) (v.i 7 2) (v.s 7 3) (v.s 7 4) (v.s 7 5) (v.i 7 6) (v.i 7 7) (v.i 7 8) (v.i 7 9) (v.i 7 10) (v.i 7 11) (v.i 7 12) (qyy (v.i 20 0) (v.b 3 0) (v.i 3 1) (v.i 3 2) (v.s 3 3) (v.s 3 4) (v.s 3 5) (v.i 3 6) (v.i 3 7) (v.i 3 8) (v.i 3 9) (v.i 3 10) (v.i 3 11) (v.i 3 12) (v.b 7 0) (v.i 7 1) (v.i 7 2) (v.s 7 3) (v.s 7 4) (v.s 7 5) (v.i 7 6) (v.i 7 7) (v.i 7 8) (v.i 7 9) (v.i 7 10) (v.i 7 11) (v.i 7 12) K)) (by kernel_rfl) (fun _ _ => (by kernel_rfl))
def qy0  (v5 : Int) (Al : Bool) (Am An : Int) (A1 A2 A3 : List UInt8) (A4 A5 A6 A7 A8 A9 Ba : Int) (Ao : Bool) (Ap Aq : Int) (Ar As At : List UInt8) (Au Av Aw Ax Ay Az A0 : Int) (K : Ex → Env → Mem → Option AV) := (fun z_v60 => K .norm (qe [(3, (.ptr 0 0)), (4, (.ptr 1 0)), (5, (.int .i64 v5)), (60, (.bool z_v60))]) (qd [(some (.box true (q8 Al Am An A1 A2 A3 A4 A5 A6 A7 A8 A9 Ba))), (some (.box true (q8 Ao Ap Aq Ar As At Au Av Aw Ax Ay Az A0)))]))
def qg7  (v5 : Int) (Al : Bool) (Am An : Int) (A1 A2 A3 : List UInt8) (A4 A5 A6 A7 A8 A9 Ba : Int) (Ao : Bool) (Ap Aq : Int) (Ar As At : List UInt8) (Au Av Aw Ax Ay Az A0 : Int) (kn : Bool → Option AV) : Option AV :=
  (bif (v5 == (43 : Int)) then (kn true) else (kn (v5 == (48 : Int))))
def qsg := hull (qg7)
theorem qy1 : qsg = qg7 := qa _
def q16 : SubB Tryz.prog (TIof Tryz.prog) 96 0 (kret [(.cell 4 true 13)] (decT [.b, (.i .u64), (.i .u64), .s, .s, .s, (.i .i64), (.i .i64), (.i .i64), (.i .i64), (.i .i64), (.i .i64), (.i .u64)])) := jnB tabOk follows Tryz.f113 196597 (.s .z (.s (.v [.sel [3, 4, 5, 60] [0, 1]]) (.v [.sel [3, 4, 5, 60] [0, 1]]))) S56_ (qg7) (fun f v K => f (v.i 20 0) (v.b 3 0) (v.i 3 1) (v.i 3 2) (v.s 3 3) (v.s 3 4) (v.s 3 5) (v.i 3 6) (v.i 3 7) (v.i 3 8) (v.i 3 9) (v.i 3 10) (v.i 3 11) (v.i 3 12) (v.b 7 0) (v.i 7 1) (v.i 7 2) (v.s 7 3) (v.s 7 4) (v.s 7 5) (v.i 7 6) (v.i 7 7) (v.i 7 8) (v.i 7 9) (v.i 7 10) (v.i 7 11) (v.i 7 12) (qy0 (v.i 20 0) (v.b 3 0) (v.i 3 1) (v.i 3 2) (v.s 3 3) (v.s 3 4) (v.s 3 5) (v.i 3 6) (v.i 3 7) (v.i 3 8) (v.i 3 9) (v.i 3 10) (v.i 3 11) (v.i 3 12) (v.b 7 0) (v.i 7 1) (v.i 7 2) (v.s 7 3) (v.s 7 4) (v.s 7 5) (v.i 7 6) (v.i 7 7) (v.i 7 8) (v.i 7 9) (v.i 7 10) (v.i 7 11) (v.i 7 12) K)) (by kernel_rfl) (fun _ _ => (by kernel_rfl))
def qkr (v0 : Int) (Bb : Bool) (Bc Bd : Int) (Be Bf Bg : List UInt8) (Bh Bi Bj Bl Bm Bn Bo : Int) : Option AV :=
  (qtp v0 Bb Bc Bd Be Bf Bg Bh Bi Bj Bl Bm Bn Bo false (0 : Int) (0 : Int) ([] : List UInt8) ([] : List UInt8) ([] : List UInt8) (0 : Int) (0 : Int) (0 : Int) (0 : Int) (0 : Int) (0 : Int) (0 : Int) (fun v6q1 => (bif v6q1 then (some (.agg [(.bool Bb), (.int .u64 Bc), (.int .u64 Bd), (.str ([] : List UInt8)), (.str ([] : List UInt8)), (.str ([] : List UInt8)), (.int .i64 (0 : Int)), (.int .i64 (0 : Int)), (.int .i64 (0 : Int)), (.int .i64 (0 : Int)), (.int .i64 (0 : Int)), (.int .i64 (0 : Int)), (.int .u64 (0 : Int))])) else (qsf v0 Bb Bc Bd Be Bf Bg Bh Bi Bj Bl Bm Bn Bo false (0 : Int) (0 : Int) ([] : List UInt8) ([] : List UInt8) ([] : List UInt8) (0 : Int) (0 : Int) (0 : Int) (0 : Int) (0 : Int) (0 : Int) (0 : Int) (fun v12q2 => (bif v12q2 then (some (.agg [(.bool false), (.int .u64 (0 : Int)), (.int .u64 (0 : Int)), (.str Be), (.str ([] : List UInt8)), (.str ([] : List UInt8)), (.int .i64 (0 : Int)), (.int .i64 (0 : Int)), (.int .i64 (0 : Int)), (.int .i64 (0 : Int)), (.int .i64 (0 : Int)), (.int .i64 (0 : Int)), (.int .u64 (0 : Int))])) else (bif (v0 == (6 : Int)) then (some (.agg [(.bool false), (.int .u64 (0 : Int)), (.int .u64 (0 : Int)), (.str Be), (.str Bf), (.str ([] : List UInt8)), (.int .i64 Bh), (.int .i64 Bi), (.int .i64 Bj), (.int .i64 Bl), (.int .i64 Bm), (.int .i64 (0 : Int)), (.int .u64 (0 : Int))])) else (bif (v0 == (15 : Int)) then (some (.agg [(.bool false), (.int .u64 (0 : Int)), (.int .u64 (0 : Int)), (.str Be), (.str ([] : List UInt8)), (.str ([] : List UInt8)), (.int .i64 Bh), (.int .i64 (0 : Int)), (.int .i64 (0 : Int)), (.int .i64 (0 : Int)), (.int .i64 (0 : Int)), (.int .i64 (0 : Int)), (.int .u64 (0 : Int))])) else (bif (v0 == (16 : Int)) then (some (.agg [(.bool false), (.int .u64 (0 : Int)), (.int .u64 (0 : Int)), (.str ([] : List UInt8)), (.str ([] : List UInt8)), (.str Bg), (.int .i64 (0 : Int)), (.int .i64 (0 : Int)), (.int .i64 (0 : Int)), (.int .i64 (0 : Int)), (.int .i64 (0 : Int)), (.int .i64 (0 : Int)), (.int .u64 (0 : Int))])) else (bif (v0 == (33 : Int)) then (some (.agg [(.bool false), (.int .u64 (0 : Int)), (.int .u64 (0 : Int)), (.str Be), (.str ([] : List UInt8)), (.str ([] : List UInt8)), (.int .i64 Bh), (.int .i64 Bi), (.int .i64 Bj), (.int .i64 (0 : Int)), (.int .i64 (0 : Int)), (.int .i64 (0 : Int)), (.int .u64 (0 : Int))])) else (qsg v0 Bb Bc Bd Be Bf Bg Bh Bi Bj Bl Bm Bn Bo false (0 : Int) (0 : Int) ([] : List UInt8) ([] : List UInt8) ([] : List UInt8) (0 : Int) (0 : Int) (0 : Int) (0 : Int) (0 : Int) (0 : Int) (0 : Int) (fun v60q3 => (bif v60q3 then (some (.agg [(.bool false), (.int .u64 (0 : Int)), (.int .u64 (0 : Int)), (.str ([] : List UInt8)), (.str ([] : List UInt8)), (.str Bg), (.int .i64 Bh), (.int .i64 Bi), (.int .i64 Bj), (.int .i64 (0 : Int)), (.int .i64 (0 : Int)), (.int .i64 (0 : Int)), (.int .u64 (0 : Int))])) else (bif (v0 == (46 : Int)) then (some (.agg [(.bool false), (.int .u64 (0 : Int)), (.int .u64 (0 : Int)), (.str Be), (.str ([] : List UInt8)), (.str Bg), (.int .i64 Bh), (.int .i64 Bi), (.int .i64 Bj), (.int .i64 Bl), (.int .i64 Bm), (.int .i64 Bn), (.int .u64 (0 : Int))])) else (some (.agg [(.bool false), (.int .u64 (0 : Int)), (.int .u64 (0 : Int)), (.str Be), (.str ([] : List UInt8)), (.str ([] : List UInt8)), (.int .i64 (0 : Int)), (.int .i64 (0 : Int)), (.int .i64 (0 : Int)), (.int .i64 (0 : Int)), (.int .i64 (0 : Int)), (.int .i64 (0 : Int)), (.int .u64 Bo)]))))))))))))))))
def qru := hull qkr
theorem q7s : qru = qkr := qa _
def q80 {R : Type} : EntF Tryz.prog R := entB (nt := 96) (dec := (decT [.b, (.i .u64), (.i .u64), .s, .s, .s, (.i .i64), (.i .i64), (.i .i64), (.i .i64), (.i .i64), (.i .i64), (.i .u64)])) (enc := (qpq (.st [.b, (.i .u64), (.i .u64), .s, .s, .s, (.i .i64), (.i .i64), (.i .i64), (.i .i64), (.i .i64), (.i .i64), (.i .u64)]))) tabOk follows Tryz.func113 [(.cell 4 true 13)] hdeT (.s .z (.s (.s .z (.b (.s (.sub [.sel [3, 4, 5] [0, 1]] q3u []) (.s .z (.s (.sub [.sel [3, 4, 5] [0, 1]] q15 []) (.s .z (.s .z (.s .z (.s .z (.s .z (.s .z (.s .z (.s .z (.s .z (.s (.sub [.sel [3, 4, 5] [0, 1]] q16 []) .z))))))))))))))) .z)) S34_ qkr (fun f v => f (v.i 0 0) (v.b 5 0) (v.i 5 1) (v.i 5 2) (v.s 5 3) (v.s 5 4) (v.s 5 5) (v.i 5 6) (v.i 5 7) (v.i 5 8) (v.i 5 9) (v.i 5 10) (v.i 5 11) (v.i 5 12)) (by kernel_rfl) (by kernel_rfl) (by kernel_rfl) fun _ => (by kernel_rfl)
def qtq (Aa : Bool) (Ab Ac : Int) : Option Bool :=
  (bif Aa then (some true) else (bif (Ab == (0 : Int)) then (some (decide (Ac < (4294967296 : Int)))) else (some false)))
def qw8 := hull qtq
def qtr {R : Type} : EntF Tryz.prog R := entB (nt := 15) (dec := decB) (enc := AV.bool) tabOk follows Tryz.func114 [.t 2] hdeB (.z) S28_ qtq (fun f v => f (v.b 1 0) (v.i 1 1) (v.i 1 2)) (by kernel_rfl) (by kernel_rfl) (by kernel_rfl) fun _ => (by kernel_rfl)
def qvi (v0 : List UInt8) : Option Bool :=
  (oB (qix v0) fun r1 => (bif r1 then (oB (ixB v0 (0 : Int)) fun c2 => (some ((c2.toNat : Int) != (42 : Int)))) else (some false)))
def qhp := hull qvi
def qf3 {R : Type} : EntF Tryz.prog R := entB (nt := 10) (dec := decB) (enc := AV.bool) tabOk follows Tryz.func115 [.t 2] hdeB (.s .z (.s (.r [(1, .c qno.b)] []) .z)) S16_ qvi (fun f v => f (v.s 0 0)) (by kernel_rfl) (by kernel_rfl) (by kernel_rfl) fun _ => (by kernel_rfl)
def qts (v0 : Int) : Option Bool :=
  (some ((decide (v0 ≥ (0 : Int))) && (decide (v0 < (4294967296 : Int)))))
def qba5 := hull qts
def q7t {R : Type} : EntF Tryz.prog R := entB (nt := 9) (dec := decB) (enc := AV.bool) tabOk follows Tryz.func116 [.t 2] hdeB (.s .z (.s (.r [(3, .g 2)] []) .z)) S27_ qts (fun f v => f (v.i 0 0)) (by kernel_rfl) (by kernel_rfl) (by kernel_rfl) fun _ => (by kernel_rfl)
def qrv (v0 v1 : Int) : Option Bool :=
  (some ((decide (v0 ≥ (0 : Int))) && (decide (v0 ≤ v1))))
def qbm := hull qrv
theorem qba6 : qbm = qrv := qa _
def qbg {R : Type} : EntF Tryz.prog R := entB (nt := 12) (dec := decB) (enc := AV.bool) tabOk follows Tryz.func117 [.t 4] hdeB (.s .z (.s (.r [(3, .g 3)] []) .z)) S29_ qrv (fun f v => f (v.i 0 0) (v.i 4 0)) (by kernel_rfl) (by kernel_rfl) (by kernel_rfl) fun _ => (by kernel_rfl)
def qks (v0 : List UInt8) : Option Bool :=
  (some ((decide ((v0.length : Int) ≥ (1 : Int))) && (decide ((v0.length : Int) ≤ (255 : Int)))))
def qj5 := hull qks
theorem q7u : qj5 = qks := qa _
def qo7 {R : Type} : EntF Tryz.prog R := entB (nt := 11) (dec := decB) (enc := AV.bool) tabOk follows Tryz.func118 [.t 2] hdeB (.s .z (.s (.r [(4, .g 3)] []) .z)) S16_ qks (fun f v => f (v.s 0 0)) (by kernel_rfl) (by kernel_rfl) (by kernel_rfl) fun _ => (by kernel_rfl)
def S57_ : Shp := ⟨[(0, .one (.l (.i .u64))), (3, .one (.l (.i .i64)))], []⟩
def qp7  (K : Ex → Env → Mem → Option Bool) := (fun (_ : Unit) => K (.exit 0) (qe []) (qd []))
def qsh  (v0 v3 : Int) (next : Int → Option Bool) (kx0 : Unit → Option Bool) : Option Bool :=
  (bif (decide (v3 < (64 : Int))) then (bif decide ((IntKind.u64.wrap v3) < 0) then none else (bif ((qdf .and .u64 (v0.fdiv (2 ^ min (IntKind.u64.wrap v3).toNat IntKind.u64.bits)) (1 : Int)) == (1 : Int)) then (oB (qgr v3) fun r1 => (bif (!r1) then (some false) else (next (IntKind.i64.wrap (v3 + (1 : Int)))))) else (next (IntKind.i64.wrap (v3 + (1 : Int)))))) else (kx0 ()))
def qmh  (v0 : Int) (kx0 : Unit → Option Bool) : Nat → Int → Option Bool
  | 0 => (fun _ => none)
  | n + 1 => (fun v3 => qsh v0 v3 (qmh v0 kx0 n) kx0)
def q81 := hull (qmh)
def q6i : SubB Tryz.prog (TIof Tryz.prog) 19 0 (kret [.t 2] decB) := lpB tabOk follows Tryz.f119 37 (.s (.s .z (.s .z (.v [.sel [] []]))) (.s (.b (.s (.r [(8, .c qjk.b)] []) .z)) (.v [.sel [0, 3] []]))) S57_ (qmh) (fun f v K n => f (v.i 0 0) (qp7 K) n) (fun v f K => qsh (v.i 0 0) (v.i 12 0) f (qp7 K)) (fun f v => f (v.i 12 0)) (fun k v => (fun z0 => k (v.ui 12 0 z0))) (by kernel_rfl) (fun _ _ => (by kernel_rfl)) (fun _ _ _ => (by kernel_rfl)) (fun _ _ _ => (by kernel_rfl)) (fun _ _ => (by kernel_rfl)) (fun _ _ _ _ _ => (by kernel_rfl))
def qw9 (v0 : Int) : Option Bool :=
  (q81 v0 (fun (_ : Unit) => (some true)) FU (0 : Int))
def qbeg := hull qw9
def qba7 {R : Type} : EntF Tryz.prog R := entB (nt := 19) (dec := decB) (enc := AV.bool) tabOk follows Tryz.func119 [.t 2] hdeB (.s .z (.s (.s .z (.b (.sub [.sel [0, 3] []] q6i []))) .z)) S20_ qw9 (fun f v => f (v.i 0 0)) (by kernel_rfl) (by kernel_rfl) (by kernel_rfl) fun _ => (by kernel_rfl)
def S58_ : Shp := ⟨[(0, .one (.l (.i .i64))), (3, .one (.ptr 0 0))], [.box true (lk qb6)]⟩
def qy2  (v0 : Int) (Al : Bool) (Am An : Int) (A1 A2 A3 : List UInt8) (A4 A5 A6 A7 A8 A9 Ba : Int) (K : Ex → Env → Mem → Option Bool) := (fun z_v14 => K .norm (qe [(0, (.int .i64 v0)), (3, (.ptr 0 0)), (14, (.bool z_v14))]) (qd [(some (.box true (q8 Al Am An A1 A2 A3 A4 A5 A6 A7 A8 A9 Ba)))]))
def qg8  (v0 : Int) (Al : Bool) (Am An : Int) (A1 A2 A3 : List UInt8) (A4 A5 A6 A7 A8 A9 Ba : Int) (kn : Bool → Option Bool) : Option Bool :=
  (oB (qgr v0) fun r1 => (bif (!r1) then (kn true) else (oB (qru v0 Al Am An A1 A2 A3 A4 A5 A6 A7 A8 A9 Ba) fun r2 => (kn (!(((gB r2.cells 0) == Al) && (((gI r2.cells 1) == Am) && (((gI r2.cells 2) == An) && (((gS r2.cells 3) == A1) && (((gS r2.cells 4) == A2) && (((gS r2.cells 5) == A3) && (((gI r2.cells 6) == A4) && (((gI r2.cells 7) == A5) && (((gI r2.cells 8) == A6) && (((gI r2.cells 9) == A7) && (((gI r2.cells 10) == A8) && (((gI r2.cells 11) == A9) && (((gI r2.cells 12) == Ba) && true))))))))))))))))))
def qsi := hull (qg8)
theorem qy3 : qsi = qg8 := qa _
def q17 : SubB Tryz.prog (TIof Tryz.prog) 211 0 (kret [.t 4] decB) := jnB tabOk follows Tryz.f84 9 (.d [] [(1, .c qjk.b), (6, .c q80.b)] [] [.sel [0, 3, 14] [0]]) S58_ (qg8) (fun f v K => f (v.i 0 0) (v.b 3 0) (v.i 3 1) (v.i 3 2) (v.s 3 3) (v.s 3 4) (v.s 3 5) (v.i 3 6) (v.i 3 7) (v.i 3 8) (v.i 3 9) (v.i 3 10) (v.i 3 11) (v.i 3 12) (qy2 (v.i 0 0) (v.b 3 0) (v.i 3 1) (v.i 3 2) (v.s 3 3) (v.s 3 4) (v.s 3 5) (v.i 3 6) (v.i 3 7) (v.i 3 8) (v.i 3 9) (v.i 3 10) (v.i 3 11) (v.i 3 12) K)) (by kernel_rfl) (fun _ _ => (by kernel_rfl))
def qxa  (K : Ex → Env → Mem → Option Bool) := (fun z_v4 => K .norm (qe [(4, (.bool z_v4))]) (qd []))
def qo8  (Al : Bool) (Am An : Int) (A1 A2 A3 : List UInt8) (A4 A5 A6 A7 A8 A9 Ba : Int) (kn : Bool → Option Bool) : Option Bool :=
  (oB (qhp A1) fun r1 => (bif r1 then (oB (qhp A2) fun r2 => (bif r2 then (oB (qba5 A4) fun r3 => (bif r3 then (oB (qbm A5 (2147483647 : Int)) fun r4 => (bif r4 then (oB (qbm A6 (2147483647 : Int)) fun r5 => (bif r5 then (oB (qbm A7 (2147483647 : Int)) fun r6 => (bif r6 then (oB (qbm A8 (2147483647 : Int)) fun r7 => (kn r7)) else (kn false))) else (kn false))) else (kn false))) else (kn false))) else (kn false))) else (kn false)))
def q3v := hull (qo8)
def qy4 : SubB Tryz.prog (TIof Tryz.prog) 211 0 (kret [.t 4] decB) := jnB tabOk follows Tryz.f84 5099 (.r [(2, .c qf3.b), (6, .c qf3.b), (11, .c q7t.b), (16, .c qbg.b), (21, .c qbg.b), (26, .c qbg.b), (31, .c qbg.b)] [.sel [4] []]) S33_ (qo8) (fun f v K => f (v.b 3 0) (v.i 3 1) (v.i 3 2) (v.s 3 3) (v.s 3 4) (v.s 3 5) (v.i 3 6) (v.i 3 7) (v.i 3 8) (v.i 3 9) (v.i 3 10) (v.i 3 11) (v.i 3 12) (qxa K)) (by kernel_rfl) (fun _ _ => (by kernel_rfl))
def qxb  (K : Ex → Env → Mem → Option Bool) := (fun z_v4 => K .norm (qe [(4, (.bool z_v4))]) (qd []))
def qo9  (Al : Bool) (Am An : Int) (A1 A2 A3 : List UInt8) (A4 A5 A6 A7 A8 A9 Ba : Int) (kn : Bool → Option Bool) : Option Bool :=
  (oB (qhp A1) fun r1 => (bif r1 then (oB (qbm A4 (65535 : Int)) fun r2 => (bif r2 then (oB (qbm A5 (65535 : Int)) fun r3 => (bif r3 then (oB (qbm A6 (65535 : Int)) fun r4 => (kn r4)) else (kn false))) else (kn false))) else (kn false)))
def q3w := hull (qo9)
def qy5 : SubB Tryz.prog (TIof Tryz.prog) 211 0 (kret [.t 4] decB) := jnB tabOk follows Tryz.f84 327659 (.r [(2, .c qf3.b), (6, .c qbg.b), (11, .c qbg.b), (16, .c qbg.b)] [.sel [4] []]) S33_ (qo9) (fun f v K => f (v.b 3 0) (v.i 3 1) (v.i 3 2) (v.s 3 3) (v.s 3 4) (v.s 3 5) (v.i 3 6) (v.i 3 7) (v.i 3 8) (v.i 3 9) (v.i 3 10) (v.i 3 11) (v.i 3 12) (qxb K)) (by kernel_rfl) (fun _ _ => (by kernel_rfl))
def qxc  (K : Ex → Env → Mem → Option Bool) := (fun z_v4 => K .norm (qe [(4, (.bool z_v4))]) (qd []))
def qpa  (Al : Bool) (Am An : Int) (A1 A2 A3 : List UInt8) (A4 A5 A6 A7 A8 A9 Ba : Int) (kn : Bool → Option Bool) : Option Bool :=
  (oB (qbm A4 (65535 : Int)) fun r1 => (bif r1 then (oB (qbm A5 (255 : Int)) fun r2 => (bif r2 then (oB (qbm A6 (255 : Int)) fun r3 => (bif r3 then (oB (qj5 A3) fun r4 => (kn r4)) else (kn false))) else (kn false))) else (kn false)))
def q3x := hull (qpa)
def qy6 : SubB Tryz.prog (TIof Tryz.prog) 211 0 (kret [.t 4] decB) := jnB tabOk follows Tryz.f84 1310699 (.r [(2, .c qbg.b), (6, .c qbg.b), (11, .c qbg.b), (16, .c qo7.b)] [.sel [4] []]) S33_ (qpa) (fun f v K => f (v.b 3 0) (v.i 3 1) (v.i 3 2) (v.s 3 3) (v.s 3 4) (v.s 3 5) (v.i 3 6) (v.i 3 7) (v.i 3 8) (v.i 3 9) (v.i 3 10) (v.i 3 11) (v.i 3 12) (qxc K)) (by kernel_rfl) (fun _ _ => (by kernel_rfl))
def qxd  (K : Ex → Env → Mem → Option Bool) := (fun z_v4 => K .norm (qe [(4, (.bool z_v4))]) (qd []))
def qpb  (Al : Bool) (Am An : Int) (A1 A2 A3 : List UInt8) (A4 A5 A6 A7 A8 A9 Ba : Int) (kn : Bool → Option Bool) : Option Bool :=
  (oB (qgr A4) fun r1 => (bif (r1 && (A4 != (46 : Int))) then (oB (qbm A5 (127 : Int)) fun r2 => (bif r2 then (oB (qbm A6 (2147483647 : Int)) fun r3 => (bif r3 then (oB (qbm A7 (4294967295 : Int)) fun r4 => (bif r4 then (oB (qbm A8 (4294967295 : Int)) fun r5 => (bif r5 then (oB (qbm A9 (65535 : Int)) fun r6 => (bif r6 then (oB (qhp A1) fun r7 => (bif r7 then (oB (qj5 A3) fun r8 => (kn r8)) else (kn false))) else (kn false))) else (kn false))) else (kn false))) else (kn false))) else (kn false))) else (kn false)))
def q3y := hull (qpb)
def qy7 : SubB Tryz.prog (TIof Tryz.prog) 211 0 (kret [.t 4] decB) := jnB tabOk follows Tryz.f84 5242859 (.r [(2, .c qjk.b), (4, .g 3), (11, .c qbg.b), (16, .c qbg.b), (21, .c qbg.b), (26, .c qbg.b), (31, .c qbg.b), (36, .c qf3.b), (41, .c qo7.b)] [.sel [4] []]) S33_ (qpb) (fun f v K => f (v.b 3 0) (v.i 3 1) (v.i 3 2) (v.s 3 3) (v.s 3 4) (v.s 3 5) (v.i 3 6) (v.i 3 7) (v.i 3 8) (v.i 3 9) (v.i 3 10) (v.i 3 11) (v.i 3 12) (qxd K)) (by kernel_rfl) (fun _ _ => (by kernel_rfl))
def qxe  (K : Ex → Env → Mem → Option Bool) := (fun z_v4 => K .norm (qe [(4, (.bool z_v4))]) (qd []))
def qgi  (Al : Bool) (Am An : Int) (A1 A2 A3 : List UInt8) (A4 A5 A6 A7 A8 A9 Ba : Int) (kn : Bool → Option Bool) : Option Bool :=
  (bif (((A4 == (256 : Int)) || (A4 == (257 : Int))) && (A5 == (3 : Int))) then (oB (qbm A6 (255 : Int)) fun r1 => (bif r1 then (oB (qj5 A3) fun r2 => (kn r2)) else (kn false))) else (kn false))
def qrd := hull (qgi)
theorem qxf : qrd = qgi := qa _
def qy8 : SubB Tryz.prog (TIof Tryz.prog) 211 0 (kret [.t 4] decB) := jnB tabOk follows Tryz.f84 83886059 (.r [(4, .g 3), (9, .g 3), (16, .c qbg.b), (21, .c qo7.b)] [.sel [4] []]) S33_ (qgi) (fun f v K => f (v.b 3 0) (v.i 3 1) (v.i 3 2) (v.s 3 3) (v.s 3 4) (v.s 3 5) (v.i 3 6) (v.i 3 7) (v.i 3 8) (v.i 3 9) (v.i 3 10) (v.i 3 11) (v.i 3 12) (qxe K)) (by kernel_rfl) (fun _ _ => (by kernel_rfl))
def qjl (v0 : Int) (Bb : Bool) (Bc Bd : Int) (Be Bf Bg : List UInt8) (Bh Bi Bj Bl Bm Bn Bo : Int) : Option Bool :=
  (qsi v0 Bb Bc Bd Be Bf Bg Bh Bi Bj Bl Bm Bn Bo (fun v14q1 => (bif v14q1 then (some false) else (bif (v0 == (1 : Int)) then (oB (qw8 Bb Bc Bd) fun r2 => (some (r2 && (!Bb)))) else (bif (v0 == (28 : Int)) then (some Bb) else (bif (v0 == (6 : Int)) then (q3v Bb Bc Bd Be Bf Bg Bh Bi Bj Bl Bm Bn Bo (fun v4q3 => (some v4q3))) else (bif (v0 == (15 : Int)) then (oB (qhp Be) fun r4 => (bif r4 then (oB (qbm Bh (65535 : Int)) fun r5 => (some r5)) else (some false))) else (bif (v0 == (16 : Int)) then (some (decide ((Bg.length : Int) ≤ (255 : Int)))) else (bif (v0 == (33 : Int)) then (q3w Bb Bc Bd Be Bf Bg Bh Bi Bj Bl Bm Bn Bo (fun v4q6 => (some v4q6))) else (bif (v0 == (43 : Int)) then (q3x Bb Bc Bd Be Bf Bg Bh Bi Bj Bl Bm Bn Bo (fun v4q7 => (some v4q7))) else (bif (v0 == (46 : Int)) then (q3y Bb Bc Bd Be Bf Bg Bh Bi Bj Bl Bm Bn Bo (fun v4q8 => (some v4q8))) else (bif (v0 == (47 : Int)) then (oB (qix Be) fun r9 => (bif (r9 && (Bo != (0 : Int))) then (oB (qbeg Bo) fun r10 => (some r10)) else (some false))) else (bif (v0 == (48 : Int)) then (qrd Bb Bc Bd Be Bf Bg Bh Bi Bj Bl Bm Bn Bo (fun v4q11 => (some v4q11))) else (oB (qhp Be) fun r12 => (some r12)))))))))))))))
def qlu := hull qjl
theorem q6j : qlu = qjl := qa _
def qtt {R : Type} : EntF Tryz.prog R := entB (nt := 211) (dec := decB) (enc := AV.bool) tabOk follows Tryz.func84 [.t 4] hdeB (.s .z (.s (.s (.sub [.sel [0, 3] [0]] q17 []) .z) (.s (.s .z (.b (.s .z (.s (.s (.r [(2, .c qtr.b), (4, .g 4)] []) .z) (.s .z (.s .z (.s .z (.s (.s (.sub [.sel [3] [0]] qy4 []) .z) (.s .z (.s (.s (.r [(2, .c qf3.b), (6, .c qbg.b)] []) .z) (.s .z (.s .z (.s .z (.s (.s (.sub [.sel [3] [0]] qy5 []) .z) (.s .z (.s (.s (.sub [.sel [3] [0]] qy6 []) .z) (.s .z (.s (.s (.sub [.sel [3] [0]] qy7 []) .z) (.s .z (.s (.s (.r [(2, .c qno.b), (4, .g 3), (11, .c qba7.b)] []) .z) (.s .z (.s (.s (.sub [.sel [3] [0]] qy8 []) .z) .z)))))))))))))))))))))) (.s (.r [(2, .c qf3.b)] []) .z)))) S34_ qjl (fun f v => f (v.i 0 0) (v.b 5 0) (v.i 5 1) (v.i 5 2) (v.s 5 3) (v.s 5 4) (v.s 5 5) (v.i 5 6) (v.i 5 7) (v.i 5 8) (v.i 5 9) (v.i 5 10) (v.i 5 11) (v.i 5 12)) (by kernel_rfl) (by kernel_rfl) (by kernel_rfl) fun _ => (by kernel_rfl)
def S59_ : Shp := ⟨[(0, .one (.l (.i .u64))), (5, .one (.own 0)), (6, .one (.l (.i .i64))), (7, .one (.l (.i .u64))), (8, .one (.l (.i .i64)))], [.arr true 1]⟩
def S60_ : Shp := ⟨[(0, .one (.l (.i .u64))), (5, .one (.own 0)), (6, .one (.l (.i .i64)))], [.arr true 1]⟩
def S61_ : Shp := ⟨[(0, .one (.l (.i .u64))), (1, .one (.l (.i .i64)))], []⟩
def qma  (v0 v6 : Int) (a0 : List AV) (K : Ex → Env → Mem → Option (List UInt8)) := (fun z_v7 => K (.exit 2) (qe [(0, (.int .u64 v0)), (5, (.own 0 a0.length)), (6, (.int .i64 v6)), (7, (.int .u64 z_v7))]) (qd [(some (.arr true 1 a0))]))
def qn4  (v0 v6 v7 v8 : Int) (a0 : List AV) (next : Int → Int → Option (List UInt8)) (kx2 : Int → Option (List UInt8)) : Option (List UInt8) :=
  (bif (decide (v8 < v6)) then (next (IntKind.u64.wrap (v7.tdiv (256 : Int))) (IntKind.i64.wrap (v8 + (1 : Int)))) else (kx2 v7))
def qiy  (v0 v6 : Int) (a0 : List AV) (kx2 : Int → Option (List UInt8)) : Nat → Int → Int → Option (List UInt8)
  | 0 => (fun _ _ => none)
  | n + 1 => (fun v7 v8 => qn4 v0 v6 v7 v8 a0 (qiy v0 v6 a0 kx2 n) kx2)
def q18 := hull (qiy)
def qxg : SubB Tryz.prog (TIof Tryz.prog) 31 0 (kret [.t 4] decS) := lpB tabOk follows Tryz.f142 19019 (.s (.s .z (.s .z (.v [.sel [0, 5, 6, 7] [0]]))) (.s .z (.v [.sel [0, 5, 6, 7, 8] [0]]))) S59_ (qiy) (fun f v K n => f (v.i 0 0) (v.i 24 0) (v.r 0) (qma (v.i 0 0) (v.i 24 0) (v.r 0) K) n) (fun v f K => qn4 (v.i 0 0) (v.i 24 0) (v.i 28 0) (v.i 32 0) (v.r 0) f (qma (v.i 0 0) (v.i 24 0) (v.r 0) K)) (fun f v => f (v.i 28 0) (v.i 32 0)) (fun k v => (fun z0 z1 => k ((v.ui 28 0 z0).ui 32 0 z1))) (by kernel_rfl) (fun _ _ => (by kernel_rfl)) (fun _ _ _ => (by kernel_rfl)) (fun _ _ _ => (by kernel_rfl)) (fun _ _ => (by kernel_rfl)) (fun _ _ _ _ _ => (by kernel_rfl))
def qm1  (K : Ex → Env → Mem → Option (List UInt8)) := (fun z_a0 => K (.exit 0) (qe [(5, (.own 0 z_a0.length))]) (qd [(some (.arr true 1 z_a0))]))
def qpc  (v0 v6 : Int) (a0 : List AV) (next : Int → (List AV) → Option (List UInt8)) (kx0 : (List AV) → Option (List UInt8)) : Option (List UInt8) :=
  (bif (decide (v6 ≥ (0 : Int))) then (bif (hd a0 (a0.length) && true) then (q18 v0 v6 a0 (fun v7q1 => (bif hd a0 a0.length then (bif hd ([(.int .u8 (IntKind.u8.wrap (v7q1.tmod (256 : Int))))] : List AV) (([(.int .u8 (IntKind.u8.wrap (v7q1.tmod (256 : Int))))] : List AV).length) then (bif decide ((a0.length + ([(.int .u8 (IntKind.u8.wrap (v7q1.tmod (256 : Int))))] : List AV).length) * 1 ≤ 140737488355328) then (next (IntKind.i64.wrap (v6 - (1 : Int))) (a0 ++ ([(.int .u8 (IntKind.u8.wrap (v7q1.tmod (256 : Int))))] : List AV))) else none) else none) else none)) FU v0 (0 : Int)) else none) else (kx0 a0))
def qjm  (v0 : Int) (kx0 : (List AV) → Option (List UInt8)) : Nat → Int → (List AV) → Option (List UInt8)
  | 0 => (fun _ _ => none)
  | n + 1 => (fun v6 a0 => qpc v0 v6 a0 (qjm v0 kx0 n) kx0)
def q3z := hull (qjm)
def qy9 : SubB Tryz.prog (TIof Tryz.prog) 31 0 (kret [.t 4] decS) := lpB tabOk follows Tryz.f142 75 (.s (.s .z (.s .z (.v [.sel [5] [0]]))) (.s (.b (.s .z (.s (.s .z (.b (.sub [.sel [0, 5, 6, 7, 8] [0]] qxg []))) .z))) (.v [.sel [0, 5, 6] [0]]))) S60_ (qjm) (fun f v K n => f (v.i 0 0) (qm1 K) n) (fun v f K => qpc (v.i 0 0) (v.i 24 0) (v.r 0) f (qm1 K)) (fun f v => f (v.i 24 0) (v.r 0)) (fun k v => (fun z0 z1 => k ((v.ui 24 0 z0).ur 0 z1))) (by kernel_rfl) (fun _ _ => (by kernel_rfl)) (fun _ _ _ => (by kernel_rfl)) (fun _ _ _ => (by kernel_rfl)) (fun _ _ => (by kernel_rfl)) (fun _ _ _ _ _ => (by kernel_rfl))
def qsj (v0 v1 : Int) : Option (List UInt8) :=
  (bif (hd ([] : List AV) (([] : List AV).length) && true) then (q3z v0 (fun a0q1 => (bif hd a0q1 a0q1.length then (oB (qy a0q1) fun s2 => (some s2)) else none)) FU (IntKind.i64.wrap (v1 - (1 : Int))) ([] : List AV)) else none)
def qpd := hull qsj
def qmi {R : Type} : EntF Tryz.prog R := entB (nt := 31) (dec := decS) (enc := AV.str) tabOk follows Tryz.func142 [.t 4] hdeS (.s .z (.s .z (.s (.s .z (.b (.sub [.own 5 1, .sel [0, 5, 6] [0]] qy9 []))) .z))) S61_ qsj (fun f v => f (v.i 0 0) (v.i 4 0)) (by kernel_rfl) (by kernel_rfl) (by kernel_rfl) fun _ => (by kernel_rfl)
def q6k : AV → Option ((List UInt8) × Int) := decN [(.one .s), (.one (.i .i64))] fun z => (aS (gC (tpL z) 0), aI (gC (tpL z) 1))
def qvj (Aa : Bool) (Ab Ac : Int) : Option ((List UInt8) × Int) :=
  (oB (qw8 Aa Ab Ac) fun r1 => (bif (!r1) then (some (([] : List UInt8), (3 : Int))) else (bif Aa then (oB (qpd Ab (8 : Int)) fun r2 => (oB (qpd Ac (8 : Int)) fun r3 => (bif decide (r2.length + r3.length ≤ 9223372036854775807) then (some ((r2 ++ r3), (0 : Int))) else none))) else (oB (qpd Ac (4 : Int)) fun r4 => (some (r4, (0 : Int)))))))
def qbdj := hull qvj
def q82 {R : Type} : EntF Tryz.prog R := entB (nt := 19) (dec := q6k) (enc := (fun r => .tup [.str r.1, .int .i64 r.2])) tabOk follows Tryz.func120 [.t 2, .t 3] (hdeN fun _ => rfl) (.s .z (.s (.s (.r [(1, .c qtr.b)] []) .z) (.s (.s .z (.s (.s (.d [] [(2, .c qmi.b)] [(0, .c qmi.b)] []) .z) .z)) (.s (.r [(2, .c qmi.b)] []) .z)))) S28_ qvj (fun f v => f (v.b 1 0) (v.i 1 1) (v.i 1 2)) (by kernel_rfl) (by kernel_rfl) (by kernel_rfl) fun _ => (by kernel_rfl)
def S62_ : Shp := ⟨[(0, .one (.l (.i .i64))), (5, .one (.own 0)), (6, .one (.l (.i .i64))), (7, .one (.l (.i .i64))), (8, .one (.l (.i .i64)))], [.arr true 1]⟩
def qmb  (v0 v6 : Int) (a0 : List AV) (K : Ex → Env → Mem → Option (List UInt8)) := (fun z_v7 => K (.exit 2) (qe [(0, (.int .i64 v0)), (5, (.own 0 a0.length)), (6, (.int .i64 v6)), (7, (.int .i64 z_v7))]) (qd [(some (.arr true 1 a0))]))
def qn5  (v0 v6 v7 v8 : Int) (a0 : List AV) (next : Int → Int → Option (List UInt8)) (kx2 : Int → Option (List UInt8)) : Option (List UInt8) :=
  (bif (decide (v8 < v6)) then (next (IntKind.i64.wrap (v7.tdiv (256 : Int))) (IntKind.i64.wrap (v8 + (1 : Int)))) else (kx2 v7))
def qds  (v0 v6 : Int) (a0 : List AV) (kx2 : Int → Option (List UInt8)) : Nat → Int → Int → Option (List UInt8)
  | 0 => (fun _ _ => none)
  | n + 1 => (fun v7 v8 => qn5 v0 v6 v7 v8 a0 (qds v0 v6 a0 kx2 n) kx2)
def qp8 := hull (qds)
theorem qwc : qp8 = qds := qa _
def qxh : SubB Tryz.prog (TIof Tryz.prog) 31 0 (kret [.t 4] decS) := lpB tabOk follows Tryz.f122 19019 (.s (.s .z (.s .z (.v [.sel [0, 5, 6, 7] [0]]))) (.s .z (.v [.sel [0, 5, 6, 7, 8] [0]]))) S62_ (qds) (fun f v K n => f (v.i 0 0) (v.i 24 0) (v.r 0) (qmb (v.i 0 0) (v.i 24 0) (v.r 0) K) n) (fun v f K => qn5 (v.i 0 0) (v.i 24 0) (v.i 28 0) (v.i 32 0) (v.r 0) f (qmb (v.i 0 0) (v.i 24 0) (v.r 0) K)) (fun f v => f (v.i 28 0) (v.i 32 0)) (fun k v => (fun z0 z1 => k ((v.ui 28 0 z0).ui 32 0 z1))) (by kernel_rfl) (fun _ _ => (by kernel_rfl)) (fun _ _ _ => (by kernel_rfl)) (fun _ _ _ => (by kernel_rfl)) (fun _ _ => (by kernel_rfl)) (fun _ _ _ _ _ => (by kernel_rfl))
def qm2  (K : Ex → Env → Mem → Option (List UInt8)) := (fun z_a0 => K (.exit 0) (qe [(5, (.own 0 z_a0.length))]) (qd [(some (.arr true 1 z_a0))]))
def qgj  (v0 v6 : Int) (a0 : List AV) (next : Int → (List AV) → Option (List UInt8)) (kx0 : (List AV) → Option (List UInt8)) : Option (List UInt8) :=
  (bif (decide (v6 ≥ (0 : Int))) then (bif (hd a0 (a0.length) && true) then (qp8 v0 v6 a0 (fun v7q1 => (bif hd a0 a0.length then (bif hd ([(.int .u8 (IntKind.u8.wrap (v7q1.tmod (256 : Int))))] : List AV) (([(.int .u8 (IntKind.u8.wrap (v7q1.tmod (256 : Int))))] : List AV).length) then (bif decide ((a0.length + ([(.int .u8 (IntKind.u8.wrap (v7q1.tmod (256 : Int))))] : List AV).length) * 1 ≤ 140737488355328) then (next (IntKind.i64.wrap (v6 - (1 : Int))) (a0 ++ ([(.int .u8 (IntKind.u8.wrap (v7q1.tmod (256 : Int))))] : List AV))) else none) else none) else none)) FU v0 (0 : Int)) else none) else (kx0 a0))
def qct  (v0 : Int) (kx0 : (List AV) → Option (List UInt8)) : Nat → Int → (List AV) → Option (List UInt8)
  | 0 => (fun _ _ => none)
  | n + 1 => (fun v6 a0 => qgj v0 v6 a0 (qct v0 kx0 n) kx0)
def qre := hull (qct)
theorem qiz : qre = qct := qa _
def qza : SubB Tryz.prog (TIof Tryz.prog) 31 0 (kret [.t 4] decS) := lpB tabOk follows Tryz.f122 75 (.s (.s .z (.s .z (.v [.sel [5] [0]]))) (.s (.b (.s .z (.s (.s .z (.b (.sub [.sel [0, 5, 6, 7, 8] [0]] qxh []))) .z))) (.v [.sel [0, 5, 6] [0]]))) S36_ (qct) (fun f v K n => f (v.i 0 0) (qm2 K) n) (fun v f K => qgj (v.i 0 0) (v.i 24 0) (v.r 0) f (qm2 K)) (fun f v => f (v.i 24 0) (v.r 0)) (fun k v => (fun z0 z1 => k ((v.ui 24 0 z0).ur 0 z1))) (by kernel_rfl) (fun _ _ => (by kernel_rfl)) (fun _ _ _ => (by kernel_rfl)) (fun _ _ _ => (by kernel_rfl)) (fun _ _ => (by kernel_rfl)) (fun _ _ _ _ _ => (by kernel_rfl))
def qeo (v0 v1 : Int) : Option (List UInt8) :=
  (bif (hd ([] : List AV) (([] : List AV).length) && true) then (qre v0 (fun a0q1 => (bif hd a0q1 a0q1.length then (oB (qy a0q1) fun s2 => (some s2)) else none)) FU (IntKind.i64.wrap (v1 - (1 : Int))) ([] : List AV)) else none)
def qi := hull qeo
theorem qk7 : qi = qeo := qa _
def qj {R : Type} : EntF Tryz.prog R := entB (nt := 31) (dec := decS) (enc := AV.str) tabOk follows Tryz.func122 [.t 4] hdeS (.s .z (.s .z (.s (.s .z (.b (.sub [.own 5 1, .sel [0, 5, 6] [0]] qza []))) .z))) S29_ qeo (fun f v => f (v.i 0 0) (v.i 4 0)) (by kernel_rfl) (by kernel_rfl) (by kernel_rfl) fun _ => (by kernel_rfl)
def S63_ : Shp := ⟨[(3, .one (.l .s)), (4, .one (.l (.sl 1))), (5, .one (.l (.i .i64)))], []⟩
def qkt  (K : Ex → Env → Mem → Option (List UInt8)) := (fun z_v3 => K (.exit 0) (qe [(3, (.str z_v3))]) (qd []))
def qmc  (v3 : List UInt8) (v4 : List AV) (v5 : Int) (next : (List UInt8) → Int → Option (List UInt8)) (kx0 : (List UInt8) → Option (List UInt8)) : Option (List UInt8) :=
  (bif (decide (v5 < (v4.length : Int))) then (oB (ixB v4 v5) fun y1 => (bif fitC [.s] y1.cells then (oB (qi ((gS y1.cells 0).length : Int) (1 : Int)) fun r2 => (oB (ixB v4 v5) fun y3 => (bif fitC [.s] y3.cells then (bif decide (r2.length + (gS y3.cells 0).length ≤ 9223372036854775807) then (bif decide (v3.length + (r2 ++ (gS y3.cells 0)).length ≤ 9223372036854775807) then (next (v3 ++ (r2 ++ (gS y3.cells 0))) (IntKind.i64.wrap (v5 + (1 : Int)))) else none) else none) else none))) else none)) else (kx0 v3))
def qho  (v4 : List AV) (kx0 : (List UInt8) → Option (List UInt8)) : Nat → (List UInt8) → Int → Option (List UInt8)
  | 0 => (fun _ _ => none)
  | n + 1 => (fun v3 v5 => qmc v3 v4 v5 (qho v4 kx0 n) kx0)
def qxi := hull (qho)
def qux : SubB Tryz.prog (TIof Tryz.prog) 30 0 (kret [.t 2] decS) := lpB tabOk follows Tryz.f121 151 (.s (.s .z (.s .z (.v [.sel [3] []]))) (.s (.b (.d [] [(3, .e 17 [.s]), (6, .c qj.b), (9, .e 23 [.s])] [] [])) (.v [.sel [3, 4, 5] []]))) S63_ (qho) (fun f v K n => f (v.l 16 0) (qkt K) n) (fun v f K => qmc (v.s 12 0) (v.l 16 0) (v.i 20 0) f (qkt K)) (fun f v => f (v.s 12 0) (v.i 20 0)) (fun k v => (fun z0 z1 => k ((v.us 12 0 z0).ui 20 0 z1))) (by kernel_rfl) (fun _ _ => (by kernel_rfl)) (fun _ _ _ => (by kernel_rfl)) (fun _ _ _ => (by kernel_rfl)) (fun _ _ => (by kernel_rfl)) (fun _ _ _ _ _ => (by kernel_rfl))
def qp9 (v0 : List UInt8) : Option (List UInt8) :=
  (oB (qko v0) fun r1 => (qxi r1 (fun v3q2 => (oB (qi (0 : Int) (1 : Int)) fun r3 => (bif decide (v3q2.length + r3.length ≤ 9223372036854775807) then (some (v3q2 ++ r3)) else none))) FU ([] : List UInt8) (0 : Int)))
def qep := hull qp9
def qcw {R : Type} : EntF Tryz.prog R := entB (nt := 30) (dec := decS) (enc := AV.str) tabOk follows Tryz.func121 [.t 2] hdeS (.s .z (.s .z (.s (.r [(1, .k qsc.b)] []) (.s (.s .z (.b (.sub [.sel [3, 4, 5] []] qux []))) (.s (.r [(1, .c qj.b)] []) .z))))) S16_ qp9 (fun f v => f (v.s 0 0)) (by kernel_rfl) (by kernel_rfl) (by kernel_rfl) fun _ => (by kernel_rfl)
def S64_ : Shp := ⟨[(3, .one (.ptr 0 0)), (14, .one (.l (.i .i64)))], [.box true (lk qb6)]⟩
def qmj : AV → Option ((List UInt8) × Int) := decN [(.one .s), (.one (.i .i64))] fun z => (aS (gC (tpL z) 0), aI (gC (tpL z) 1))
def qzb  (v14 : Int) (Al : Bool) (Am An : Int) (A1 A2 A3 : List UInt8) (A4 A5 A6 A7 A8 A9 Ba : Int) (K : Ex → Env → Mem → Option ((List UInt8) × Int)) := (fun z_v15 => K .norm (qe [(3, (.ptr 0 0)), (14, (.int .i64 v14)), (15, (.bool z_v15))]) (qd [(some (.box true (q8 Al Am An A1 A2 A3 A4 A5 A6 A7 A8 A9 Ba)))]))
def qg9  (v14 : Int) (Al : Bool) (Am An : Int) (A1 A2 A3 : List UInt8) (A4 A5 A6 A7 A8 A9 Ba : Int) (kn : Bool → Option ((List UInt8) × Int)) : Option ((List UInt8) × Int) :=
  (bif (v14 == (1 : Int)) then (kn true) else (kn (v14 == (28 : Int))))
def qsk := hull (qg9)
theorem qzc : qsk = qg9 := qa _
def q19 : SubB Tryz.prog (TIof Tryz.prog) 157 0 (kret [.t 4, .t 5] qmj) := jnB tabOk follows Tryz.f85 151 (.s .z (.s (.v [.sel [3, 14, 15] [0]]) (.v [.sel [3, 14, 15] [0]]))) S64_ (qg9) (fun f v K => f (v.i 56 0) (v.b 3 0) (v.i 3 1) (v.i 3 2) (v.s 3 3) (v.s 3 4) (v.s 3 5) (v.i 3 6) (v.i 3 7) (v.i 3 8) (v.i 3 9) (v.i 3 10) (v.i 3 11) (v.i 3 12) (qzb (v.i 56 0) (v.b 3 0) (v.i 3 1) (v.i 3 2) (v.s 3 3) (v.s 3 4) (v.s 3 5) (v.i 3 6) (v.i 3 7) (v.i 3 8) (v.i 3 9) (v.i 3 10) (v.i 3 11) (v.i 3 12) K)) (by kernel_rfl) (fun _ _ => (by kernel_rfl))
def qzd  (v14 : Int) (Al : Bool) (Am An : Int) (A1 A2 A3 : List UInt8) (A4 A5 A6 A7 A8 A9 Ba : Int) (K : Ex → Env → Mem → Option ((List UInt8) × Int)) := (fun z_v87 => K .norm (qe [(3, (.ptr 0 0)), (14, (.int .i64 v14)), (87, (.bool z_v87))]) (qd [(some (.box true (q8 Al Am An A1 A2 A3 A4 A5 A6 A7 A8 A9 Ba)))]))
def qha  (v14 : Int) (Al : Bool) (Am An : Int) (A1 A2 A3 : List UInt8) (A4 A5 A6 A7 A8 A9 Ba : Int) (kn : Bool → Option ((List UInt8) × Int)) : Option ((List UInt8) × Int) :=
  (bif (v14 == (43 : Int)) then (kn true) else (kn (v14 == (48 : Int))))
def qsl := hull (qha)
theorem qze : qsl = qha := qa _
def q2a : SubB Tryz.prog (TIof Tryz.prog) 157 0 (kret [.t 4, .t 5] qmj) := jnB tabOk follows Tryz.f85 196567 (.s .z (.s (.v [.sel [3, 14, 87] [0]]) (.v [.sel [3, 14, 87] [0]]))) S64_ (qha) (fun f v K => f (v.i 56 0) (v.b 3 0) (v.i 3 1) (v.i 3 2) (v.s 3 3) (v.s 3 4) (v.s 3 5) (v.i 3 6) (v.i 3 7) (v.i 3 8) (v.i 3 9) (v.i 3 10) (v.i 3 11) (v.i 3 12) (qzd (v.i 56 0) (v.b 3 0) (v.i 3 1) (v.i 3 2) (v.s 3 3) (v.s 3 4) (v.s 3 5) (v.i 3 6) (v.i 3 7) (v.i 3 8) (v.i 3 9) (v.i 3 10) (v.i 3 11) (v.i 3 12) K)) (by kernel_rfl) (fun _ _ => (by kernel_rfl))
def qku (v0 : Int) (Bb : Bool) (Bc Bd : Int) (Be Bf Bg : List UInt8) (Bh Bi Bj Bl Bm Bn Bo : Int) : Option ((List UInt8) × Int) :=
  (oB (qgr v0) fun r1 => (bif (!r1) then (some (([] : List UInt8), (4 : Int))) else (oB (qlu v0 Bb Bc Bd Be Bf Bg Bh Bi Bj Bl Bm Bn Bo) fun r2 => (bif (!r2) then (some (([] : List UInt8), (5 : Int))) else (qsk v0 Bb Bc Bd Be Bf Bg Bh Bi Bj Bl Bm Bn Bo (fun v15q3 => (bif v15q3 then (oB (qbdj Bb Bc Bd) fun r4 => (some (r4.1, r4.2))) else (bif (v0 == (6 : Int)) then (oB (qep Be) fun r5 => (oB (qep Bf) fun r6 => (bif decide (r5.length + r6.length ≤ 9223372036854775807) then (oB (qi Bh (4 : Int)) fun r7 => (bif decide ((r5 ++ r6).length + r7.length ≤ 9223372036854775807) then (oB (qi Bi (4 : Int)) fun r8 => (bif decide (((r5 ++ r6) ++ r7).length + r8.length ≤ 9223372036854775807) then (oB (qi Bj (4 : Int)) fun r9 => (bif decide ((((r5 ++ r6) ++ r7) ++ r8).length + r9.length ≤ 9223372036854775807) then (oB (qi Bl (4 : Int)) fun r10 => (bif decide (((((r5 ++ r6) ++ r7) ++ r8) ++ r9).length + r10.length ≤ 9223372036854775807) then (oB (qi Bm (4 : Int)) fun r11 => (bif decide ((((((r5 ++ r6) ++ r7) ++ r8) ++ r9) ++ r10).length + r11.length ≤ 9223372036854775807) then (some (((((((r5 ++ r6) ++ r7) ++ r8) ++ r9) ++ r10) ++ r11), (0 : Int))) else none)) else none)) else none)) else none)) else none)) else none))) else (bif (v0 == (15 : Int)) then (oB (qi Bh (2 : Int)) fun r12 => (oB (qep Be) fun r13 => (bif decide (r12.length + r13.length ≤ 9223372036854775807) then (some ((r12 ++ r13), (0 : Int))) else none))) else (bif (v0 == (16 : Int)) then (oB (qi (Bg.length : Int) (1 : Int)) fun r14 => (bif decide (r14.length + Bg.length ≤ 9223372036854775807) then (some ((r14 ++ Bg), (0 : Int))) else none)) else (bif (v0 == (33 : Int)) then (oB (qi Bh (2 : Int)) fun r15 => (oB (qi Bi (2 : Int)) fun r16 => (bif decide (r15.length + r16.length ≤ 9223372036854775807) then (oB (qi Bj (2 : Int)) fun r17 => (bif decide ((r15 ++ r16).length + r17.length ≤ 9223372036854775807) then (oB (qep Be) fun r18 => (bif decide (((r15 ++ r16) ++ r17).length + r18.length ≤ 9223372036854775807) then (some ((((r15 ++ r16) ++ r17) ++ r18), (0 : Int))) else none)) else none)) else none))) else (qsl v0 Bb Bc Bd Be Bf Bg Bh Bi Bj Bl Bm Bn Bo (fun v87q19 => (bif v87q19 then (oB (qi Bh (2 : Int)) fun r20 => (oB (qi Bi (1 : Int)) fun r21 => (bif decide (r20.length + r21.length ≤ 9223372036854775807) then (oB (qi Bj (1 : Int)) fun r22 => (bif decide ((r20 ++ r21).length + r22.length ≤ 9223372036854775807) then (bif decide (((r20 ++ r21) ++ r22).length + Bg.length ≤ 9223372036854775807) then (some ((((r20 ++ r21) ++ r22) ++ Bg), (0 : Int))) else none) else none)) else none))) else (bif (v0 == (46 : Int)) then (oB (qi Bh (2 : Int)) fun r23 => (oB (qi (253 : Int) (1 : Int)) fun r24 => (bif decide (r23.length + r24.length ≤ 9223372036854775807) then (oB (qi Bi (1 : Int)) fun r25 => (bif decide ((r23 ++ r24).length + r25.length ≤ 9223372036854775807) then (oB (qi Bj (4 : Int)) fun r26 => (bif decide (((r23 ++ r24) ++ r25).length + r26.length ≤ 9223372036854775807) then (oB (qi Bl (4 : Int)) fun r27 => (bif decide ((((r23 ++ r24) ++ r25) ++ r26).length + r27.length ≤ 9223372036854775807) then (oB (qi Bm (4 : Int)) fun r28 => (bif decide (((((r23 ++ r24) ++ r25) ++ r26) ++ r27).length + r28.length ≤ 9223372036854775807) then (oB (qi Bn (2 : Int)) fun r29 => (bif decide ((((((r23 ++ r24) ++ r25) ++ r26) ++ r27) ++ r28).length + r29.length ≤ 9223372036854775807) then (oB (qep Be) fun r30 => (bif decide (((((((r23 ++ r24) ++ r25) ++ r26) ++ r27) ++ r28) ++ r29).length + r30.length ≤ 9223372036854775807) then (bif decide ((((((((r23 ++ r24) ++ r25) ++ r26) ++ r27) ++ r28) ++ r29) ++ r30).length + Bg.length ≤ 9223372036854775807) then (some (((((((((r23 ++ r24) ++ r25) ++ r26) ++ r27) ++ r28) ++ r29) ++ r30) ++ Bg), (0 : Int))) else none) else none)) else none)) else none)) else none)) else none)) else none)) else none))) else (bif (v0 == (47 : Int)) then none else (oB (qep Be) fun r31 => (some (r31, (0 : Int))))))))))))))))))))
def qrw := hull qku
theorem q7v : qrw = qku := qa _
def q83 {R : Type} : EntF Tryz.prog R := entB (nt := 157) (dec := qmj) (enc := (fun r => .tup [.str r.1, .int .i64 r.2])) tabOk follows Tryz.func85 [.t 4, .t 5] (hdeN fun _ => rfl) (.s .z (.s (.s (.r [(1, .c qjk.b)] []) .z) (.s (.s (.r [(2, .c qtt.b)] []) .z) (.s (.s .z (.b (.s (.sub [.sel [3, 14] [0]] q19 []) (.s (.s (.r [(2, .c q82.b)] []) .z) (.s .z (.s (.s (.d [] [(2, .c qcw.b), (5, .c qcw.b), (9, .c qj.b), (13, .c qj.b), (17, .c qj.b), (21, .c qj.b), (25, .c qj.b)] [] []) .z) (.s .z (.s (.s (.d [] [(2, .c qj.b)] [(0, .c qcw.b)] []) .z) (.s .z (.s (.s (.d [] [(3, .c qj.b)] [] []) .z) (.s .z (.s (.s (.d [] [(2, .c qj.b), (5, .c qj.b), (9, .c qj.b), (13, .c qcw.b)] [] []) .z) (.s (.sub [.sel [3, 14] [0]] q2a []) (.s (.s (.d [] [(2, .c qj.b), (5, .c qj.b), (9, .c qj.b)] [] []) .z) (.s .z (.s (.s (.d [] [(2, .c qj.b), (3, .c qj.b), (7, .c qj.b), (11, .c qj.b), (15, .c qj.b), (19, .c qj.b), (23, .c qj.b), (27, .c qcw.b)] [] []) .z) (.s .z (.s (.s (.r [(2, .c (eK (qbag (f := 123))))] []) .z) .z)))))))))))))))))) (.s (.r [(2, .c qcw.b)] []) .z))))) S34_ qku (fun f v => f (v.i 0 0) (v.b 5 0) (v.i 5 1) (v.i 5 2) (v.s 5 3) (v.s 5 4) (v.s 5 5) (v.i 5 6) (v.i 5 7) (v.i 5 8) (v.i 5 9) (v.i 5 10) (v.i 5 11) (v.i 5 12)) (by kernel_rfl) (by kernel_rfl) (by kernel_rfl) fun _ => (by kernel_rfl)
def qqa  (K : Ex → Env → Mem → Option Int) := (fun z_v3 => K (.exit 0) (qe [(3, (.int .i64 z_v3))]) (qd []))
def qgc  (v0 : List UInt8) (v3 v4 : Int) (next : Int → Int → Option Int) (kx0 : Int → Option Int) : Option Int :=
  (bif (decide (v4 < (v0.length : Int))) then (bif ((v4.tmod (2 : Int)) == (0 : Int)) then (oB (ixB v0 v4) fun c1 => (next (IntKind.i64.wrap (v3 + (IntKind.i64.wrap ((256 : Int) * (IntKind.i64.wrap (c1.toNat : Int)))))) (IntKind.i64.wrap (v4 + (1 : Int))))) else (oB (ixB v0 v4) fun c2 => (next (IntKind.i64.wrap (v3 + (IntKind.i64.wrap (c2.toNat : Int)))) (IntKind.i64.wrap (v4 + (1 : Int)))))) else (kx0 v3))
def qgd  (v0 : List UInt8) (kx0 : Int → Option Int) : Nat → Int → Int → Option Int
  | 0 => (fun _ _ => none)
  | n + 1 => (fun v3 v4 => qgc v0 v3 v4 (qgd v0 kx0 n) kx0)
def qvk := hull (qgd)
theorem q30 : qvk = qgd := qa _
def q6l : SubB Tryz.prog (TIof Tryz.prog) 34 0 (kret [.t 2] (decI .i64)) := lpB tabOk follows Tryz.f86 75 (.s (.s .z (.s .z (.v [.sel [3] []]))) (.s .z (.v [.sel [0, 3, 4] []]))) S39_ (qgd) (fun f v K n => f (v.s 0 0) (qqa K) n) (fun v f K => qgc (v.s 0 0) (v.i 12 0) (v.i 16 0) f (qqa K)) (fun f v => f (v.i 12 0) (v.i 16 0)) (fun k v => (fun z0 z1 => k ((v.ui 12 0 z0).ui 16 0 z1))) (by kernel_rfl) (fun _ _ => (by kernel_rfl)) (fun _ _ _ => (by kernel_rfl)) (fun _ _ _ => (by kernel_rfl)) (fun _ _ => (by kernel_rfl)) (fun _ _ _ _ _ => (by kernel_rfl))
def qlv (v0 : List UInt8) : Option Int :=
  (qvk v0 (fun v3q1 => (some ((IntKind.i64.wrap (v3q1 + ((IntKind.i64.wrap (v3q1.tdiv (65536 : Int))).tmod (65536 : Int)))).tmod (65536 : Int)))) FU (0 : Int) (0 : Int))
def qtu := hull qlv
theorem q84 : qtu = qlv := qa _
def qba8 {R : Type} : EntF Tryz.prog R := entB (nt := 34) (dec := (decI .i64)) (enc := (AV.int .i64)) tabOk follows Tryz.func86 [.t 2] hdeI (.s .z (.s .z (.s (.s .z (.b (.sub [.sel [0, 3, 4] []] q6l []))) .z))) S16_ qlv (fun f v => f (v.s 0 0)) (by kernel_rfl) (by kernel_rfl) (by kernel_rfl) fun _ => (by kernel_rfl)
def qlw (Aa : Bool) (Ab Ac : Int) (Ad Ae Af : List UInt8) (Ag Bp Bq Br Bs Bt Bu : Int) : Option Int :=
  (oB (qlu (48 : Int) Aa Ab Ac Ad Ae Af Ag Bp Bq Br Bs Bt Bu) fun r1 => (bif (!r1) then (some (0 : Int)) else (oB (qrw (48 : Int) Aa Ab Ac Ad Ae Af Ag Bp Bq Br Bs Bt Bu) fun r2 => (oB (qtu r2.1) fun r3 => (some r3)))))
def qtv := hull qlw
theorem q85 : qtv = qlw := qa _
def qba9 {R : Type} : EntF Tryz.prog R := entB (nt := 15) (dec := (decI .i64)) (enc := (AV.int .i64)) tabOk follows Tryz.func63 [.t 2] hdeI (.s .z (.s (.s (.r [(1, .c qtt.b)] []) .z) (.s (.r [(1, .c q83.b)] []) (.s (.r [(1, .c qba8.b)] []) .z)))) S40_ qlw (fun f v => f (v.b 1 0) (v.i 1 1) (v.i 1 2) (v.s 1 3) (v.s 1 4) (v.s 1 5) (v.i 1 6) (v.i 1 7) (v.i 1 8) (v.i 1 9) (v.i 1 10) (v.i 1 11) (v.i 1 12)) (by kernel_rfl) (by kernel_rfl) (by kernel_rfl) fun _ => (by kernel_rfl)
def qlx (Aa : List UInt8) (Ab : Bool) (Ac : Int) : Option Int :=
  (oB (qng Aa Ab Ac) fun r1 => (oB (qtv (gB r1.1.cells 0) (gI r1.1.cells 1) (gI r1.1.cells 2) (gS r1.1.cells 3) (gS r1.1.cells 4) (gS r1.1.cells 5) (gI r1.1.cells 6) (gI r1.1.cells 7) (gI r1.1.cells 8) (gI r1.1.cells 9) (gI r1.1.cells 10) (gI r1.1.cells 11) (gI r1.1.cells 12)) fun r2 => (some r2)))
def qpe := hull qlx
theorem q86 : qpe = qlx := qa _
def qxj {R : Type} : EntF Tryz.prog R := entB (nt := 12) (dec := (decI .i64)) (enc := (AV.int .i64)) tabOk follows Tryz.func43 [.t 2] hdeI (.s .z (.s (.r [(1, .c qvh.b)] []) (.s (.r [(1, .c qba9.b)] []) .z))) S25_ qlx (fun f v => f (v.s 1 0) (v.b 1 1) (v.i 1 2)) (by kernel_rfl) (by kernel_rfl) (by kernel_rfl) fun _ => (by kernel_rfl)
def S65_ : Shp := ⟨[(0, .one (.l (.sl 7))), (3, .one (.l (.i .i64))), (4, .one (.ptr 0 0)), (6, .one (.l (.i .i64)))], [.box true (lk qb)]⟩
def S66_ : Shp := ⟨[(0, .one (.l (.sl 7))), (3, .one (.l (.i .i64))), (4, .one (.ptr 0 0)), (7, .one (.l (.i .i64)))], [.box true (lk qb)]⟩
def S67_ : Shp := ⟨[(0, .one (.l (.sl 7))), (3, .one (.l (.i .i64)))], []⟩
def qxk  (v0 : List AV) (v3 : Int) (Al : List UInt8) (Am : Bool) (An A1 A2 A3 A4 : Int) (K : Ex → Env → Mem → Option Int) := (fun z_v39 => K .norm (qe [(0, (.sl 7 v0)), (3, (.int .i64 v3)), (4, (.ptr 0 0)), (39, (.bool z_v39))]) (qd [(some (.box true (qca Al Am An A1 A2 A3 A4)))]))
def qgk  (v0 : List AV) (v3 v6 : Int) (Al : List UInt8) (Am : Bool) (An A1 A2 A3 A4 : Int) (kn : Bool → Option Int) : Option Int :=
  (bif (v6 != (0 : Int)) then (kn true) else (oB (ixB v0 (0 : Int)) fun y1 => (bif fitC qb y1.cells then (kn (!(Al == (gS y1.cells 0)))) else none)))
def qrf := hull (qgk)
theorem qxl : qrf = qgk := qa _
def qzf : SubB Tryz.prog (TIof Tryz.prog) 84 0 (kret [.t 2] (decI .i64)) := jnB tabOk follows Tryz.f23 9803 (.d [] [(7, .e 34 qb)] [] [.sel [0, 3, 4, 39] [0]]) S65_ (qgk) (fun f v K => f (v.l 0 0) (v.i 12 0) (v.i 24 0) (v.s 3 0) (v.b 3 1) (v.i 3 2) (v.i 3 3) (v.i 3 4) (v.i 3 5) (v.i 3 6) (qxk (v.l 0 0) (v.i 12 0) (v.s 3 0) (v.b 3 1) (v.i 3 2) (v.i 3 3) (v.i 3 4) (v.i 3 5) (v.i 3 6) K)) (by kernel_rfl) (fun _ _ => (by kernel_rfl))
def qm3  (v0 : List AV) (v3 : Int) (Al : List UInt8) (Am : Bool) (An A1 A2 A3 A4 : Int) (K : Ex → Env → Mem → Option Int) := (fun (_ : Unit) => K (.exit 2) (qe [(0, (.sl 7 v0)), (3, (.int .i64 v3)), (4, (.ptr 0 0))]) (qd [(some (.box true (qca Al Am An A1 A2 A3 A4)))]))
def qef  (v0 : List AV) (v3 v7 : Int) (Al : List UInt8) (Am : Bool) (An A1 A2 A3 A4 : Int) (next : Int → Option Int) (kx2 : Unit → Option Int) : Option Int :=
  (bif (decide (v7 < v3)) then (oB (ixB v0 v7) fun y1 => (bif fitC qb y1.cells then (oB (qpe (gS y1.cells 0) (gB y1.cells 1) (gI y1.cells 2)) fun r2 => (oB (qpe Al Am An) fun r3 => (bif (r2 == r3) then (some (18 : Int)) else (next (IntKind.i64.wrap (v7 + (1 : Int))))))) else none)) else (kx2 ()))
def qeg  (v0 : List AV) (v3 : Int) (Al : List UInt8) (Am : Bool) (An A1 A2 A3 A4 : Int) (kx2 : Unit → Option Int) : Nat → Int → Option Int
  | 0 => (fun _ => none)
  | n + 1 => (fun v7 => qef v0 v3 v7 Al Am An A1 A2 A3 A4 (qeg v0 v3 Al Am An A1 A2 A3 A4 kx2 n) kx2)
def qk8 := hull (qeg)
theorem qxm : qk8 = qeg := qa _
def qzg : SubB Tryz.prog (TIof Tryz.prog) 84 0 (kret [.t 2] (decI .i64)) := lpB tabOk follows Tryz.f23 77387 (.s (.s .z (.s .z (.v [.sel [0, 3, 4] [0]]))) (.s (.b (.s (.d [] [(2, .e 47 qb), (5, .c qxj.b)] [(0, .c qxj.b)] []) .z)) (.v [.sel [0, 3, 4, 7] [0]]))) S66_ (qeg) (fun f v K n => f (v.l 0 0) (v.i 12 0) (v.s 3 0) (v.b 3 1) (v.i 3 2) (v.i 3 3) (v.i 3 4) (v.i 3 5) (v.i 3 6) (qm3 (v.l 0 0) (v.i 12 0) (v.s 3 0) (v.b 3 1) (v.i 3 2) (v.i 3 3) (v.i 3 4) (v.i 3 5) (v.i 3 6) K) n) (fun v f K => qef (v.l 0 0) (v.i 12 0) (v.i 28 0) (v.s 3 0) (v.b 3 1) (v.i 3 2) (v.i 3 3) (v.i 3 4) (v.i 3 5) (v.i 3 6) f (qm3 (v.l 0 0) (v.i 12 0) (v.s 3 0) (v.b 3 1) (v.i 3 2) (v.i 3 3) (v.i 3 4) (v.i 3 5) (v.i 3 6) K)) (fun f v => f (v.i 28 0)) (fun k v => (fun z0 => k (v.ui 28 0 z0))) (by kernel_rfl) (fun _ _ => (by kernel_rfl)) (fun _ _ _ => (by kernel_rfl)) (fun _ _ _ => (by kernel_rfl)) (fun _ _ => (by kernel_rfl)) (fun _ _ _ _ _ => (by kernel_rfl))
def qm4  (K : Ex → Env → Mem → Option Int) := (fun (_ : Unit) => K (.exit 0) (qe []) (qd []))
def qeh  (v0 : List AV) (v3 : Int) (next : Int → Option Int) (kx0 : Unit → Option Int) : Option Int :=
  (bif (decide (v3 < (v0.length : Int))) then (oB (ixB v0 v3) fun y1 => (bif fitC qb y1.cells then (oB (qng (gS y1.cells 0) (gB y1.cells 1) (gI y1.cells 2)) fun r2 => (qrf v0 v3 r2.2 (gS y1.cells 0) (gB y1.cells 1) (gI y1.cells 2) (gI y1.cells 3) (gI y1.cells 4) (gI y1.cells 5) (gI y1.cells 6) (fun v39q3 => (bif v39q3 then (some (18 : Int)) else (qk8 v0 v3 (gS y1.cells 0) (gB y1.cells 1) (gI y1.cells 2) (gI y1.cells 3) (gI y1.cells 4) (gI y1.cells 5) (gI y1.cells 6) (fun (_ : Unit) => (bif (((((decide ((gI y1.cells 3) < (0 : Int))) || (decide ((gI y1.cells 3) > (gI y1.cells 4)))) || (decide ((gI y1.cells 4) > (gI y1.cells 5)))) || (decide ((gI y1.cells 5) > (gI y1.cells 6)))) || (decide ((gI y1.cells 6) > (4294967295 : Int)))) then (some (20 : Int)) else (next (IntKind.i64.wrap (v3 + (1 : Int)))))) FU (0 : Int)))))) else none)) else (kx0 ()))
def qcu  (v0 : List AV) (kx0 : Unit → Option Int) : Nat → Int → Option Int
  | 0 => (fun _ => none)
  | n + 1 => (fun v3 => qeh v0 v3 (qcu v0 kx0 n) kx0)
def qrg := hull (qcu)
theorem qxn : qrg = qcu := qa _
def qzh : SubB Tryz.prog (TIof Tryz.prog) 84 0 (kret [.t 2] (decI .i64)) := lpB tabOk follows Tryz.f23 75 (.s (.s .z (.s .z (.v [.sel [] []]))) (.s (.b (.s (.r [(2, .p (.etac 19 qb))] []) (.s (.r [(2, .c qvh.b)] []) (.s (.s (.sub [.sel [0, 3, 4, 6] [0]] qzf []) .z) (.s (.s .z (.b (.sub [.sel [0, 3, 4, 7] [0]] qzg []))) (.s (.r [(4, .g 5), (11, .g 5), (18, .g 5), (25, .g 3)] []) .z)))))) (.v [.sel [0, 3] []]))) S67_ (qcu) (fun f v K n => f (v.l 0 0) (qm4 K) n) (fun v f K => qeh (v.l 0 0) (v.i 12 0) f (qm4 K)) (fun f v => f (v.i 12 0)) (fun k v => (fun z0 => k (v.ui 12 0 z0))) (by kernel_rfl) (fun _ _ => (by kernel_rfl)) (fun _ _ _ => (by kernel_rfl)) (fun _ _ _ => (by kernel_rfl)) (fun _ _ => (by kernel_rfl)) (fun _ _ _ _ _ => (by kernel_rfl))
def qjn (v0 : List AV) : Option Int :=
  (bif (decide ((v0.length : Int) > (16 : Int))) then (some (9 : Int)) else (qrg v0 (fun (_ : Unit) => (some (0 : Int))) FU (0 : Int)))
def qqh := hull qjn
theorem q6m : qqh = qjn := qa _
def q7w {R : Type} : EntF Tryz.prog R := entB (nt := 84) (dec := (decI .i64)) (enc := (AV.int .i64)) tabOk follows Tryz.func23 [.t 2] hdeI (.s .z (.s .z (.s (.s .z (.b (.sub [.sel [0, 3] []] qzh []))) .z))) S1_ qjn (fun f v => f (v.l 0 0)) (by kernel_rfl) (by kernel_rfl) (by kernel_rfl) fun _ => (by kernel_rfl)
def S68_ : Shp := ⟨[(0, .st (lk qb)), (1, .one (.l (.i .i64)))], []⟩
def qjo (Aa : List UInt8) (Ab : Bool) (Ac Ad Ae Af Ag v1 : Int) : Option Bool :=
  (some ((decide (Ad ≤ v1)) && (decide (v1 < Ag))))
def qh4 := hull qjo
theorem qxo : qh4 = qjo := qa _
def qpf {R : Type} : EntF Tryz.prog R := entB (nt := 15) (dec := decB) (enc := AV.bool) tabOk follows Tryz.func39 [.t 4] hdeB (.s .z (.s (.r [(5, .g 4)] []) .z)) S68_ qjo (fun f v => f (v.s 1 0) (v.b 1 1) (v.i 1 2) (v.i 1 3) (v.i 1 4) (v.i 1 5) (v.i 1 6) (v.i 4 0)) (by kernel_rfl) (by kernel_rfl) (by kernel_rfl) fun _ => (by kernel_rfl)
def S70_ : Shp := ⟨[(0, .st (lk qb)), (1, .one (.ptr 0 0))], [.box true [(.l (.i .i64))], .arr true 3, .box true (lk qb)]⟩
def qsu {R : Type} (KK : AV → Mem → Option R) := (fun v3 Al a1 Bv Bw Bx By Bz B0 B1 => KK (.bool v3) (qd [(some (.box true [(.int .i64 Al)])), (some (.arr true 3 a1)), (some (.box true (qca Bv Bw Bx By Bz B0 B1)))]))
def qei {R : Type}  (Aa : List UInt8) (Ab : Bool) (Ac Ad Ae Af Ag Al : Int) (a1 : List AV) (Bv : List UInt8) (Bw : Bool) (Bx By Bz B0 B1 : Int) (kr : Bool → Int → (List AV) → (List UInt8) → Bool → Int → Int → Int → Int → Int → Option R) : Option R :=
  (oB (qh4 Aa Ab Ac Ad Ae Af Ag Al) fun r1 => (kr r1 Al a1 Bv Bw Bx By Bz B0 B1))
def qie {R : Type} := hull (qei (R := R))
theorem qsv {R : Type} : qie (R := R) = qei := qa _
def qtw {R : Type} : RefB Tryz.prog R := refB (nt := 7) (nb := 3) tabOk follows Tryz.func38 [.t 3] (fun KK => .s .z (.s (.r [(2, .c qpf.b)] []) (.v [.sel [3] [0, 1, 2]]))) S70_ (qei (R := R)) (fun f v KK => f (v.s 1 0) (v.b 1 1) (v.i 1 2) (v.i 1 3) (v.i 1 4) (v.i 1 5) (v.i 1 6) (v.i 3 0) (v.r 1) (v.s 11 0) (v.b 11 1) (v.i 11 2) (v.i 11 3) (v.i 11 4) (v.i 11 5) (v.i 11 6) (qsu KK)) (by kernel_rfl) (by kernel_rfl) (fun _ => (by kernel_rfl)) rfl fun _ _ => (by kernel_rfl)
def S71_ : Shp := ⟨[(1, .one (.fn 38 [(0, 0)])), (5, .one (.own 1)), (8, .one (.l (.sl 7))), (9, .one (.l (.i .i64))), (10, .one (.l (.i .i64)))], [.box true [(.l (.i .i64))], .arr true 3]⟩
def S72_ : Shp := ⟨[(0, .one (.l (.sl 7))), (1, .one (.fn 38 [(0, 0)]))], [.box true [(.l (.i .i64))]]⟩
def qdt {R : Type}  (K : Ex → Env → Mem → Option R) := (fun z_b0_0 z_a1 => K (.exit 0) (qe [(5, (.own 1 z_a1.length))]) (qd [(some (.box true [(.int .i64 z_b0_0)])), (some (.arr true 3 z_a1))]))
def qbe {R : Type}  (v8 : List AV) (v9 v10 Al : Int) (a1 : List AV) (next : Int → Int → (List AV) → Option R) (kx0 : Int → (List AV) → Option R) : Option R :=
  (bif (decide (v10 < v9)) then (oB (ixB v8 v10) fun y1 => (bif fitC qb y1.cells then (qie (gS y1.cells 0) (gB y1.cells 1) (gI y1.cells 2) (gI y1.cells 3) (gI y1.cells 4) (gI y1.cells 5) (gI y1.cells 6) Al a1 (gS y1.cells 0) (gB y1.cells 1) (gI y1.cells 2) (gI y1.cells 3) (gI y1.cells 4) (gI y1.cells 5) (gI y1.cells 6) fun v3q2 b0_0q3 a1q4 b2_0q5 b2_1q6 b2_2q7 b2_3q8 b2_4q9 b2_5q10 b2_6q11 => (bif v3q2 then (bif hd a1q4 a1.length then (bif hd ([(.agg [(.str b2_0q5), (.bool b2_1q6), (.int .i64 b2_2q7)])] : List AV) (([(.agg [(.str b2_0q5), (.bool b2_1q6), (.int .i64 b2_2q7)])] : List AV).length) then (bif decide ((a1q4.length + ([(.agg [(.str b2_0q5), (.bool b2_1q6), (.int .i64 b2_2q7)])] : List AV).length) * 32 ≤ 140737488355328) then (bif hd (a1q4 ++ ([(.agg [(.str b2_0q5), (.bool b2_1q6), (.int .i64 b2_2q7)])] : List AV)) ((a1q4 ++ ([(.agg [(.str b2_0q5), (.bool b2_1q6), (.int .i64 b2_2q7)])] : List AV)).length) then (next (IntKind.i64.wrap (v10 + (1 : Int))) b0_0q3 (a1q4 ++ ([(.agg [(.str b2_0q5), (.bool b2_1q6), (.int .i64 b2_2q7)])] : List AV))) else none) else none) else none) else none) else (bif hd a1q4 a1.length then (next (IntKind.i64.wrap (v10 + (1 : Int))) b0_0q3 a1q4) else none))) else none)) else (kx0 Al a1))
def qbf {R : Type}  (v8 : List AV) (v9 : Int) (kx0 : Int → (List AV) → Option R) : Nat → Int → Int → (List AV) → Option R
  | 0 => (fun _ _ _ => none)
  | n + 1 => (fun v10 Al a1 => qbe v8 v9 v10 Al a1 (qbf v8 v9 kx0 n) kx0)
def qe0 {R : Type} := hull (qbf (R := R))
theorem qi7 {R : Type} : qe0 (R := R) = qbf := qa _
def qjp {R : Type} (KK : AV → Mem → Option R) : SubB Tryz.prog (TIof Tryz.prog) 24 1 (qf4 [.t 4] KK) := lpB tabOk follows Tryz.f37 75 (.s .z (.s (.s .z (.v [.sel [5] [0, 1]])) (.s (.b (.s (.r [(0, .p (.etac 12 qb))] []) (.s (.r [(2, .s (.sel [1, 5, 7, 8, 9, 10, 14, 15] [0, 1, 2])), (2, .r qtw)] []) .z))) (.v [.hd 5, .sel [1, 5, 8, 9, 10] [0, 1]])))) S71_ (qbf (R := R)) (fun f v K n => f (v.l 32 0) (v.i 36 0) (qdt K) n) (fun v f K => qbe (v.l 32 0) (v.i 36 0) (v.i 40 0) (v.i 3 0) (v.r 1) f (qdt K)) (fun f v => f (v.i 40 0) (v.i 3 0) (v.r 1)) (fun k v => (fun z0 z1 z2 => k (((v.ui 40 0 z0).ui 3 0 z1).ur 1 z2))) (by kernel_rfl) (fun _ _ => (by kernel_rfl)) (fun _ _ _ => (by kernel_rfl)) (fun _ _ _ => (by kernel_rfl)) (fun _ _ => (by kernel_rfl)) (fun _ _ _ _ _ => (by kernel_rfl))
def qkf {R : Type} (KK : AV → Mem → Option R) := (fun Al a1 => KK (.own 1 a1.length) (qd [(some (.box true [(.int .i64 Al)])), (some (.arr true 3 a1))]))
def qb3 {R : Type}  (v0 : List AV) (Al : Int) (kr : Int → (List AV) → Option R) : Option R :=
  (bif (hd ([] : List AV) (([] : List AV).length) && true) then (qe0 v0 (v0.length : Int) (fun b0_0q1 a1q2 => (kr b0_0q1 a1q2)) FU (0 : Int) Al ([] : List AV)) else none)
def qcv {R : Type} := hull (qb3 (R := R))
theorem qkg {R : Type} : qcv (R := R) = qb3 := qa _
def qk1 {R : Type} : RefB Tryz.prog R := refB (nt := 24) (nb := 1) tabOk follows Tryz.func37 [.t 4] (fun KK => .s .z (.s .z (.s (.s .z (.b (.sub [.own 5 3, .sel [1, 5, 8, 9, 10] [0, 1]] (qjp KK) []))) (.s .z (.v [.sel [4] [0, 1]]))))) S72_ (qb3 (R := R)) (fun f v KK => f (v.l 0 0) (v.i 3 0) (qkf KK)) (by kernel_rfl) (by kernel_rfl) (fun _ => (by kernel_rfl)) rfl fun _ _ => (by kernel_rfl)
def qgl (v0 : List AV) (v1 : Int) : Option (List AV) :=
  (qcv v0 v1 fun b0_0q1 a1q2 => (bif hd a1q2 a1q2.length then (some a1q2) else none))
def qfx := hull qgl
theorem qxp : qfx = qgl := qa _
def qzi {R : Type} : EntF Tryz.prog R := entB (nt := 8) (dec := (decF true 3)) (enc := (AV.fr true 3)) tabOk follows Tryz.func19 [.t 4] hdeF (.s .z (.s (.r [(2, .s (.sel [5, 6] [0])), (2, .r qk1)] []) .z)) S6_ qgl (fun f v => f (v.l 0 0) (v.i 4 0)) (by kernel_rfl) (by kernel_rfl) (by kernel_rfl) fun _ => (by kernel_rfl)
def qjq (Aa : List UInt8) (Ab : Bool) (Ac Ad Ae Af Ag v1 : Int) : Option Bool :=
  (some ((decide (Ad ≤ v1)) && (decide (v1 < Ag))))
def qk9 := hull qjq
theorem qxq : qk9 = qjq := qa _
def qzj {R : Type} : EntF Tryz.prog R := entB (nt := 15) (dec := decB) (enc := AV.bool) tabOk follows Tryz.func44 [.t 4] hdeB (.s .z (.s (.r [(5, .g 4)] []) .z)) S68_ qjq (fun f v => f (v.s 1 0) (v.b 1 1) (v.i 1 2) (v.i 1 3) (v.i 1 4) (v.i 1 5) (v.i 1 6) (v.i 4 0)) (by kernel_rfl) (by kernel_rfl) (by kernel_rfl) fun _ => (by kernel_rfl)
def qnr (Aa : List UInt8) (Ab : Bool) (Ac Ad Ae Af Ag v1 : Int) : Option Bool :=
  (some ((decide (Ae ≤ v1)) && (decide (v1 < Af))))
def qgs := hull qnr
theorem q6n : qgs = qnr := qa _
def qjr {R : Type} : EntF Tryz.prog R := entB (nt := 15) (dec := decB) (enc := AV.bool) tabOk follows Tryz.func41 [.t 4] hdeB (.s .z (.s (.r [(5, .g 4)] []) .z)) S68_ qnr (fun f v => f (v.s 1 0) (v.b 1 1) (v.i 1 2) (v.i 1 3) (v.i 1 4) (v.i 1 5) (v.i 1 6) (v.i 4 0)) (by kernel_rfl) (by kernel_rfl) (by kernel_rfl) fun _ => (by kernel_rfl)
def quy {R : Type} (KK : AV → Mem → Option R) := (fun v3 Al a1 Bv Bw Bx By Bz B0 B1 => KK (.bool v3) (qd [(some (.box true [(.int .i64 Al)])), (some (.arr true 3 a1)), (some (.box true (qca Bv Bw Bx By Bz B0 B1)))]))
def qfq {R : Type}  (Aa : List UInt8) (Ab : Bool) (Ac Ad Ae Af Ag Al : Int) (a1 : List AV) (Bv : List UInt8) (Bw : Bool) (Bx By Bz B0 B1 : Int) (kr : Bool → Int → (List AV) → (List UInt8) → Bool → Int → Int → Int → Int → Int → Option R) : Option R :=
  (oB (qgs Aa Ab Ac Ad Ae Af Ag Al) fun r1 => (kr r1 Al a1 Bv Bw Bx By Bz B0 B1))
def qjs {R : Type} := hull (qfq (R := R))
theorem quz {R : Type} : qjs (R := R) = qfq := qa _
def qwd {R : Type} : RefB Tryz.prog R := refB (nt := 7) (nb := 3) tabOk follows Tryz.func40 [.t 3] (fun KK => .s .z (.s (.r [(2, .c qjr.b)] []) (.v [.sel [3] [0, 1, 2]]))) S70_ (qfq (R := R)) (fun f v KK => f (v.s 1 0) (v.b 1 1) (v.i 1 2) (v.i 1 3) (v.i 1 4) (v.i 1 5) (v.i 1 6) (v.i 3 0) (v.r 1) (v.s 11 0) (v.b 11 1) (v.i 11 2) (v.i 11 3) (v.i 11 4) (v.i 11 5) (v.i 11 6) (quy KK)) (by kernel_rfl) (by kernel_rfl) (fun _ => (by kernel_rfl)) rfl fun _ _ => (by kernel_rfl)
def S76_ : Shp := ⟨[(1, .one (.fn 40 [(0, 0)])), (5, .one (.own 1)), (8, .one (.l (.sl 7))), (9, .one (.l (.i .i64))), (10, .one (.l (.i .i64)))], [.box true [(.l (.i .i64))], .arr true 3]⟩
def S77_ : Shp := ⟨[(0, .one (.l (.sl 7))), (1, .one (.fn 40 [(0, 0)]))], [.box true [(.l (.i .i64))]]⟩
def qej {R : Type}  (K : Ex → Env → Mem → Option R) := (fun z_b0_0 z_a1 => K (.exit 0) (qe [(5, (.own 1 z_a1.length))]) (qd [(some (.box true [(.int .i64 z_b0_0)])), (some (.arr true 3 z_a1))]))
def qbj {R : Type}  (v8 : List AV) (v9 v10 Al : Int) (a1 : List AV) (next : Int → Int → (List AV) → Option R) (kx0 : Int → (List AV) → Option R) : Option R :=
  (bif (decide (v10 < v9)) then (oB (ixB v8 v10) fun y1 => (bif fitC qb y1.cells then (qjs (gS y1.cells 0) (gB y1.cells 1) (gI y1.cells 2) (gI y1.cells 3) (gI y1.cells 4) (gI y1.cells 5) (gI y1.cells 6) Al a1 (gS y1.cells 0) (gB y1.cells 1) (gI y1.cells 2) (gI y1.cells 3) (gI y1.cells 4) (gI y1.cells 5) (gI y1.cells 6) fun v3q2 b0_0q3 a1q4 b2_0q5 b2_1q6 b2_2q7 b2_3q8 b2_4q9 b2_5q10 b2_6q11 => (bif v3q2 then (bif hd a1q4 a1.length then (bif hd ([(.agg [(.str b2_0q5), (.bool b2_1q6), (.int .i64 b2_2q7)])] : List AV) (([(.agg [(.str b2_0q5), (.bool b2_1q6), (.int .i64 b2_2q7)])] : List AV).length) then (bif decide ((a1q4.length + ([(.agg [(.str b2_0q5), (.bool b2_1q6), (.int .i64 b2_2q7)])] : List AV).length) * 32 ≤ 140737488355328) then (bif hd (a1q4 ++ ([(.agg [(.str b2_0q5), (.bool b2_1q6), (.int .i64 b2_2q7)])] : List AV)) ((a1q4 ++ ([(.agg [(.str b2_0q5), (.bool b2_1q6), (.int .i64 b2_2q7)])] : List AV)).length) then (next (IntKind.i64.wrap (v10 + (1 : Int))) b0_0q3 (a1q4 ++ ([(.agg [(.str b2_0q5), (.bool b2_1q6), (.int .i64 b2_2q7)])] : List AV))) else none) else none) else none) else none) else (bif hd a1q4 a1.length then (next (IntKind.i64.wrap (v10 + (1 : Int))) b0_0q3 a1q4) else none))) else none)) else (kx0 Al a1))
def qbk {R : Type}  (v8 : List AV) (v9 : Int) (kx0 : Int → (List AV) → Option R) : Nat → Int → Int → (List AV) → Option R
  | 0 => (fun _ _ _ => none)
  | n + 1 => (fun v10 Al a1 => qbj v8 v9 v10 Al a1 (qbk v8 v9 kx0 n) kx0)
def qfy {R : Type} := hull (qbk (R := R))
theorem qj6 {R : Type} : qfy (R := R) = qbk := qa _
def qkh {R : Type} (KK : AV → Mem → Option R) : SubB Tryz.prog (TIof Tryz.prog) 24 1 (qf4 [.t 4] KK) := lpB tabOk follows Tryz.f37 75 (.s .z (.s (.s .z (.v [.sel [5] [0, 1]])) (.s (.b (.s (.r [(0, .p (.etac 12 qb))] []) (.s (.r [(2, .s (.sel [1, 5, 7, 8, 9, 10, 14, 15] [0, 1, 2])), (2, .r qwd)] []) .z))) (.v [.hd 5, .sel [1, 5, 8, 9, 10] [0, 1]])))) S76_ (qbk (R := R)) (fun f v K n => f (v.l 32 0) (v.i 36 0) (qej K) n) (fun v f K => qbj (v.l 32 0) (v.i 36 0) (v.i 40 0) (v.i 3 0) (v.r 1) f (qej K)) (fun f v => f (v.i 40 0) (v.i 3 0) (v.r 1)) (fun k v => (fun z0 z1 z2 => k (((v.ui 40 0 z0).ui 3 0 z1).ur 1 z2))) (by kernel_rfl) (fun _ _ => (by kernel_rfl)) (fun _ _ _ => (by kernel_rfl)) (fun _ _ _ => (by kernel_rfl)) (fun _ _ => (by kernel_rfl)) (fun _ _ _ _ _ => (by kernel_rfl))
def qla {R : Type} (KK : AV → Mem → Option R) := (fun Al a1 => KK (.own 1 a1.length) (qd [(some (.box true [(.int .i64 Al)])), (some (.arr true 3 a1))]))
def qcb {R : Type}  (v0 : List AV) (Al : Int) (kr : Int → (List AV) → Option R) : Option R :=
  (bif (hd ([] : List AV) (([] : List AV).length) && true) then (qfy v0 (v0.length : Int) (fun b0_0q1 a1q2 => (kr b0_0q1 a1q2)) FU (0 : Int) Al ([] : List AV)) else none)
def qc2 {R : Type} := hull (qcb (R := R))
theorem qlb {R : Type} : qc2 (R := R) = qcb := qa _
def qly {R : Type} : RefB Tryz.prog R := refB (nt := 24) (nb := 1) tabOk follows Tryz.func37 [.t 4] (fun KK => .s .z (.s .z (.s (.s .z (.b (.sub [.own 5 3, .sel [1, 5, 8, 9, 10] [0, 1]] (qkh KK) []))) (.s .z (.v [.sel [4] [0, 1]]))))) S77_ (qcb (R := R)) (fun f v KK => f (v.l 0 0) (v.i 3 0) (qla KK)) (by kernel_rfl) (by kernel_rfl) (fun _ => (by kernel_rfl)) rfl fun _ _ => (by kernel_rfl)
def qh5 (v0 : List AV) (v1 : Int) : Option (List AV) :=
  (qc2 v0 v1 fun b0_0q1 a1q2 => (bif hd a1q2 a1q2.length then (some a1q2) else none))
def qg0 := hull qh5
theorem q2b : qg0 = qh5 := qa _
def q31 {R : Type} : EntF Tryz.prog R := entB (nt := 8) (dec := (decF true 3)) (enc := (AV.fr true 3)) tabOk follows Tryz.func20 [.t 4] hdeF (.s .z (.s (.r [(2, .s (.sel [5, 6] [0])), (2, .r qly)] []) .z)) S6_ qh5 (fun f v => f (v.l 0 0) (v.i 4 0)) (by kernel_rfl) (by kernel_rfl) (by kernel_rfl) fun _ => (by kernel_rfl)
def qns (Aa : List UInt8) (Ab : Bool) (Ac Ad Ae Af Ag v1 : Int) : Option Bool :=
  (some ((decide (Ae ≤ v1)) && (decide (v1 < Af))))
def qi0 := hull qns
theorem q6o : qi0 = qns := qa _
def qnt {R : Type} : EntF Tryz.prog R := entB (nt := 15) (dec := decB) (enc := AV.bool) tabOk follows Tryz.func45 [.t 4] hdeB (.s .z (.s (.r [(5, .g 4)] []) .z)) S68_ qns (fun f v => f (v.s 1 0) (v.b 1 1) (v.i 1 2) (v.i 1 3) (v.i 1 4) (v.i 1 5) (v.i 1 6) (v.i 4 0)) (by kernel_rfl) (by kernel_rfl) (by kernel_rfl) fun _ => (by kernel_rfl)
end
end Go.Proofs.YtmoedhehjonnhaaGreatDoor.Dn
