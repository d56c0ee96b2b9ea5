import Derived.Test.YtmoedhehjonnhaaGreatDoorProg
import Derived.Test.YtmoedhehjonnhaaGreatDoorRoLibD
import Derived.Test.YtmoedhehjonnhaaGreatDoorRoPl22
import Derived.Test.YtmoedhehjonnhaaGreatDoorRoLy22
set_option linter.all false
namespace Go.Proofs.YtmoedhehjonnhaaGreatDoor.Dn
open Go Go.Pev
set_option linter.unusedVariables false
set_option linter.unusedSimpArgs false
set_option maxRecDepth 100000
set_option maxHeartbeats 4000000
theorem zT : True := True.intro
theorem zA {a b : Prop} (x : a) (y : b) : a ∧ b := ⟨x, y⟩
theorem tabOk : Tab.ok (TIof Tryz.prog) Tryz.prog := fun _ _ h => h
theorem follows : Tryz.prog.follows .mixedOrders = true := by kernel_rfl
def qc : List LT := [.s, .b, (.i .i64), (.i .i64), (.i .i64), (.i .i64), (.i .i64)]
def S1_ : Shp := ⟨[(0, .one (.l (.sl 7)))], []⟩
def S2_ : Shp := ⟨[(0, .st (lk qc))], []⟩
noncomputable section
def qjx (Aa : List UInt8) (Ab : Bool) (Ac Ad Ae Af Ag : Int) : Option AV :=
  (some (.agg [(.int .i64 Ad), (.int .i64 Ae), (.int .i64 Af), (.int .i64 Ag)]))
def qel := hull qjx
theorem qwk : qel = qjx := qb _
def qjy {R : Type} : EntF Tryz.prog R := entB (nt := 12) (dec := (decT [(.i .i64), (.i .i64), (.i .i64), (.i .i64)])) (enc := (qnw (.st [(.i .i64), (.i .i64), (.i .i64), (.i .i64)]))) tabOk follows Tryz.func35 [(.cell 2 true 4)] hdeT (.z) S2_ qjx (fun f v => f (v.s 1 0) (v.b 1 1) (v.i 1 2) (v.i 1 3) (v.i 1 4) (v.i 1 5) (v.i 1 6)) (by kernel_rfl) (by kernel_rfl) (by kernel_rfl) fun _ => (by kernel_rfl)
def qv5 : List LT := [(.i .i64), (.i .i64), (.i .i64), (.i .i64)]
def qys (x0 x1 x2 x3 : Int) : List AV := [.int .i64 x0, .int .i64 x1, .int .i64 x2, .int .i64 x3]
def S3_ : Shp := ⟨[(1, .one (.l (.i .i64))), (6, .one (.l (.i .i64))), (7, .one (.l .b)), (11, .one (.l (.i .i64))), (12, .one (.l (.sl 7))), (13, .one (.l (.i .i64))), (14, .one (.l (.i .i64))), (19, .st (lk qv5)), (20, .one (.l (.i .i64)))], []⟩
def S4_ : Shp := ⟨[(1, .one (.l (.i .i64))), (6, .one (.l (.i .i64))), (7, .one (.l .b)), (12, .one (.l (.sl 7))), (13, .one (.l (.i .i64))), (14, .one (.l (.i .i64))), (19, .st (lk qv5)), (20, .one (.l (.i .i64)))], []⟩
def S5_ : Shp := ⟨[(1, .one (.l (.i .i64))), (6, .one (.l (.i .i64))), (7, .one (.l .b)), (12, .one (.l (.sl 7))), (13, .one (.l (.i .i64))), (14, .one (.l (.i .i64)))], []⟩
def S6_ : Shp := ⟨[(0, .one (.l (.sl 7))), (1, .one (.l (.i .i64)))], []⟩
def qgg : AV → Option (Int × Bool) := decN [(.one (.i .i64)), (.one .b)] fun z => (aI (gC (tpL z) 0), aB (gC (tpL z) 1))
def qrr  (v1 v6 : Int) (v7 : Bool) (v11 : Int) (v12 : List AV) (v13 v14 Ah Ai Aj Ak v20 : Int) (K : Ex → Env → Mem → Option (Int × Bool)) := (fun z_v34 => K .norm (ql [(1, (.int .i64 v1)), (6, (.int .i64 v6)), (7, (.bool v7)), (11, (.int .i64 v11)), (12, (.sl 7 v12)), (13, (.int .i64 v13)), (14, (.int .i64 v14)), (19, .agg (qys Ah Ai Aj Ak)), (20, (.int .i64 v20)), (34, (.bool z_v34))]) (qf []))
def qfn  (v1 v6 : Int) (v7 : Bool) (v11 : Int) (v12 : List AV) (v13 v14 Ah Ai Aj Ak v20 : Int) (kn : Bool → Option (Int × Bool)) : Option (Int × Bool) :=
  (bif (decide (v11 > v1)) then (bif (!v7) then (kn true) else (kn (decide (v11 < v6)))) else (kn false))
def qm7 := hull (qfn)
theorem qrs : qm7 = qfn := qb _
def qtt : SubB Tryz.prog (TIof Tryz.prog) 40 0 (kret [.t 4, .t 5] qgg) := jnB tabOk follows Tryz.f17 1363147 (.v [.sel [1, 6, 7, 11, 12, 13, 14, 19, 20, 34] []]) S3_ (qfn) (fun f v K => f (v.i 4 0) (v.i 24 0) (v.b 28 0) (v.i 44 0) (v.l 48 0) (v.i 52 0) (v.i 56 0) (v.i 77 0) (v.i 77 1) (v.i 77 2) (v.i 77 3) (v.i 80 0) (qrr (v.i 4 0) (v.i 24 0) (v.b 28 0) (v.i 44 0) (v.l 48 0) (v.i 52 0) (v.i 56 0) (v.i 77 0) (v.i 77 1) (v.i 77 2) (v.i 77 3) (v.i 80 0) K)) (by kernel_rfl) (fun _ _ => (by kernel_rfl))
def qj7  (v1 : Int) (v12 : List AV) (v13 v14 : Int) (K : Ex → Env → Mem → Option (Int × Bool)) := (fun z_v6 z_v7 => K (.exit 2) (ql [(1, (.int .i64 v1)), (6, (.int .i64 z_v6)), (7, (.bool z_v7)), (12, (.sl 7 v12)), (13, (.int .i64 v13)), (14, (.int .i64 v14))]) (qf []))
def qeb  (v1 v6 : Int) (v7 : Bool) (v12 : List AV) (v13 v14 Ah Ai Aj Ak v20 : Int) (next : Int → Bool → Int → Option (Int × Bool)) (kx2 : Int → Bool → Option (Int × Bool)) : Option (Int × Bool) :=
  (bif (decide (v20 < (4 : Int))) then (oI (vixa false 4 1 (.agg [(.int .i64 Ah), (.int .i64 Ai), (.int .i64 Aj), (.int .i64 Ak)]) (.int .i64 v20)) fun q1 => (bif fitV (.one (.i .i64)) q1 then (qm7 v1 v6 v7 (aI q1) v12 v13 v14 Ah Ai Aj Ak v20 (fun v34q2 => (bif v34q2 then (next (aI q1) true (IntKind.i64.wrap (v20 + (1 : Int)))) else (next v6 v7 (IntKind.i64.wrap (v20 + (1 : Int))))))) else none)) else (kx2 v6 v7))
def qec  (v1 : Int) (v12 : List AV) (v13 v14 Ah Ai Aj Ak : Int) (kx2 : Int → Bool → Option (Int × Bool)) : Nat → Int → Bool → Int → Option (Int × Bool)
  | 0 => (fun _ _ _ => none)
  | n + 1 => (fun v6 v7 v20 => qeb v1 v6 v7 v12 v13 v14 Ah Ai Aj Ak v20 (qec v1 v12 v13 v14 Ah Ai Aj Ak kx2 n) kx2)
def qi9 := hull (qec)
theorem qrt : qi9 = qec := qb _
def qtu : SubB Tryz.prog (TIof Tryz.prog) 40 0 (kret [.t 4, .t 5] qgg) := lpB tabOk follows Tryz.f17 19659 (.s .z (.s (.s .z (.v [.sel [1, 6, 7, 12, 13, 14] []])) (.s (.b (.s (.r [(0, .p (.eta 22 (.one (.i .i64))))] []) (.s (.sub [.sel [1, 6, 7, 11, 12, 13, 14, 19, 20] []] qtt []) .z))) (.v [.sel [1, 6, 7, 12, 13, 14, 19, 20] []])))) S4_ (qec) (fun f v K n => f (v.i 4 0) (v.l 48 0) (v.i 52 0) (v.i 56 0) (v.i 77 0) (v.i 77 1) (v.i 77 2) (v.i 77 3) (qj7 (v.i 4 0) (v.l 48 0) (v.i 52 0) (v.i 56 0) K) n) (fun v f K => qeb (v.i 4 0) (v.i 24 0) (v.b 28 0) (v.l 48 0) (v.i 52 0) (v.i 56 0) (v.i 77 0) (v.i 77 1) (v.i 77 2) (v.i 77 3) (v.i 80 0) f (qj7 (v.i 4 0) (v.l 48 0) (v.i 52 0) (v.i 56 0) K)) (fun f v => f (v.i 24 0) (v.b 28 0) (v.i 80 0)) (fun k v => (fun z0 z1 z2 => k (((v.ui 24 0 z0).ub 28 0 z1).ui 80 0 z2))) (by kernel_rfl) (fun _ _ => (by kernel_rfl)) (fun _ _ _ => (by kernel_rfl)) (fun _ _ _ => (by kernel_rfl)) (fun _ _ => (by kernel_rfl)) (fun _ _ _ _ _ => (by kernel_rfl))
def qkm  (K : Ex → Env → Mem → Option (Int × Bool)) := (fun z_v6 z_v7 => K (.exit 0) (ql [(6, (.int .i64 z_v6)), (7, (.bool z_v7))]) (qf []))
def qev  (v1 v6 : Int) (v7 : Bool) (v12 : List AV) (v13 v14 : Int) (next : Int → Bool → Int → Option (Int × Bool)) (kx0 : Int → Bool → Option (Int × Bool)) : Option (Int × Bool) :=
  (bif (decide (v14 < v13)) then (oB (ixB v12 v14) fun y1 => (bif fitC qc y1.cells then (oB (qel (gS y1.cells 0) (gB y1.cells 1) (gI y1.cells 2) (gI y1.cells 3) (gI y1.cells 4) (gI y1.cells 5) (gI y1.cells 6)) fun r2 => (qi9 v1 v12 v13 v14 (gI r2.cells 0) (gI r2.cells 1) (gI r2.cells 2) (gI r2.cells 3) (fun v6q3 v7q4 => (next v6q3 v7q4 (IntKind.i64.wrap (v14 + (1 : Int))))) FU v6 v7 (0 : Int))) else none)) else (kx0 v6 v7))
def qew  (v1 : Int) (v12 : List AV) (v13 : Int) (kx0 : Int → Bool → Option (Int × Bool)) : Nat → Int → Bool → Int → Option (Int × Bool)
  | 0 => (fun _ _ _ => none)
  | n + 1 => (fun v6 v7 v14 => qev v1 v6 v7 v12 v13 v14 (qew v1 v12 v13 kx0 n) kx0)
def qn6 := hull (qew)
theorem qtv : qn6 = qew := qb _
def qub : SubB Tryz.prog (TIof Tryz.prog) 40 0 (kret [.t 4, .t 5] qgg) := lpB tabOk follows Tryz.f17 75 (.s .z (.s (.s .z (.v [.sel [6, 7] []])) (.s (.b (.s (.r [(0, .p (.etac 16 qc))] []) (.s (.r [(1, .c qjy.b)] []) (.b (.sub [.sel [1, 6, 7, 12, 13, 14, 19, 20] []] qtu []))))) (.v [.sel [1, 6, 7, 12, 13, 14] []])))) S5_ (qew) (fun f v K n => f (v.i 4 0) (v.l 48 0) (v.i 52 0) (qkm K) n) (fun v f K => qev (v.i 4 0) (v.i 24 0) (v.b 28 0) (v.l 48 0) (v.i 52 0) (v.i 56 0) f (qkm K)) (fun f v => f (v.i 24 0) (v.b 28 0) (v.i 56 0)) (fun k v => (fun z0 z1 z2 => k (((v.ui 24 0 z0).ub 28 0 z1).ui 56 0 z2))) (by kernel_rfl) (fun _ _ => (by kernel_rfl)) (fun _ _ _ => (by kernel_rfl)) (fun _ _ _ => (by kernel_rfl)) (fun _ _ => (by kernel_rfl)) (fun _ _ _ _ _ => (by kernel_rfl))
def qh0 (v0 : List AV) (v1 : Int) : Option (Int × Bool) :=
  (qn6 v1 v0 (v0.length : Int) (fun v6q1 v7q2 => (some (v6q1, v7q2))) FU (0 : Int) false (0 : Int))
def qhp := hull qh0
theorem qxw : qhp = qh0 := qb _
def qyt {R : Type} : EntF Tryz.prog R := entB (nt := 40) (dec := qgg) (enc := (fun r => .tup [.int .i64 r.1, .bool r.2])) tabOk follows Tryz.func17 [.t 4, .t 5] (hdeN fun _ => rfl) (.s .z (.s .z (.s (.s .z (.b (.sub [.sel [1, 6, 7, 12, 13, 14] []] qub []))) .z))) S6_ qh0 (fun f v => f (v.l 0 0) (v.i 4 0)) (by kernel_rfl) (by kernel_rfl) (by kernel_rfl) fun _ => (by kernel_rfl)
def S9_ : Shp := ⟨[(0, .one (.l .s)), (1, .one (.l .s))], []⟩
def qd5 (v0 v1 : List UInt8) : Option Bool :=
  (bif (decide ((v0.length : Int) ≥ (v1.length : Int))) then (oB (cutI v0 (some (IntKind.i64.wrap ((v0.length : Int) - (v1.length : Int)))) none) fun s1 => (some (s1 == v1))) else (some false))
def qj8 := hull qd5
theorem qn7 : qj8 = qd5 := qb _
def qo1 {R : Type} : EntF Tryz.prog R := entB (nt := 21) (dec := decB) (enc := AV.bool) tabOk follows Tryz.func97 [.t 4] hdeB (.z) S9_ qd5 (fun f v => f (v.s 0 0) (v.s 4 0)) (by kernel_rfl) (by kernel_rfl) (by kernel_rfl) fun _ => (by kernel_rfl)
def qfo (v0 v1 : List UInt8) : Option Bool :=
  (oB (qj8 v0 v1) fun r1 => (some r1))
def qja := hull qfo
theorem qru : qja = qfo := qb _
def qtw {R : Type} : EntF Tryz.prog R := entB (nt := 8) (dec := decB) (enc := AV.bool) tabOk follows Tryz.func67 [.t 4] hdeB (.s .z (.s (.r [(2, .c qo1.b)] []) .z)) S9_ qfo (fun f v => f (v.s 0 0) (v.s 4 0)) (by kernel_rfl) (by kernel_rfl) (by kernel_rfl) fun _ => (by kernel_rfl)
theorem q3p {R : Type} : qhn Tryz.prog 146 (ql4 (R := R)) := q6a Tryz.func146 (by kernel_rfl) (by kernel_rfl) (by kernel_rfl) (by kernel_rfl)
theorem q3q {R : Type} : qhn Tryz.prog 165 (ql5 (R := R)) := q6b Tryz.func165 (by kernel_rfl) (by kernel_rfl) (by kernel_rfl) (by kernel_rfl)
def S10_ : Shp := ⟨[(0, .one (.l .s)), (1, .one (.l (.i .u8)))], []⟩
def qd6 (v0 : List UInt8) (v1 : Int) : Option Int :=
  (oB (qn1 v0 v1) fun r1 => (some r1))
def qj9 := hull qd6
theorem qn8 : qj9 = qd6 := qb _
def qo2 {R : Type} : EntF Tryz.prog R := entB (nt := 8) (dec := (decI .i64)) (enc := (AV.int .i64)) tabOk follows Tryz.func157 [.t 4] hdeI (.s .z (.s (.r [(2, .c (eK q3q))] []) .z)) S10_ qd6 (fun f v => f (v.s 0 0) (v.i 4 0)) (by kernel_rfl) (by kernel_rfl) (by kernel_rfl) fun _ => (by kernel_rfl)
def qfp (v0 v1 : List UInt8) : Option Int :=
  (bif (((v1.length : Int) == (0 : Int)) || (v1 == v0)) then (some (0 : Int)) else (bif ((v1.length : Int) == (1 : Int)) then (oB (ixB v1 (0 : Int)) fun c1 => (oB (qj9 v0 (c1.toNat : Int)) fun r2 => (some r2))) else (bif (decide ((v1.length : Int) ≥ (v0.length : Int))) then (some (-1 : Int)) else none)))
def qm8 := hull qfp
theorem qrv : qm8 = qfp := qb _
def qtx {R : Type} : EntF Tryz.prog R := entB (nt := 143) (dec := (decI .i64)) (enc := (AV.int .i64)) tabOk follows Tryz.func147 [.t 4] hdeI (.s .z (.s .z (.s (.b (.s (.r [(3, .g 3)] []) (.s .z (.s .z (.s (.s (.r [(3, .c qo2.b)] []) .z) .z))))) (.s .z (.s .z (.s .z (.s .z (.s .z (.s (.b .x) .z))))))))) S9_ qfp (fun f v => f (v.s 0 0) (v.s 4 0)) (by kernel_rfl) (by kernel_rfl) (by kernel_rfl) fun _ => (by kernel_rfl)
def qh1 (v0 v1 : List UInt8) : Option Int :=
  (oB (qm8 v0 v1) fun r1 => (some r1))
def qjl := hull qh1
theorem qxx : qjl = qh1 := qb _
def qpc {R : Type} : EntF Tryz.prog R := entB (nt := 8) (dec := (decI .i64)) (enc := (AV.int .i64)) tabOk follows Tryz.func131 [.t 4] hdeI (.s .z (.s (.r [(2, .c qtx.b)] []) .z)) S9_ qh1 (fun f v => f (v.s 0 0) (v.s 4 0)) (by kernel_rfl) (by kernel_rfl) (by kernel_rfl) fun _ => (by kernel_rfl)
def S11_ : Shp := ⟨[(0, .one (.l .s)), (1, .one (.l .s)), (5, .one (.l (.i .i64)))], []⟩
def qlo  (v0 v1 : List UInt8) (v5 : Int) (next : (List UInt8) → Int → Option Int) : Option Int :=
  (oB (qjl v0 v1) fun r1 => (bif (r1 == (-1 : Int)) then (some v5) else (oB (cutI v0 (some (IntKind.i64.wrap (r1 + (v1.length : Int)))) none) fun s2 => (next s2 (IntKind.i64.wrap (v5 + (1 : Int)))))))
def qhw  (v1 : List UInt8) : Nat → (List UInt8) → Int → Option Int
  | 0 => (fun _ _ => none)
  | n + 1 => (fun v0 v5 => qlo v0 v1 v5 (qhw v1 n))
def qwl := hull (qhw)
def qty : SubB Tryz.prog (TIof Tryz.prog) 34 0 (kret [.t 4] (decI .i64)) := lpB tabOk follows Tryz.f130 79 (.b (.s (.r [(2, .c qpc.b)] []) (.s .z (.s .z (.v [.sel [0, 1, 5] []]))))) S11_ (qhw) (fun f v K n => f (v.s 4 0) n) (fun v f K => qlo (v.s 0 0) (v.s 4 0) (v.i 20 0) f) (fun f v => f (v.s 0 0) (v.i 20 0)) (fun k v => (fun z0 z1 => k ((v.us 0 0 z0).ui 20 0 z1))) (by kernel_rfl) (fun _ _ => (by kernel_rfl)) (fun _ _ _ => (by kernel_rfl)) (fun _ _ _ => (by kernel_rfl)) (fun _ _ => (by kernel_rfl)) (fun _ _ _ _ _ => (by kernel_rfl))
def qh2 (v0 v1 : List UInt8) : Option Int :=
  (bif ((v1.length : Int) == (0 : Int)) then none else (bif ((v1.length : Int) == (1 : Int)) then (oB (ixB v1 (0 : Int)) fun c1 => (oB (qn0 v0 (c1.toNat : Int)) fun r2 => (some r2))) else (qwl v1 FU v0 (0 : Int))))
def qmz := hull qh2
theorem qxy : qmz = qh2 := qb _
def qyu {R : Type} : EntF Tryz.prog R := entB (nt := 34) (dec := (decI .i64)) (enc := (AV.int .i64)) tabOk follows Tryz.func130 [.t 4] hdeI (.s .z (.s (.s .z (.s (.s (.r [(1, .c (eK (q5c (f := 144))))] []) .z) .z)) (.s (.s .z (.s (.s (.r [(3, .c (eK q3p))] []) .z) .z)) (.s .z (.b (.sub [.sel [0, 1, 5] []] qty [])))))) S9_ qh2 (fun f v => f (v.s 0 0) (v.s 4 0)) (by kernel_rfl) (by kernel_rfl) (by kernel_rfl) fun _ => (by kernel_rfl)
def S12_ : Shp := ⟨[(0, .one (.l .s)), (1, .one (.l .s)), (2, .one (.l (.i .i64))), (3, .one (.l (.i .i64)))], []⟩
def S13_ : Shp := ⟨[(0, .one (.l .s)), (1, .one (.l .s)), (2, .one (.l (.i .i64))), (3, .one (.l (.i .i64))), (9, .one (.own 0)), (10, .one (.l (.i .i64)))], [.arr true 1]⟩
def qo3  (v0 v1 : List UInt8) (v2 : Int) (K : Ex → Env → Mem → Option (List AV)) := (fun z_v3 => K .norm (ql [(0, (.str v0)), (1, (.str v1)), (2, (.int .i64 v2)), (3, (.int .i64 z_v3))]) (qf []))
def qep  (v0 v1 : List UInt8) (v2 v3 : Int) (kn : Int → Option (List AV)) : Option (List AV) :=
  (bif (decide (v3 < (0 : Int))) then (oB (qmz v0 v1) fun r1 => (kn (IntKind.i64.wrap (r1 + (1 : Int))))) else (kn v3))
def qkn := hull (qep)
theorem qo4 : qkn = qep := qb _
def qp6 : SubB Tryz.prog (TIof Tryz.prog) 66 0 (kret [.t 8] (decX (.one (.sl 1)) fun z => aL z)) := jnB tabOk follows Tryz.f98 23 (.s .z (.s (.r [(2, .c qyu.b)] [.sel [0, 1, 2, 3] []]) (.v [.sel [0, 1, 2, 3] []]))) S12_ (qep) (fun f v K => f (v.s 0 0) (v.s 4 0) (v.i 8 0) (v.i 12 0) (qo3 (v.s 0 0) (v.s 4 0) (v.i 8 0) K)) (by kernel_rfl) (fun _ _ => (by kernel_rfl))
def qib  (K : Ex → Env → Mem → Option (List AV)) := (fun z_v0 z_v10 z_a0 => K (.exit 0) (ql [(0, (.str z_v0)), (9, (.own 0 z_a0.length)), (10, (.int .i64 z_v10))]) (qf [(some (.arr true 1 z_a0))]))
def qcr  (v0 v1 : List UInt8) (v2 v3 v10 : Int) (a0 : List AV) (next : (List UInt8) → Int → (List AV) → Option (List AV)) (kx0 : (List UInt8) → Int → (List AV) → Option (List AV)) : Option (List AV) :=
  (bif (decide (v10 < v3)) then (oB (qjl v0 v1) fun r1 => (bif (decide (r1 < (0 : Int))) then (kx0 v0 v10 a0) else (oB (cutI v0 none (some (IntKind.i64.wrap (r1 + v2)))) fun s2 => (bif hd a0 a0.length then (bif decide (0 ≤ v10 ∧ v10 < a0.length) then (bif hd a0 a0.length then (oB (a0[v10.toNat]?) fun y3 => (oB (putE y3 0 1 [(.str s2)]) fun z4 => (oB (cutI v0 (some (IntKind.i64.wrap (r1 + (v1.length : Int)))) none) fun s5 => (bif hd (a0.set v10.toNat z4) a0.length then (next s5 (IntKind.i64.wrap (v10 + (1 : Int))) (a0.set v10.toNat z4)) else none)))) else none) else none) else none)))) else (kx0 v0 v10 a0))
def qb0  (v1 : List UInt8) (v2 v3 : Int) (kx0 : (List UInt8) → Int → (List AV) → Option (List AV)) : Nat → (List UInt8) → Int → (List AV) → Option (List AV)
  | 0 => (fun _ _ _ => none)
  | n + 1 => (fun v0 v10 a0 => qcr v0 v1 v2 v3 v10 a0 (qb0 v1 v2 v3 kx0 n) kx0)
def qko := hull (qb0)
theorem qo5 : qko = qb0 := qb _
def qp7 : SubB Tryz.prog (TIof Tryz.prog) 66 0 (kret [.t 8] (decX (.one (.sl 1)) fun z => aL z)) := lpB tabOk follows Tryz.f98 2303 (.s (.s .z (.s .z (.v [.sel [0, 9, 10] [0]]))) (.b (.s (.r [(2, .c qpc.b)] []) (.s (.s .z (.s (.v [.sel [0, 9, 10] [0]]) .z)) (.s .z (.s .z (.v [.hd 9, .sel [0, 1, 2, 3, 9, 10] [0]]))))))) S13_ (qb0) (fun f v K n => f (v.s 4 0) (v.i 8 0) (v.i 12 0) (qib K) n) (fun v f K => qcr (v.s 0 0) (v.s 4 0) (v.i 8 0) (v.i 12 0) (v.i 40 0) (v.r 0) f (qib K)) (fun f v => f (v.s 0 0) (v.i 40 0) (v.r 0)) (fun k v => (fun z0 z1 z2 => k (((v.us 0 0 z0).ui 40 0 z1).ur 0 z2))) (by kernel_rfl) (fun _ _ => (by kernel_rfl)) (fun _ _ _ => (by kernel_rfl)) (fun _ _ _ => (by kernel_rfl)) (fun _ _ => (by kernel_rfl)) (fun _ _ _ _ _ => (by kernel_rfl))
def qf0 (v0 v1 : List UInt8) (v2 v3 : Int) : Option (List AV) :=
  (bif (v3 == (0 : Int)) then (some ([] : List AV)) else (bif (v1 == ([] : List UInt8)) then none else (qkn v0 v1 v2 v3 (fun v3q1 => (bif decide (0 ≤ (if (IntKind.i64.wrap ((v0.length : Int) + (1 : Int))) < v3q1 then (IntKind.i64.wrap ((v0.length : Int) + (1 : Int))) else v3q1) ∧ (if (IntKind.i64.wrap ((v0.length : Int) + (1 : Int))) < v3q1 then (IntKind.i64.wrap ((v0.length : Int) + (1 : Int))) else v3q1) ≤ (if (IntKind.i64.wrap ((v0.length : Int) + (1 : Int))) < v3q1 then (IntKind.i64.wrap ((v0.length : Int) + (1 : Int))) else v3q1) ∧ (if (IntKind.i64.wrap ((v0.length : Int) + (1 : Int))) < v3q1 then (IntKind.i64.wrap ((v0.length : Int) + (1 : Int))) else v3q1) * 16 ≤ 281474976710656) then (bif (hd (List.replicate (if (IntKind.i64.wrap ((v0.length : Int) + (1 : Int))) < v3q1 then (IntKind.i64.wrap ((v0.length : Int) + (1 : Int))) else v3q1).toNat ((.str ([] : List UInt8)) : AV)) ((List.replicate (if (IntKind.i64.wrap ((v0.length : Int) + (1 : Int))) < v3q1 then (IntKind.i64.wrap ((v0.length : Int) + (1 : Int))) else v3q1).toNat ((.str ([] : List UInt8)) : AV)).length) && true) then (qko v1 v2 (IntKind.i64.wrap ((if (IntKind.i64.wrap ((v0.length : Int) + (1 : Int))) < v3q1 then (IntKind.i64.wrap ((v0.length : Int) + (1 : Int))) else v3q1) - (1 : Int))) (fun v0q2 v10q3 a0q4 => (bif hd a0q4 a0q4.length then (bif decide (0 ≤ v10q3 ∧ v10q3 < a0q4.length) then (bif hd a0q4 a0q4.length then (oB (a0q4[v10q3.toNat]?) fun y5 => (oB (putE y5 0 1 [(.str v0q2)]) fun z6 => (bif hd (a0q4.set v10q3.toNat z6) a0q4.length then (oB (cutI (a0q4.set v10q3.toNat z6) none (some (IntKind.i64.wrap (v10q3 + (1 : Int))))) fun s7 => (some s7)) else none))) else none) else none) else none)) FU v0 (0 : Int) (List.replicate (if (IntKind.i64.wrap ((v0.length : Int) + (1 : Int))) < v3q1 then (IntKind.i64.wrap ((v0.length : Int) + (1 : Int))) else v3q1).toNat ((.str ([] : List UInt8)) : AV))) else none) else none)))))
def qn9 := hull qf0
theorem qtz : qn9 = qf0 := qb _
def quc {R : Type} : EntF Tryz.prog R := entB (nt := 66) (dec := (decX (.one (.sl 1)) fun z => aL z)) (enc := (fun r => .sl 1 r)) tabOk follows Tryz.func98 [.t 8] (hdeX fun _ => rfl) (.s .z (.s (.s .z (.s (.s .z (.v [.eta 8 (.one (.sl 1))])) .z)) (.s (.s .z (.s (.s (.r [(2, .c (eK (q5c (f := 129))))] []) .z) .z)) (.s (.sub [.sel [0, 1, 2, 3] []] qp6 []) (.s .z (.s .z (.s .z (.s .z (.s (.b (.sub [.sel [0, 1, 2, 3, 9, 10] [0]] qp7 [])) .z))))))))) S12_ qf0 (fun f v => f (v.s 0 0) (v.s 4 0) (v.i 8 0) (v.i 12 0)) (by kernel_rfl) (by kernel_rfl) (by kernel_rfl) fun _ => (by kernel_rfl)
def qh3 (v0 v1 : List UInt8) : Option (List AV) :=
  (oB (qn9 v0 v1 (0 : Int) (-1 : Int)) fun r1 => (some r1))
def qjm := hull qh3
theorem qxz : qjm = qh3 := qb _
def qpd {R : Type} : EntF Tryz.prog R := entB (nt := 8) (dec := (decX (.one (.sl 1)) fun z => aL z)) (enc := (fun r => .sl 1 r)) tabOk follows Tryz.func68 [.t 4] (hdeX fun _ => rfl) (.s .z (.s (.r [(2, .k quc.b)] []) .z)) S9_ qh3 (fun f v => f (v.s 0 0) (v.s 4 0)) (by kernel_rfl) (by kernel_rfl) (by kernel_rfl) fun _ => (by kernel_rfl)
def S14_ : Shp := ⟨[(0, .one (.l .s)), (4, .one (.l (.i .u8))), (13, .one (.l (.i .i64))), (14, .one (.l (.i .i64)))], []⟩
def S15_ : Shp := ⟨[(0, .one (.l .s)), (13, .one (.l (.i .i64))), (14, .one (.l (.i .i64)))], []⟩
def S16_ : Shp := ⟨[(0, .one (.l .s))], []⟩
def qql  (v0 : List UInt8) (v13 v14 : Int) (K : Ex → Env → Mem → Option Bool) := (fun z_v41 => K .norm (ql [(0, (.str v0)), (13, (.int .i64 v13)), (14, (.int .i64 v14)), (41, (.bool z_v41))]) (qf []))
def qe7  (v0 : List UInt8) (v4 v13 v14 : Int) (kn : Bool → Option Bool) : Option Bool :=
  (bif ((decide (v4 < (97 : Int))) || (decide (v4 > (122 : Int)))) then (bif (decide (v4 < (48 : Int))) then (kn ((v4 != (45 : Int)) && (v4 != (95 : Int)))) else (kn (((decide (v4 > (57 : Int))) && (v4 != (45 : Int))) && (v4 != (95 : Int))))) else (kn false))
def qic := hull (qe7)
theorem qqm : qic = qe7 := qb _
def qrw : SubB Tryz.prog (TIof Tryz.prog) 43 0 (kret [.t 2] decB) := jnB tabOk follows Tryz.f69 11467 (.r [(3, .g 2), (15, .g 2), (19, .g 2)] [.sel [0, 13, 14, 41] []]) S14_ (qe7) (fun f v K => f (v.s 0 0) (v.i 16 0) (v.i 52 0) (v.i 56 0) (qql (v.s 0 0) (v.i 52 0) (v.i 56 0) K)) (by kernel_rfl) (fun _ _ => (by kernel_rfl))
def qjh  (K : Ex → Env → Mem → Option Bool) := (fun (_ : Unit) => K (.exit 0) (ql []) (qf []))
def qdu  (v0 : List UInt8) (v13 v14 : Int) (next : Int → Option Bool) (kx0 : Unit → Option Bool) : Option Bool :=
  (bif (decide (v14 < v13)) then (oB (ixB v0 v14) fun c1 => (qic v0 (c1.toNat : Int) v13 v14 (fun v41q2 => (bif v41q2 then (some false) else (next (IntKind.i64.wrap (v14 + (1 : Int)))))))) else (kx0 ()))
def qdv  (v0 : List UInt8) (v13 : Int) (kx0 : Unit → Option Bool) : Nat → Int → Option Bool
  | 0 => (fun _ => none)
  | n + 1 => (fun v14 => qdu v0 v13 v14 (qdv v0 v13 kx0 n) kx0)
def qml := hull (qdv)
theorem qqn : qml = qdv := qb _
def qrx : SubB Tryz.prog (TIof Tryz.prog) 43 0 (kret [.t 2] decB) := lpB tabOk follows Tryz.f69 75 (.s .z (.s (.s .z (.v [.sel [] []])) (.s (.b (.s .z (.s .z (.s (.sub [.sel [0, 4, 13, 14] []] qrw []) .z)))) (.v [.sel [0, 13, 14] []])))) S15_ (qdv) (fun f v K n => f (v.s 0 0) (v.i 52 0) (qjh K) n) (fun v f K => qdu (v.s 0 0) (v.i 52 0) (v.i 56 0) f (qjh K)) (fun f v => f (v.i 56 0)) (fun k v => (fun z0 => k (v.ui 56 0 z0))) (by kernel_rfl) (fun _ _ => (by kernel_rfl)) (fun _ _ _ => (by kernel_rfl)) (fun _ _ _ => (by kernel_rfl)) (fun _ _ => (by kernel_rfl)) (fun _ _ _ _ _ => (by kernel_rfl))
def qg4 (v0 : List UInt8) : Option Bool :=
  (bif ((v0 == ([] : List UInt8)) || (decide ((v0.length : Int) > (63 : Int)))) then (some false) else (qml v0 (v0.length : Int) (fun (_ : Unit) => (some true)) FU (0 : Int)))
def qlt := hull qg4
theorem qwm : qlt = qg4 := qb _
def qx0 {R : Type} : EntF Tryz.prog R := entB (nt := 43) (dec := decB) (enc := AV.bool) tabOk follows Tryz.func69 [.t 2] hdeB (.s .z (.s (.s (.r [(3, .g 3)] []) .z) (.s (.s .z (.b (.sub [.sel [0, 13, 14] []] qrx []))) .z))) S16_ qg4 (fun f v => f (v.s 0 0)) (by kernel_rfl) (by kernel_rfl) (by kernel_rfl) fun _ => (by kernel_rfl)
def S17_ : Shp := ⟨[(3, .one (.l (.i .i64))), (4, .one (.l .s)), (20, .one (.l (.sl 1))), (21, .one (.l (.i .i64))), (22, .one (.l (.i .i64)))], []⟩
def S18_ : Shp := ⟨[(20, .one (.l (.sl 1))), (21, .one (.l (.i .i64))), (22, .one (.l (.i .i64)))], []⟩
def qud  (v0 : List UInt8) (K : Ex → Env → Mem → Option Bool) := (fun z_v14 => K .norm (ql [(0, (.str v0)), (14, (.bool z_v14))]) (qf []))
def qgh  (v0 : List UInt8) (kn : Bool → Option Bool) : Option Bool :=
  (bif (decide ((v0.length : Int) ≥ (255 : Int))) then (kn true) else (oB (qja v0 ([46] : List UInt8)) fun r1 => (kn (!r1))))
def qpe := hull (qgh)
theorem que : qpe = qgh := qb _
def qwn : SubB Tryz.prog (TIof Tryz.prog) 39 0 (kret [.t 2] decB) := jnB tabOk follows Tryz.f52 19 (.r [(5, .c qtw.b)] [.sel [0, 14] []]) S16_ (qgh) (fun f v K => f (v.s 0 0) (qud (v.s 0 0) K)) (by kernel_rfl) (fun _ _ => (by kernel_rfl))
def quf  (v20 : List AV) (v21 v22 : Int) (K : Ex → Env → Mem → Option Bool) := (fun z_v37 => K .norm (ql [(20, (.sl 1 v20)), (21, (.int .i64 v21)), (22, (.int .i64 v22)), (37, (.bool z_v37))]) (qf []))
def qgi  (v3 : Int) (v4 : List UInt8) (v20 : List AV) (v21 v22 : Int) (kn : Bool → Option Bool) : Option Bool :=
  (oB (qlt v4) fun r1 => (bif (!r1) then (bif (decide (v3 > (0 : Int))) then (kn true) else (kn (!(v4 == ([42] : List UInt8))))) else (kn false)))
def qpf := hull (qgi)
theorem qug : qpf = qgi := qb _
def qwo : SubB Tryz.prog (TIof Tryz.prog) 39 0 (kret [.t 2] decB) := jnB tabOk follows Tryz.f52 10647 (.r [(1, .c qx0.b)] [.sel [20, 21, 22, 37] []]) S17_ (qgi) (fun f v K => f (v.i 12 0) (v.s 16 0) (v.l 80 0) (v.i 84 0) (v.i 88 0) (quf (v.l 80 0) (v.i 84 0) (v.i 88 0) K)) (by kernel_rfl) (fun _ _ => (by kernel_rfl))
def qlp  (K : Ex → Env → Mem → Option Bool) := (fun (_ : Unit) => K (.exit 0) (ql []) (qf []))
def qe5  (v20 : List AV) (v21 v22 : Int) (next : Int → Option Bool) (kx0 : Unit → Option Bool) : Option Bool :=
  (bif (decide (v22 < v21)) then (oB (ixB v20 v22) fun y1 => (bif fitC [.s] y1.cells then (qpf v22 (gS y1.cells 0) v20 v21 v22 (fun v37q2 => (bif v37q2 then (some false) else (next (IntKind.i64.wrap (v22 + (1 : Int))))))) else none)) else (kx0 ()))
def qe6  (v20 : List AV) (v21 : Int) (kx0 : Unit → Option Bool) : Nat → Int → Option Bool
  | 0 => (fun _ => none)
  | n + 1 => (fun v22 => qe5 v20 v21 v22 (qe6 v20 v21 kx0 n) kx0)
def qkp := hull (qe6)
theorem quh : qkp = qe6 := qb _
def qwp : SubB Tryz.prog (TIof Tryz.prog) 39 0 (kret [.t 2] decB) := lpB tabOk follows Tryz.f52 151 (.s .z (.s (.s .z (.v [.sel [] []])) (.s (.b (.s (.r [(1, .p (.etac 25 [.s]))] []) (.s (.sub [.sel [3, 4, 20, 21, 22] []] qwo []) .z))) (.v [.sel [20, 21, 22] []])))) S18_ (qe6) (fun f v K n => f (v.l 80 0) (v.i 84 0) (qlp K) n) (fun v f K => qe5 (v.l 80 0) (v.i 84 0) (v.i 88 0) f (qlp K)) (fun f v => f (v.i 88 0)) (fun k v => (fun z0 => k (v.ui 88 0 z0))) (by kernel_rfl) (fun _ _ => (by kernel_rfl)) (fun _ _ _ => (by kernel_rfl)) (fun _ _ _ => (by kernel_rfl)) (fun _ _ => (by kernel_rfl)) (fun _ _ _ _ _ => (by kernel_rfl))
def qjn (v0 : List UInt8) : Option Bool :=
  (bif (v0 == ([46] : List UInt8)) then (some true) else (qpe v0 (fun v14q1 => (bif v14q1 then (some false) else (oB (cutI v0 none (some (IntKind.i64.wrap ((v0.length : Int) - (1 : Int))))) fun s2 => (oB (qjm s2 ([46] : List UInt8)) fun r3 => (qkp r3 (r3.length : Int) (fun (_ : Unit) => (some true)) FU (0 : Int))))))))
def qgd := hull qjn
theorem q0m : qgd = qjn := qb _
def qjo {R : Type} : EntF Tryz.prog R := entB (nt := 39) (dec := decB) (enc := AV.bool) tabOk follows Tryz.func52 [.t 2] hdeB (.s .z (.s .z (.s (.s (.sub [.sel [0] []] qwn []) .z) (.s (.s (.r [(5, .k qpd.b)] []) (.b (.sub [.sel [20, 21, 22] []] qwp []))) .z)))) S16_ qjn (fun f v => f (v.s 0 0)) (by kernel_rfl) (by kernel_rfl) (by kernel_rfl) fun _ => (by kernel_rfl)
theorem qbb6 {R : Type} : qli Tryz.prog 54 (qvz (R := R)) := qbd7 Tryz.laysItoa (List.mem_singleton.2 rfl)
def S19_ : Shp := ⟨[(0, .one (.l (.i .u64))), (3, .one (.own 0)), (7, .one (.l (.i .i64))), (8, .one (.l (.i .i64)))], [.arr true 1]⟩
def S20_ : Shp := ⟨[(0, .one (.l (.i .u64)))], []⟩
def qmm  (K : Ex → Env → Mem → Option (List UInt8)) := (fun z_a0 => K (.exit 0) (ql [(3, (.own 0 z_a0.length))]) (qf [(some (.arr true 1 z_a0))]))
def qfg  (v0 v7 v8 : Int) (a0 : List AV) (next : Int → (List AV) → Option (List UInt8)) (kx0 : (List AV) → Option (List UInt8)) : Option (List UInt8) :=
  (bif (decide (v8 < v7)) then (bif decide ((IntKind.u64.wrap (IntKind.i64.wrap ((8 : Int) * v8))) < 0) then none else (bif hd a0 a0.length then (bif decide (0 ≤ (IntKind.i64.wrap ((7 : Int) - v8)) ∧ (IntKind.i64.wrap ((7 : Int) - v8)) < a0.length) then (bif hd a0 a0.length then (oB (a0[(IntKind.i64.wrap ((7 : Int) - v8)).toNat]?) fun y1 => (oB (putE y1 0 1 [(.int .u8 (IntKind.u8.wrap (v0.fdiv (2 ^ min (IntKind.u64.wrap (IntKind.i64.wrap ((8 : Int) * v8))).toNat IntKind.u64.bits))))]) fun z2 => (bif hd (a0.set ((IntKind.i64.wrap ((7 : Int) - v8)).toNat) z2) a0.length then (next (IntKind.i64.wrap (v8 + (1 : Int))) (a0.set ((IntKind.i64.wrap ((7 : Int) - v8)).toNat) z2)) else none))) else none) else none) else none)) else (kx0 a0))
def qfh  (v0 v7 : Int) (kx0 : (List AV) → Option (List UInt8)) : Nat → Int → (List AV) → Option (List UInt8)
  | 0 => (fun _ _ => none)
  | n + 1 => (fun v8 a0 => qfg v0 v7 v8 a0 (qfh v0 v7 kx0 n) kx0)
def qqo := hull (qfh)
theorem qwq : qqo = qfh := qb _
def qx1 : SubB Tryz.prog (TIof Tryz.prog) 24 0 (kret [.t 2] decS) := lpB tabOk follows Tryz.f70 75 (.s .z (.s (.s .z (.v [.sel [3] [0]])) (.s .z (.v [.hd 3, .sel [0, 3, 7, 8] [0]])))) S19_ (qfh) (fun f v K n => f (v.i 0 0) (v.i 28 0) (qmm K) n) (fun v f K => qfg (v.i 0 0) (v.i 28 0) (v.i 32 0) (v.r 0) f (qmm K)) (fun f v => f (v.i 32 0) (v.r 0)) (fun k v => (fun z0 z1 => k ((v.ui 32 0 z0).ur 0 z1))) (by kernel_rfl) (fun _ _ => (by kernel_rfl)) (fun _ _ _ => (by kernel_rfl)) (fun _ _ _ => (by kernel_rfl)) (fun _ _ => (by kernel_rfl)) (fun _ _ _ _ _ => (by kernel_rfl))
def qjp (v0 : Int) : Option (List UInt8) :=
  (bif decide (0 ≤ (8 : Int) ∧ (8 : Int) ≤ (8 : Int) ∧ (8 : Int) * 1 ≤ 281474976710656) then (bif (hd (List.replicate (8 : Int).toNat ((.int .u8 (0 : Int)) : AV)) ((List.replicate (8 : Int).toNat ((.int .u8 (0 : Int)) : AV)).length) && true) then (qqo v0 (((List.replicate (8 : Int).toNat ((.int .u8 (0 : Int)) : AV)).length) : Int) (fun a0q1 => (bif hd a0q1 a0q1.length then (oB (qb2 a0q1) fun s2 => (some s2)) else none)) FU (0 : Int) (List.replicate (8 : Int).toNat ((.int .u8 (0 : Int)) : AV))) else none) else none)
def ql9 := hull qjp
theorem q0n : ql9 = qjp := qb _
def qth {R : Type} : EntF Tryz.prog R := entB (nt := 24) (dec := decS) (enc := AV.str) tabOk follows Tryz.func70 [.t 2] hdeS (.s .z (.s .z (.s (.s .z (.b (.sub [.sel [0, 3, 7, 8] [0]] qx1 []))) .z))) S20_ qjp (fun f v => f (v.i 0 0)) (by kernel_rfl) (by kernel_rfl) (by kernel_rfl) fun _ => (by kernel_rfl)
def S21_ : Shp := ⟨[(0, .one (.l .s)), (3, .one (.l (.i .u64))), (4, .one (.l (.i .i64)))], []⟩
def S22_ : Shp := ⟨[(3, .one (.l (.i .u64))), (18, .one (.l (.i .i64)))], []⟩
def qm9  (K : Ex → Env → Mem → Option Int) := (fun z_v3 => K (.exit 0) (ql [(3, (.int .u64 z_v3))]) (qf []))
def qf1  (v0 : List UInt8) (v3 v4 : Int) (next : Int → Int → Option Int) (kx0 : Int → Option Int) : Option Int :=
  (bif (decide (v4 < (v0.length : Int))) then (oB (ixB v0 v4) fun c1 => (next (IntKind.u64.wrap ((qd9 .xor .u64 v3 (IntKind.u64.wrap (c1.toNat : Int))) * (1099511628211 : Int))) (IntKind.i64.wrap (v4 + (1 : Int))))) else (kx0 v3))
def qf2  (v0 : List UInt8) (kx0 : Int → Option Int) : Nat → Int → Int → Option Int
  | 0 => (fun _ _ => none)
  | n + 1 => (fun v3 v4 => qf1 v0 v3 v4 (qf2 v0 kx0 n) kx0)
def qti := hull (qf2)
theorem qx2 : qti = qf2 := qb _
def qyv : SubB Tryz.prog (TIof Tryz.prog) 27 0 (kret [.t 2] (decI .u64)) := lpB tabOk follows Tryz.f71 75 (.s (.s .z (.s .z (.v [.sel [3] []]))) (.s .z (.v [.sel [0, 3, 4] []]))) S21_ (qf2) (fun f v K n => f (v.s 0 0) (qm9 K) n) (fun v f K => qf1 (v.s 0 0) (v.i 12 0) (v.i 16 0) f (qm9 K)) (fun f v => f (v.i 12 0) (v.i 16 0)) (fun k v => (fun z0 z1 => k ((v.ui 12 0 z0).ui 16 0 z1))) (by kernel_rfl) (fun _ _ => (by kernel_rfl)) (fun _ _ _ => (by kernel_rfl)) (fun _ _ _ => (by kernel_rfl)) (fun _ _ => (by kernel_rfl)) (fun _ _ _ _ _ => (by kernel_rfl))
def qmn  (K : Ex → Env → Mem → Option Int) := (fun z_v3 => K (.exit 2) (ql [(3, (.int .u64 z_v3))]) (qf []))
def qem  (v3 v18 : Int) (next : Int → Int → Option Int) (kx2 : Int → Option Int) : Option Int :=
  (bif (decide (v18 < (3 : Int))) then (next (IntKind.u64.wrap ((qd9 .xor .u64 v3 (v3.fdiv (2 ^ min (32 : Int).toNat IntKind.u64.bits))) * (11400714819323198485 : Int))) (IntKind.i64.wrap (v18 + (1 : Int)))) else (kx2 v3))
def qc5  (kx2 : Int → Option Int) : Nat → Int → Int → Option Int
  | 0 => (fun _ _ => none)
  | n + 1 => (fun v3 v18 => qem v3 v18 (qc5 kx2 n) kx2)
def qgt := hull (qc5)
theorem qwr : qgt = qc5 := qb _
def qx3 : SubB Tryz.prog (TIof Tryz.prog) 27 0 (kret [.t 2] (decI .u64)) := lpB tabOk follows Tryz.f71 151 (.s .z (.s (.s .z (.v [.sel [3] []])) (.s .z (.v [.sel [3, 18] []])))) S22_ (qc5) (fun f v K n => f (qmn K) n) (fun v f K => qem (v.i 12 0) (v.i 72 0) f (qmn K)) (fun f v => f (v.i 12 0) (v.i 72 0)) (fun k v => (fun z0 z1 => k ((v.ui 12 0 z0).ui 72 0 z1))) (by kernel_rfl) (fun _ _ => (by kernel_rfl)) (fun _ _ _ => (by kernel_rfl)) (fun _ _ _ => (by kernel_rfl)) (fun _ _ => (by kernel_rfl)) (fun _ _ _ _ _ => (by kernel_rfl))
def qkq (v0 : List UInt8) : Option Int :=
  (qti v0 (fun v3q1 => (qgt (fun v3q2 => (some v3q2)) FU v3q1 (0 : Int))) FU (14695981039346656037 : Int) (0 : Int))
def qry := hull qkq
theorem q2o : qry = qkq := qb _
def q3r {R : Type} : EntF Tryz.prog R := entB (nt := 27) (dec := (decI .u64)) (enc := (AV.int .u64)) tabOk follows Tryz.func71 [.t 2] hdeI (.s .z (.s .z (.s (.s .z (.b (.sub [.sel [0, 3, 4] []] qyv []))) (.s (.s .z (.b (.sub [.sel [3, 18] []] qx3 []))) .z)))) S16_ qkq (fun f v => f (v.s 0 0)) (by kernel_rfl) (by kernel_rfl) (by kernel_rfl) fun _ => (by kernel_rfl)
def qkr (v0 v1 : List UInt8) : Option (List UInt8) :=
  (oB (ql9 (IntKind.u64.wrap (v0.length : Int))) fun r1 => (bif decide (r1.length + v0.length ≤ 9223372036854775807) then (bif decide ((r1 ++ v0).length + v1.length ≤ 9223372036854775807) then (oB (qry ((r1 ++ v0) ++ v1)) fun r2 => (oB (ql9 r2) fun r3 => (some r3))) else none) else none))
def qrz := hull qkr
theorem q2p : qrz = qkr := qb _
def q3s {R : Type} : EntF Tryz.prog R := entB (nt := 15) (dec := decS) (enc := AV.str) tabOk follows Tryz.func53 [.t 4] hdeS (.s .z (.s (.r [(3, .c qth.b), (8, .c q3r.b), (9, .c qth.b)] []) .z)) S9_ qkr (fun f v => f (v.s 0 0) (v.s 4 0)) (by kernel_rfl) (by kernel_rfl) (by kernel_rfl) fun _ => (by kernel_rfl)
def qid : List LT := [.s, .b, (.i .i64)]
def qie (x0 : List UInt8) (x1 : Bool) (x2 : Int) : List AV := [.str x0, .bool x1, .int .i64 x2]
def qeq : List LT := [.b, (.i .u64), (.i .u64), .s, .s, .s, (.i .i64), (.i .i64), (.i .i64), (.i .i64), (.i .i64), (.i .i64), (.i .u64)]
def qe1 (x0 : Bool) (x1 x2 : Int) (x3 x4 x5 : List UInt8) (x6 x7 x8 x9 x10 x11 x12 : Int) : List AV := [.bool x0, .int .u64 x1, .int .u64 x2, .str x3, .str x4, .str x5, .int .i64 x6, .int .i64 x7, .int .i64 x8, .int .i64 x9, .int .i64 x10, .int .i64 x11, .int .u64 x12]
def S23_ : Shp := ⟨[(1, .one (.ptr 0 0)), (2, .one (.ptr 1 0))], [.box true (lk qid), .box true (lk qeq)]⟩
def S24_ : Shp := ⟨[(1, .one (.ptr 0 0)), (2, .one (.ptr 1 0)), (4, .one (.l (.i .i64))), (5, .one (.l .s))], [.box true (lk qid), .box true (lk qeq)]⟩
def S25_ : Shp := ⟨[(0, .st (lk qid))], []⟩
def qks : AV → Option (AV × Int) := decN [(.st [.b, (.i .u64), (.i .u64), .s, .s, .s, (.i .i64), (.i .i64), (.i .i64), (.i .i64), (.i .i64), (.i .i64), (.i .u64)]), (.one (.i .i64))] fun z => ((gC (tpL z) 0), aI (gC (tpL z) 1))
def qws  (Al : List UInt8) (Am : Bool) (An : Int) (Ao : Bool) (Ap Aq : Int) (Ar As At : List UInt8) (Au Av Aw Ax Ay Az A0 : Int) (K : Ex → Env → Mem → Option (AV × Int)) := (fun z_v15 => K .norm (ql [(1, (.ptr 0 0)), (2, (.ptr 1 0)), (15, (.bool z_v15))]) (qf [(some (.box true (qie Al Am An))), (some (.box true (qe1 Ao Ap Aq Ar As At Au Av Aw Ax Ay Az A0)))]))
def qg5  (Al : List UInt8) (Am : Bool) (An : Int) (Ao : Bool) (Ap Aq : Int) (Ar As At : List UInt8) (Au Av Aw Ax Ay Az A0 : Int) (kn : Bool → Option (AV × Int)) : Option (AV × Int) :=
  (oB (qgd Al) fun r1 => (bif (!r1) then (kn true) else (oB (ixB Al (0 : Int)) fun c2 => (kn ((c2.toNat : Int) == (42 : Int))))))
def qqp := hull (qg5)
theorem qwt : qqp = qg5 := qb _
def qx4 : SubB Tryz.prog (TIof Tryz.prog) 38 0 (kret [(.cell 2 true 13), .t 3] qks) := jnB tabOk follows Tryz.f32 9 (.r [(2, .c qjo.b)] [.sel [1, 2, 15] [0, 1]]) S23_ (qg5) (fun f v K => f (v.s 3 0) (v.b 3 1) (v.i 3 2) (v.b 7 0) (v.i 7 1) (v.i 7 2) (v.s 7 3) (v.s 7 4) (v.s 7 5) (v.i 7 6) (v.i 7 7) (v.i 7 8) (v.i 7 9) (v.i 7 10) (v.i 7 11) (v.i 7 12) (qws (v.s 3 0) (v.b 3 1) (v.i 3 2) (v.b 7 0) (v.i 7 1) (v.i 7 2) (v.s 7 3) (v.s 7 4) (v.s 7 5) (v.i 7 6) (v.i 7 7) (v.i 7 8) (v.i 7 9) (v.i 7 10) (v.i 7 11) (v.i 7 12) K)) (by kernel_rfl) (fun _ _ => (by kernel_rfl))
def qui  (Al : List UInt8) (Am : Bool) (An : Int) (Ao : Bool) (Ap Aq : Int) (Ar As At : List UInt8) (Au Av Aw Ax Ay Az A0 : Int) (K : Ex → Env → Mem → Option (AV × Int)) := (fun z_v4 z_v5 => K .norm (ql [(1, (.ptr 0 0)), (2, (.ptr 1 0)), (4, (.int .i64 z_v4)), (5, (.str z_v5))]) (qf [(some (.box true (qie Al Am An))), (some (.box true (qe1 Ao Ap Aq Ar As At Au Av Aw Ax Ay Az A0)))]))
def qgj  (v4 : Int) (v5 Al : List UInt8) (Am : Bool) (An : Int) (Ao : Bool) (Ap Aq : Int) (Ar As At : List UInt8) (Au Av Aw Ax Ay Az A0 : Int) (kn : Int → (List UInt8) → Option (AV × Int)) : Option (AV × Int) :=
  (bif Am then (kn (257 : Int) ([75] : List UInt8)) else (kn v4 v5))
def qpg := hull (qgj)
theorem quj : qpg = qgj := qb _
def qwu : SubB Tryz.prog (TIof Tryz.prog) 38 0 (kret [(.cell 2 true 13), .t 3] qks) := jnB tabOk follows Tryz.f32 47 (.s .z (.s (.v [.sel [1, 2, 4, 5] [0, 1]]) (.v [.sel [1, 2, 4, 5] [0, 1]]))) S24_ (qgj) (fun f v K => f (v.i 16 0) (v.s 20 0) (v.s 3 0) (v.b 3 1) (v.i 3 2) (v.b 7 0) (v.i 7 1) (v.i 7 2) (v.s 7 3) (v.s 7 4) (v.s 7 5) (v.i 7 6) (v.i 7 7) (v.i 7 8) (v.i 7 9) (v.i 7 10) (v.i 7 11) (v.i 7 12) (qui (v.s 3 0) (v.b 3 1) (v.i 3 2) (v.b 7 0) (v.i 7 1) (v.i 7 2) (v.s 7 3) (v.s 7 4) (v.s 7 5) (v.i 7 6) (v.i 7 7) (v.i 7 8) (v.i 7 9) (v.i 7 10) (v.i 7 11) (v.i 7 12) K)) (by kernel_rfl) (fun _ _ => (by kernel_rfl))
def qjq (Aa : List UInt8) (Ab : Bool) (Ac : Int) : Option (AV × Int) :=
  (qqp Aa Ab Ac false (0 : Int) (0 : Int) ([] : List UInt8) ([] : List UInt8) ([] : List UInt8) (0 : Int) (0 : Int) (0 : Int) (0 : Int) (0 : Int) (0 : Int) (0 : Int) (fun v15q1 => (bif v15q1 then (some ((.agg [(.bool false), (.int .u64 (0 : Int)), (.int .u64 (0 : Int)), (.str ([] : List UInt8)), (.str ([] : List UInt8)), (.str ([] : List UInt8)), (.int .i64 (0 : Int)), (.int .i64 (0 : Int)), (.int .i64 (0 : Int)), (.int .i64 (0 : Int)), (.int .i64 (0 : Int)), (.int .i64 (0 : Int)), (.int .u64 (0 : Int))]), (2 : Int))) else (bif ((decide (Ac < (0 : Int))) || (decide (Ac ≥ (2147483648 : Int)))) then (some ((.agg [(.bool false), (.int .u64 (0 : Int)), (.int .u64 (0 : Int)), (.str ([] : List UInt8)), (.str ([] : List UInt8)), (.str ([] : List UInt8)), (.int .i64 (0 : Int)), (.int .i64 (0 : Int)), (.int .i64 (0 : Int)), (.int .i64 (0 : Int)), (.int .i64 (0 : Int)), (.int .i64 (0 : Int)), (.int .u64 (0 : Int))]), (1 : Int))) else (qpg (256 : Int) ([90] : List UInt8) Aa Ab Ac false (0 : Int) (0 : Int) ([] : List UInt8) ([] : List UInt8) ([] : List UInt8) (0 : Int) (0 : Int) (0 : Int) (0 : Int) (0 : Int) (0 : Int) (0 : Int) (fun v4q2 v5q3 => (oB (q0e Ac) fun r4 => (bif decide (v5q3.length + r4.length ≤ 9223372036854775807) then (oB (qrz Aa (v5q3 ++ r4)) fun r5 => (some ((.agg [(.bool false), (.int .u64 (0 : Int)), (.int .u64 (0 : Int)), (.str ([] : List UInt8)), (.str ([] : List UInt8)), (.str r5), (.int .i64 v4q2), (.int .i64 (3 : Int)), (.int .i64 (253 : Int)), (.int .i64 (0 : Int)), (.int .i64 (0 : Int)), (.int .i64 (0 : Int)), (.int .u64 (0 : Int))]), (0 : Int)))) else none))))))))
def qp8 := hull qjq
theorem q0o : qp8 = qjq := qb _
def q2q {R : Type} : EntF Tryz.prog R := entB (nt := 38) (dec := qks) (enc := (fun r => .tup [qnw (.st [.b, (.i .u64), (.i .u64), .s, .s, .s, (.i .i64), (.i .i64), (.i .i64), (.i .i64), (.i .i64), (.i .i64), (.i .u64)]) r.1, .int .i64 r.2])) tabOk follows Tryz.func32 [(.cell 2 true 13), .t 3] (hdeN fun _ => rfl) (.s .z (.s (.s (.sub [.sel [1, 2] [0, 1]] qx4 []) .z) (.s (.s (.r [(4, .g 3)] []) .z) (.s .z (.s (.sub [.sel [1, 2, 4, 5] [0, 1]] qwu []) (.s (.d [] [(6, .c (eB qbb6)), (8, .c q3s.b)] [] []) .z)))))) S25_ qjq (fun f v => f (v.s 1 0) (v.b 1 1) (v.i 1 2)) (by kernel_rfl) (by kernel_rfl) (by kernel_rfl) fun _ => (by kernel_rfl)
def qm0 : Option (List AV) :=
  (bif hd ([(.agg [(.int .i64 (1 : Int)), (.str ([65] : List UInt8)), (.str ([52] : List UInt8))]), (.agg [(.int .i64 (2 : Int)), (.str ([78, 83] : List UInt8)), (.str ([104] : List UInt8))]), (.agg [(.int .i64 (5 : Int)), (.str ([67, 78, 65, 77, 69] : List UInt8)), (.str ([104] : List UInt8))]), (.agg [(.int .i64 (6 : Int)), (.str ([83, 79, 65] : List UInt8)), (.str ([104, 109, 118, 119, 120, 121, 122] : List UInt8))]), (.agg [(.int .i64 (12 : Int)), (.str ([80, 84, 82] : List UInt8)), (.str ([104] : List UInt8))]), (.agg [(.int .i64 (15 : Int)), (.str ([77, 88] : List UInt8)), (.str ([65, 104] : List UInt8))]), (.agg [(.int .i64 (16 : Int)), (.str ([84, 88, 84] : List UInt8)), (.str ([116] : List UInt8))]), (.agg [(.int .i64 (28 : Int)), (.str ([65, 65, 65, 65] : List UInt8)), (.str ([54] : List UInt8))]), (.agg [(.int .i64 (33 : Int)), (.str ([83, 82, 86] : List UInt8)), (.str ([65, 66, 67, 104] : List UInt8))]), (.agg [(.int .i64 (39 : Int)), (.str ([68, 78, 65, 77, 69] : List UInt8)), (.str ([104] : List UInt8))]), (.agg [(.int .i64 (43 : Int)), (.str ([68, 83] : List UInt8)), (.str ([65, 98, 99, 114] : List UInt8))]), (.agg [(.int .i64 (46 : Int)), (.str ([82, 82, 83, 73, 71] : List UInt8)), (.str ([65, 115, 98, 120, 121, 122, 70, 104, 114] : List UInt8))]), (.agg [(.int .i64 (47 : Int)), (.str ([78, 83, 69, 67] : List UInt8)), (.str ([104, 110] : List UInt8))]), (.agg [(.int .i64 (48 : Int)), (.str ([68, 78, 83, 75, 69, 89] : List UInt8)), (.str ([65, 98, 99, 114] : List UInt8))])] : List AV) (([(.agg [(.int .i64 (1 : Int)), (.str ([65] : List UInt8)), (.str ([52] : List UInt8))]), (.agg [(.int .i64 (2 : Int)), (.str ([78, 83] : List UInt8)), (.str ([104] : List UInt8))]), (.agg [(.int .i64 (5 : Int)), (.str ([67, 78, 65, 77, 69] : List UInt8)), (.str ([104] : List UInt8))]), (.agg [(.int .i64 (6 : Int)), (.str ([83, 79, 65] : List UInt8)), (.str ([104, 109, 118, 119, 120, 121, 122] : List UInt8))]), (.agg [(.int .i64 (12 : Int)), (.str ([80, 84, 82] : List UInt8)), (.str ([104] : List UInt8))]), (.agg [(.int .i64 (15 : Int)), (.str ([77, 88] : List UInt8)), (.str ([65, 104] : List UInt8))]), (.agg [(.int .i64 (16 : Int)), (.str ([84, 88, 84] : List UInt8)), (.str ([116] : List UInt8))]), (.agg [(.int .i64 (28 : Int)), (.str ([65, 65, 65, 65] : List UInt8)), (.str ([54] : List UInt8))]), (.agg [(.int .i64 (33 : Int)), (.str ([83, 82, 86] : List UInt8)), (.str ([65, 66, 67, 104] : List UInt8))]), (.agg [(.int .i64 (39 : Int)), (.str ([68, 78, 65, 77, 69] : List UInt8)), (.str ([104] : List UInt8))]), (.agg [(.int .i64 (43 : Int)), (.str ([68, 83] : List UInt8)), (.str ([65, 98, 99, 114] : List UInt8))]), (.agg [(.int .i64 (46 : Int)), (.str ([82, 82, 83, 73, 71] : List UInt8)), (.str ([65, 115, 98, 120, 121, 122, 70, 104, 114] : List UInt8))]), (.agg [(.int .i64 (47 : Int)), (.str ([78, 83, 69, 67] : List UInt8)), (.str ([104, 110] : List UInt8))]), (.agg [(.int .i64 (48 : Int)), (.str ([68, 78, 83, 75, 69, 89] : List UInt8)), (.str ([65, 98, 99, 114] : List UInt8))])] : List AV).length) then (some ([(.agg [(.int .i64 (1 : Int)), (.str ([65] : List UInt8)), (.str ([52] : List UInt8))]), (.agg [(.int .i64 (2 : Int)), (.str ([78, 83] : List UInt8)), (.str ([104] : List UInt8))]), (.agg [(.int .i64 (5 : Int)), (.str ([67, 78, 65, 77, 69] : List UInt8)), (.str ([104] : List UInt8))]), (.agg [(.int .i64 (6 : Int)), (.str ([83, 79, 65] : List UInt8)), (.str ([104, 109, 118, 119, 120, 121, 122] : List UInt8))]), (.agg [(.int .i64 (12 : Int)), (.str ([80, 84, 82] : List UInt8)), (.str ([104] : List UInt8))]), (.agg [(.int .i64 (15 : Int)), (.str ([77, 88] : List UInt8)), (.str ([65, 104] : List UInt8))]), (.agg [(.int .i64 (16 : Int)), (.str ([84, 88, 84] : List UInt8)), (.str ([116] : List UInt8))]), (.agg [(.int .i64 (28 : Int)), (.str ([65, 65, 65, 65] : List UInt8)), (.str ([54] : List UInt8))]), (.agg [(.int .i64 (33 : Int)), (.str ([83, 82, 86] : List UInt8)), (.str ([65, 66, 67, 104] : List UInt8))]), (.agg [(.int .i64 (39 : Int)), (.str ([68, 78, 65, 77, 69] : List UInt8)), (.str ([104] : List UInt8))]), (.agg [(.int .i64 (43 : Int)), (.str ([68, 83] : List UInt8)), (.str ([65, 98, 99, 114] : List UInt8))]), (.agg [(.int .i64 (46 : Int)), (.str ([82, 82, 83, 73, 71] : List UInt8)), (.str ([65, 115, 98, 120, 121, 122, 70, 104, 114] : List UInt8))]), (.agg [(.int .i64 (47 : Int)), (.str ([78, 83, 69, 67] : List UInt8)), (.str ([104, 110] : List UInt8))]), (.agg [(.int .i64 (48 : Int)), (.str ([68, 78, 83, 75, 69, 89] : List UInt8)), (.str ([65, 98, 99, 114] : List UInt8))])] : List AV)) else none)
def qp9 := hull qm0
theorem q0p : qp9 = qm0 := qb _
def qtj {R : Type} : EntF Tryz.prog R := entB (nt := 16) (dec := (decF true 3)) (enc := (AV.fr true 3)) tabOk follows Tryz.func100 [.t 0] hdeF (.z) (⟨[], []⟩ : Shp) qm0 (fun f v => f) (by kernel_rfl) (by kernel_rfl) (by kernel_rfl) fun _ => (by kernel_rfl)
def qfi : List LT := [(.i .i64), .s, .s]
def qkt (x0 : Int) (x1 x2 : List UInt8) : List AV := [.int .i64 x0, .str x1, .str x2]
def S26_ : Shp := ⟨[(0, .one (.l (.i .i64))), (2, .one (.ptr 0 0)), (6, .one (.l (.sl 3))), (7, .one (.l (.i .i64))), (8, .one (.l (.i .i64)))], [.box true (lk qfi)]⟩
def S27_ : Shp := ⟨[(0, .one (.l (.i .i64)))], []⟩
def qqq : AV → Option (AV × Bool) := decN [(.st [(.i .i64), .s, .s]), (.one .b)] fun z => ((gC (tpL z) 0), aB (gC (tpL z) 1))
def qna  (Al : Int) (Am An : List UInt8) (K : Ex → Env → Mem → Option (AV × Bool)) := (fun (_ : Unit) => K (.exit 0) (ql [(2, (.ptr 0 0))]) (qf [(some (.box true (qkt Al Am An)))]))
def qph  (v0 : Int) (v6 : List AV) (v7 v8 Al : Int) (Am An : List UInt8) (next : Int → Option (AV × Bool)) (kx0 : Unit → Option (AV × Bool)) : Option (AV × Bool) :=
  (bif (decide (v8 < v7)) then (oB (ixB v6 v8) fun y1 => (bif fitC qfi y1.cells then (bif ((gI y1.cells 0) == v0) then (some ((.agg [(.int .i64 (gI y1.cells 0)), (.str (gS y1.cells 1)), (.str (gS y1.cells 2))]), true)) else (next (IntKind.i64.wrap (v8 + (1 : Int))))) else none)) else (kx0 ()))
def qh4  (v0 : Int) (v6 : List AV) (v7 Al : Int) (Am An : List UInt8) (kx0 : Unit → Option (AV × Bool)) : Nat → Int → Option (AV × Bool)
  | 0 => (fun _ => none)
  | n + 1 => (fun v8 => qph v0 v6 v7 v8 Al Am An (qh4 v0 v6 v7 Al Am An kx0 n) kx0)
def qtk := hull (qh4)
theorem qx5 : qtk = qh4 := qb _
def qyw : SubB Tryz.prog (TIof Tryz.prog) 19 0 (kret [(.cell 2 true 3), .t 3] qqq) := lpB tabOk follows Tryz.f73 37 (.s .z (.s (.s .z (.v [.sel [2] [0]])) (.s (.b (.s (.r [(0, .p (.etac 10 qfi))] []) .z)) (.v [.sel [0, 2, 6, 7, 8] [0]])))) S26_ (qh4) (fun f v K n => f (v.i 0 0) (v.l 24 0) (v.i 28 0) (v.i 3 0) (v.s 3 1) (v.s 3 2) (qna (v.i 3 0) (v.s 3 1) (v.s 3 2) K) n) (fun v f K => qph (v.i 0 0) (v.l 24 0) (v.i 28 0) (v.i 32 0) (v.i 3 0) (v.s 3 1) (v.s 3 2) f (qna (v.i 3 0) (v.s 3 1) (v.s 3 2) K)) (fun f v => f (v.i 32 0)) (fun k v => (fun z0 => k (v.ui 32 0 z0))) (by kernel_rfl) (fun _ _ => (by kernel_rfl)) (fun _ _ _ => (by kernel_rfl)) (fun _ _ _ => (by kernel_rfl)) (fun _ _ => (by kernel_rfl)) (fun _ _ _ _ _ => (by kernel_rfl))
def qku (v0 : Int) : Option (AV × Bool) :=
  (oB (qp9) fun r1 => (qtk v0 r1 (r1.length : Int) (0 : Int) ([] : List UInt8) ([] : List UInt8) (fun (_ : Unit) => (some ((.agg [(.int .i64 (0 : Int)), (.str ([] : List UInt8)), (.str ([] : List UInt8))]), false))) FU (0 : Int)))
def qnj := hull qku
theorem q2r : qnj = qku := qb _
def quk {R : Type} : EntF Tryz.prog R := entB (nt := 19) (dec := qqq) (enc := (fun r => .tup [qnw (.st [(.i .i64), .s, .s]) r.1, .bool r.2])) tabOk follows Tryz.func73 [(.cell 2 true 3), .t 3] (hdeN fun _ => rfl) (.s .z (.s (.s (.r [(0, .k qtj.b)] []) (.b (.sub [.sel [0, 2, 6, 7, 8] [0]] qyw []))) .z)) S27_ qku (fun f v => f (v.i 0 0)) (by kernel_rfl) (by kernel_rfl) (by kernel_rfl) fun _ => (by kernel_rfl)
def q68 : List LT := [.b, (.i .u64), (.i .u64)]
def S28_ : Shp := ⟨[(0, .st (lk q68))], []⟩
def qul (Aa : Bool) (Ab Ac : Int) : Option Bool :=
  (bif Aa then (some true) else (bif (Ab == (0 : Int)) then (some (decide (Ac ≤ (4294967295 : Int)))) else (some false)))
def qyx := hull qul
def qum {R : Type} : EntF Tryz.prog R := entB (nt := 15) (dec := decB) (enc := AV.bool) tabOk follows Tryz.func101 [.t 2] hdeB (.z) S28_ qul (fun f v => f (v.b 1 0) (v.i 1 1) (v.i 1 2)) (by kernel_rfl) (by kernel_rfl) (by kernel_rfl) fun _ => (by kernel_rfl)
def qi6 (v0 v1 : List UInt8) : Option Bool :=
  (bif (decide ((v0.length : Int) ≥ (v1.length : Int))) then (oB (cutI v0 none (some (v1.length : Int))) fun s1 => (some (s1 == v1))) else (some false))
def qqr := hull qi6
def qo6 {R : Type} : EntF Tryz.prog R := entB (nt := 18) (dec := decB) (enc := AV.bool) tabOk follows Tryz.func152 [.t 4] hdeB (.z) S9_ qi6 (fun f v => f (v.s 0 0) (v.s 4 0)) (by kernel_rfl) (by kernel_rfl) (by kernel_rfl) fun _ => (by kernel_rfl)
def qlq (v0 v1 : List UInt8) : Option Bool :=
  (oB (qqr v0 v1) fun r1 => (some r1))
def qwv := hull qlq
def qt0 {R : Type} : EntF Tryz.prog R := entB (nt := 8) (dec := decB) (enc := AV.bool) tabOk follows Tryz.func136 [.t 4] hdeB (.s .z (.s (.r [(2, .c qo6.b)] []) .z)) S9_ qlq (fun f v => f (v.s 0 0) (v.s 4 0)) (by kernel_rfl) (by kernel_rfl) (by kernel_rfl) fun _ => (by kernel_rfl)
def qun (v0 : List UInt8) : Option Bool :=
  (oB (qgd v0) fun r1 => (bif r1 then (oB (qwv v0 ([42] : List UInt8)) fun r2 => (some (!r2))) else (some false)))
def qis := hull qun
def qgu {R : Type} : EntF Tryz.prog R := entB (nt := 10) (dec := decB) (enc := AV.bool) tabOk follows Tryz.func102 [.t 2] hdeB (.s .z (.s (.r [(1, .c qjo.b), (4, .c qt0.b)] []) .z)) S16_ qun (fun f v => f (v.s 0 0)) (by kernel_rfl) (by kernel_rfl) (by kernel_rfl) fun _ => (by kernel_rfl)
def qqs (v0 : Int) : Option Bool :=
  (some ((decide (v0 ≥ (0 : Int))) && (decide (v0 < (4294967296 : Int)))))
def q3t := hull qqs
def q0q {R : Type} : EntF Tryz.prog R := entB (nt := 9) (dec := decB) (enc := AV.bool) tabOk follows Tryz.func103 [.t 2] hdeB (.s .z (.s (.r [(3, .g 2)] []) .z)) S27_ qqs (fun f v => f (v.i 0 0)) (by kernel_rfl) (by kernel_rfl) (by kernel_rfl) fun _ => (by kernel_rfl)
def S29_ : Shp := ⟨[(0, .one (.l (.i .i64))), (1, .one (.l (.i .i64)))], []⟩
def qlu (v0 v1 : Int) : Option Bool :=
  (some ((decide (v0 ≥ (0 : Int))) && (decide (v0 ≤ v1))))
def qx := hull qlu
theorem qyy : qx = qlu := qb _
def qy {R : Type} : EntF Tryz.prog R := entB (nt := 12) (dec := decB) (enc := AV.bool) tabOk follows Tryz.func104 [.t 4] hdeB (.s .z (.s (.r [(3, .g 3)] []) .z)) S29_ qlu (fun f v => f (v.i 0 0) (v.i 4 0)) (by kernel_rfl) (by kernel_rfl) (by kernel_rfl) fun _ => (by kernel_rfl)
def qkv (v0 : List UInt8) : Option Bool :=
  (some ((decide ((v0.length : Int) ≥ (1 : Int))) && (decide ((v0.length : Int) ≤ (255 : Int)))))
def qkw := hull qkv
theorem q2s : qkw = qkv := qb _
def qoa {R : Type} : EntF Tryz.prog R := entB (nt := 11) (dec := decB) (enc := AV.bool) tabOk follows Tryz.func105 [.t 2] hdeB (.s .z (.s (.r [(4, .g 3)] []) .z)) S16_ qkv (fun f v => f (v.s 0 0)) (by kernel_rfl) (by kernel_rfl) (by kernel_rfl) fun _ => (by kernel_rfl)
def qtl (v0 : Int) : Option Bool :=
  (oB (qnj v0) fun r1 => (some r1.2))
def q5q := hull qtl
def q2t {R : Type} : EntF Tryz.prog R := entB (nt := 11) (dec := decB) (enc := AV.bool) tabOk follows Tryz.func106 [.t 2] hdeB (.s .z (.s (.r [(1, .c quk.b)] []) .z)) S27_ qtl (fun f v => f (v.i 0 0)) (by kernel_rfl) (by kernel_rfl) (by kernel_rfl) fun _ => (by kernel_rfl)
def S30_ : Shp := ⟨[(1, .one (.l (.i .u64))), (4, .one (.l (.sl 3))), (5, .one (.l (.i .i64))), (6, .one (.l (.i .i64)))], []⟩
def qob  (K : Ex → Env → Mem → Option Int) := (fun z_v1 => K (.exit 0) (ql [(1, (.int .u64 z_v1))]) (qf []))
def qqt  (v1 : Int) (v4 : List AV) (v5 v6 : Int) (next : Int → Int → Option Int) (kx0 : Int → Option Int) : Option Int :=
  (bif (decide (v6 < v5)) then (oB (ixB v4 v6) fun y1 => (bif fitC qfi y1.cells then (bif decide ((gI y1.cells 0) < 0) then none else (next (qd9 .or .u64 v1 (IntKind.u64.wrap ((1 : Int) * 2 ^ min (gI y1.cells 0).toNat IntKind.u64.bits))) (IntKind.i64.wrap (v6 + (1 : Int))))) else none)) else (kx0 v1))
def qlv  (v4 : List AV) (v5 : Int) (kx0 : Int → Option Int) : Nat → Int → Int → Option Int
  | 0 => (fun _ _ => none)
  | n + 1 => (fun v1 v6 => qqt v1 v4 v5 v6 (qlv v4 v5 kx0 n) kx0)
def q3u := hull (qlv)
def q0r : SubB Tryz.prog (TIof Tryz.prog) 17 0 (kret [.t 0] (decI .u64)) := lpB tabOk follows Tryz.f107 75 (.s .z (.s (.s .z (.v [.sel [1] []])) (.s (.b (.s (.r [(0, .p (.etac 8 qfi))] []) .z)) (.v [.sel [1, 4, 5, 6] []])))) S30_ (qlv) (fun f v K n => f (v.l 16 0) (v.i 20 0) (qob K) n) (fun v f K => qqt (v.i 4 0) (v.l 16 0) (v.i 20 0) (v.i 24 0) f (qob K)) (fun f v => f (v.i 4 0) (v.i 24 0)) (fun k v => (fun z0 z1 => k ((v.ui 4 0 z0).ui 24 0 z1))) (by kernel_rfl) (fun _ _ => (by kernel_rfl)) (fun _ _ _ => (by kernel_rfl)) (fun _ _ _ => (by kernel_rfl)) (fun _ _ => (by kernel_rfl)) (fun _ _ _ _ _ => (by kernel_rfl))
def qxd : Option Int :=
  (oB (qp9) fun r1 => (q3u r1 (r1.length : Int) (fun v1q2 => (some v1q2)) FU (0 : Int) (0 : Int)))
def q73 := hull qxd
def q5r {R : Type} : EntF Tryz.prog R := entB (nt := 17) (dec := (decI .u64)) (enc := (AV.int .u64)) tabOk follows Tryz.func107 [.t 0] hdeI (.s .z (.s .z (.s (.s (.r [(0, .k qtj.b)] []) (.b (.sub [.sel [1, 4, 5, 6] []] q0r []))) .z))) (⟨[], []⟩ : Shp) qxd (fun f v => f) (by kernel_rfl) (by kernel_rfl) (by kernel_rfl) fun _ => (by kernel_rfl)
def S31_ : Shp := ⟨[(0, .one (.l (.i .i64))), (3, .one (.ptr 0 0)), (5, .one (.l (.i .i64)))], [.box true (lk qeq)]⟩
def S32_ : Shp := ⟨[(3, .one (.ptr 0 0)), (5, .one (.l (.i .i64)))], [.box true (lk qeq)]⟩
def S33_ : Shp := ⟨[(3, .one (.ptr 0 0))], [.box true (lk qeq)]⟩
def S34_ : Shp := ⟨[(0, .one (.l (.i .i64))), (1, .st (lk qeq))], []⟩
def qww  (v0 v5 : Int) (Al : Bool) (Am An : Int) (A1 A2 A3 : List UInt8) (A4 A5 A6 A7 A8 A9 Ba : Int) (K : Ex → Env → Mem → Option Bool) := (fun z_v6 => K .norm (ql [(0, (.int .i64 v0)), (3, (.ptr 0 0)), (5, (.int .i64 v5)), (6, (.bool z_v6))]) (qf [(some (.box true (qe1 Al Am An A1 A2 A3 A4 A5 A6 A7 A8 A9 Ba)))]))
def qg6  (v0 v5 : Int) (Al : Bool) (Am An : Int) (A1 A2 A3 : List UInt8) (A4 A5 A6 A7 A8 A9 Ba : Int) (kn : Bool → Option Bool) : Option Bool :=
  (bif (v5 == (1 : Int)) then (kn true) else (kn (v5 == (28 : Int))))
def qqu := hull (qg6)
theorem qwx : qqu = qg6 := qb _
def qx6 : SubB Tryz.prog (TIof Tryz.prog) 324 0 (kret [.t 4] decB) := jnB tabOk follows Tryz.f74 37 (.s .z (.s (.v [.sel [0, 3, 5, 6] [0]]) (.v [.sel [0, 3, 5, 6] [0]]))) S31_ (qg6) (fun f v K => f (v.i 0 0) (v.i 20 0) (v.b 3 0) (v.i 3 1) (v.i 3 2) (v.s 3 3) (v.s 3 4) (v.s 3 5) (v.i 3 6) (v.i 3 7) (v.i 3 8) (v.i 3 9) (v.i 3 10) (v.i 3 11) (v.i 3 12) (qww (v.i 0 0) (v.i 20 0) (v.b 3 0) (v.i 3 1) (v.i 3 2) (v.s 3 3) (v.s 3 4) (v.s 3 5) (v.i 3 6) (v.i 3 7) (v.i 3 8) (v.i 3 9) (v.i 3 10) (v.i 3 11) (v.i 3 12) K)) (by kernel_rfl) (fun _ _ => (by kernel_rfl))
def qup  (v5 : Int) (Al : Bool) (Am An : Int) (A1 A2 A3 : List UInt8) (A4 A5 A6 A7 A8 A9 Ba : Int) (K : Ex → Env → Mem → Option Bool) := (fun z_v27 => K .norm (ql [(3, (.ptr 0 0)), (5, (.int .i64 v5)), (27, (.bool z_v27))]) (qf [(some (.box true (qe1 Al Am An A1 A2 A3 A4 A5 A6 A7 A8 A9 Ba)))]))
def qgk  (v5 : Int) (Al : Bool) (Am An : Int) (A1 A2 A3 : List UInt8) (A4 A5 A6 A7 A8 A9 Ba : Int) (kn : Bool → Option Bool) : Option Bool :=
  (bif (v5 == (2 : Int)) then (kn true) else (bif (v5 == (5 : Int)) then (kn true) else (bif (v5 == (12 : Int)) then (kn true) else (kn (v5 == (39 : Int))))))
def qpi := hull (qgk)
theorem quq : qpi = qgk := qb _
def qwy : SubB Tryz.prog (TIof Tryz.prog) 324 0 (kret [.t 4] decB) := jnB tabOk follows Tryz.f74 181 (.s .z (.s (.v [.sel [3, 5, 27] [0]]) (.s .z (.s (.v [.sel [3, 5, 27] [0]]) (.s .z (.s (.v [.sel [3, 5, 27] [0]]) (.v [.sel [3, 5, 27] [0]]))))))) S32_ (qgk) (fun f v K => f (v.i 20 0) (v.b 3 0) (v.i 3 1) (v.i 3 2) (v.s 3 3) (v.s 3 4) (v.s 3 5) (v.i 3 6) (v.i 3 7) (v.i 3 8) (v.i 3 9) (v.i 3 10) (v.i 3 11) (v.i 3 12) (qup (v.i 20 0) (v.b 3 0) (v.i 3 1) (v.i 3 2) (v.s 3 3) (v.s 3 4) (v.s 3 5) (v.i 3 6) (v.i 3 7) (v.i 3 8) (v.i 3 9) (v.i 3 10) (v.i 3 11) (v.i 3 12) K)) (by kernel_rfl) (fun _ _ => (by kernel_rfl))
def qur  (K : Ex → Env → Mem → Option Bool) := (fun z_v4 => K .norm (ql [(4, (.bool z_v4))]) (qf []))
def qnb  (Al : Bool) (Am An : Int) (A1 A2 A3 : List UInt8) (A4 A5 A6 A7 A8 A9 Ba : Int) (kn : Bool → Option Bool) : Option Bool :=
  (bif ((Al == false) && ((Am == (0 : Int)) && ((An == (0 : Int)) && ((A1 == A1) && ((A2 == A2) && ((A3 == ([] : List UInt8)) && ((A4 == A4) && ((A5 == A5) && ((A6 == A6) && ((A7 == A7) && ((A8 == A8) && ((A9 == (0 : Int)) && ((Ba == (0 : Int)) && true))))))))))))) then (oB (qis A1) fun r1 => (bif r1 then (oB (qis A2) fun r2 => (bif r2 then (oB (q3t A4) fun r3 => (bif r3 then (oB (qx A5 (2147483647 : Int)) fun r4 => (bif r4 then (oB (qx A6 (2147483647 : Int)) fun r5 => (bif r5 then (oB (qx A7 (2147483647 : Int)) fun r6 => (bif r6 then (oB (qx A8 (2147483647 : Int)) fun r7 => (kn r7)) else (kn false))) else (kn false))) else (kn false))) else (kn false))) else (kn false))) else (kn false))) else (kn false))
def qyz := hull (qnb)
def qwz : SubB Tryz.prog (TIof Tryz.prog) 324 0 (kret [.t 4] decB) := jnB tabOk follows Tryz.f74 2549 (.r [(20, .c qgu.b), (25, .c qgu.b), (30, .c q0q.b), (35, .c qy.b), (40, .c qy.b), (45, .c qy.b), (50, .c qy.b)] [.sel [4] []]) S33_ (qnb) (fun f v K => f (v.b 3 0) (v.i 3 1) (v.i 3 2) (v.s 3 3) (v.s 3 4) (v.s 3 5) (v.i 3 6) (v.i 3 7) (v.i 3 8) (v.i 3 9) (v.i 3 10) (v.i 3 11) (v.i 3 12) (qur K)) (by kernel_rfl) (fun _ _ => (by kernel_rfl))
def qus  (K : Ex → Env → Mem → Option Bool) := (fun z_v4 => K .norm (ql [(4, (.bool z_v4))]) (qf []))
def qnc  (Al : Bool) (Am An : Int) (A1 A2 A3 : List UInt8) (A4 A5 A6 A7 A8 A9 Ba : Int) (kn : Bool → Option Bool) : Option Bool :=
  (bif ((Al == false) && ((Am == (0 : Int)) && ((An == (0 : Int)) && ((A1 == A1) && ((A2 == ([] : List UInt8)) && ((A3 == A3) && ((A4 == A4) && ((A5 == A5) && ((A6 == A6) && ((A7 == A7) && ((A8 == A8) && ((A9 == A9) && ((Ba == (0 : Int)) && true))))))))))))) then (oB (qkw A3) fun r1 => (bif r1 then (oB (qis A1) fun r2 => (bif r2 then (oB (q5q A4) fun r3 => (bif (r3 && (A4 != (46 : Int))) then (oB (qx A5 (127 : Int)) fun r4 => (bif r4 then (oB (qx A6 (2147483647 : Int)) fun r5 => (bif r5 then (oB (qx A7 (4294967295 : Int)) fun r6 => (bif r6 then (oB (qx A8 (4294967295 : Int)) fun r7 => (bif r7 then (oB (qx A9 (65535 : Int)) fun r8 => (kn r8)) else (kn false))) else (kn false))) else (kn false))) else (kn false))) else (kn false))) else (kn false))) else (kn false))) else (kn false))
def qy0 := hull (qnc)
def qw0 : SubB Tryz.prog (TIof Tryz.prog) 324 0 (kret [.t 4] decB) := jnB tabOk follows Tryz.f74 2621429 (.r [(22, .c qoa.b), (27, .c qgu.b), (32, .c q2t.b), (35, .g 3), (42, .c qy.b), (47, .c qy.b), (52, .c qy.b), (57, .c qy.b), (62, .c qy.b)] [.sel [4] []]) S33_ (qnc) (fun f v K => f (v.b 3 0) (v.i 3 1) (v.i 3 2) (v.s 3 3) (v.s 3 4) (v.s 3 5) (v.i 3 6) (v.i 3 7) (v.i 3 8) (v.i 3 9) (v.i 3 10) (v.i 3 11) (v.i 3 12) (qus K)) (by kernel_rfl) (fun _ _ => (by kernel_rfl))
def qut  (K : Ex → Env → Mem → Option Bool) := (fun z_v4 => K .norm (ql [(4, (.bool z_v4))]) (qf []))
def qgl  (Al : Bool) (Am An : Int) (A1 A2 A3 : List UInt8) (A4 A5 A6 A7 A8 A9 Ba : Int) (kn : Bool → Option Bool) : Option Bool :=
  (bif ((Al == false) && ((Am == (0 : Int)) && ((An == (0 : Int)) && ((A1 == ([] : List UInt8)) && ((A2 == ([] : List UInt8)) && ((A3 == A3) && ((A4 == A4) && ((A5 == A5) && ((A6 == A6) && ((A7 == (0 : Int)) && ((A8 == (0 : Int)) && ((A9 == (0 : Int)) && ((Ba == (0 : Int)) && true))))))))))))) then (oB (qkw A3) fun r1 => (bif r1 then (bif (A4 == (256 : Int)) then (bif (A5 == (3 : Int)) then (oB (qx A6 (255 : Int)) fun r2 => (kn r2)) else (kn false)) else (bif ((A4 == (257 : Int)) && (A5 == (3 : Int))) then (oB (qx A6 (255 : Int)) fun r3 => (kn r3)) else (kn false))) else (kn false))) else (kn false))
def qpj := hull (qgl)
theorem quu : qpj = qgl := qb _
def qw1 : SubB Tryz.prog (TIof Tryz.prog) 324 0 (kret [.t 4] decB) := jnB tabOk follows Tryz.f74 41943029 (.r [(14, .c qoa.b), (27, .g 3), (34, .c qy.b)] [.sel [4] []]) S33_ (qgl) (fun f v K => f (v.b 3 0) (v.i 3 1) (v.i 3 2) (v.s 3 3) (v.s 3 4) (v.s 3 5) (v.i 3 6) (v.i 3 7) (v.i 3 8) (v.i 3 9) (v.i 3 10) (v.i 3 11) (v.i 3 12) (qut K)) (by kernel_rfl) (fun _ _ => (by kernel_rfl))
def qjr (v0 : Int) (Bb : Bool) (Bc Bd : Int) (Be Bf Bg : List UInt8) (Bh Bi Bj Bl Bm Bn Bo : Int) : Option Bool :=
  (qqu v0 v0 Bb Bc Bd Be Bf Bg Bh Bi Bj Bl Bm Bn Bo (fun v6q1 => (bif v6q1 then (bif ((Bb == Bb) && ((Bc == Bc) && ((Bd == Bd) && ((Be == ([] : List UInt8)) && ((Bf == ([] : List UInt8)) && ((Bg == ([] : List UInt8)) && ((Bh == (0 : Int)) && ((Bi == (0 : Int)) && ((Bj == (0 : Int)) && ((Bl == (0 : Int)) && ((Bm == (0 : Int)) && ((Bn == (0 : Int)) && ((Bo == (0 : Int)) && true))))))))))))) then (oB (qyx Bb Bc Bd) fun r2 => (some (r2 && ((Bb == (v0 == (28 : Int))) && true)))) else (some false)) else (qpi v0 Bb Bc Bd Be Bf Bg Bh Bi Bj Bl Bm Bn Bo (fun v27q3 => (bif v27q3 then (bif ((Bb == false) && ((Bc == (0 : Int)) && ((Bd == (0 : Int)) && ((Be == Be) && ((Bf == ([] : List UInt8)) && ((Bg == ([] : List UInt8)) && ((Bh == (0 : Int)) && ((Bi == (0 : Int)) && ((Bj == (0 : Int)) && ((Bl == (0 : Int)) && ((Bm == (0 : Int)) && ((Bn == (0 : Int)) && ((Bo == (0 : Int)) && true))))))))))))) then (oB (qis Be) fun r4 => (some r4)) else (some false)) else (bif (v0 == (6 : Int)) then (qyz Bb Bc Bd Be Bf Bg Bh Bi Bj Bl Bm Bn Bo (fun v4q5 => (some v4q5))) else (bif (v0 == (15 : Int)) then (bif ((Bb == false) && ((Bc == (0 : Int)) && ((Bd == (0 : Int)) && ((Be == Be) && ((Bf == ([] : List UInt8)) && ((Bg == ([] : List UInt8)) && ((Bh == Bh) && ((Bi == (0 : Int)) && ((Bj == (0 : Int)) && ((Bl == (0 : Int)) && ((Bm == (0 : Int)) && ((Bn == (0 : Int)) && ((Bo == (0 : Int)) && true))))))))))))) then (oB (qis Be) fun r6 => (bif r6 then (oB (qx Bh (65535 : Int)) fun r7 => (some r7)) else (some false))) else (some false)) else (bif (v0 == (16 : Int)) then (some (((Bb == false) && ((Bc == (0 : Int)) && ((Bd == (0 : Int)) && ((Be == ([] : List UInt8)) && ((Bf == ([] : List UInt8)) && ((Bg == Bg) && ((Bh == (0 : Int)) && ((Bi == (0 : Int)) && ((Bj == (0 : Int)) && ((Bl == (0 : Int)) && ((Bm == (0 : Int)) && ((Bn == (0 : Int)) && ((Bo == (0 : Int)) && true))))))))))))) && (decide ((Bg.length : Int) ≤ (255 : Int))))) else (bif (v0 == (33 : Int)) then (bif ((Bb == false) && ((Bc == (0 : Int)) && ((Bd == (0 : Int)) && ((Be == Be) && ((Bf == ([] : List UInt8)) && ((Bg == ([] : List UInt8)) && ((Bh == Bh) && ((Bi == Bi) && ((Bj == Bj) && ((Bl == (0 : Int)) && ((Bm == (0 : Int)) && ((Bn == (0 : Int)) && ((Bo == (0 : Int)) && true))))))))))))) then (oB (qis Be) fun r8 => (bif r8 then (oB (qx Bh (65535 : Int)) fun r9 => (bif r9 then (oB (qx Bi (65535 : Int)) fun r10 => (bif r10 then (oB (qx Bj (65535 : Int)) fun r11 => (some r11)) else (some false))) else (some false))) else (some false))) else (some false)) else (bif (v0 == (43 : Int)) then (bif ((Bb == false) && ((Bc == (0 : Int)) && ((Bd == (0 : Int)) && ((Be == ([] : List UInt8)) && ((Bf == ([] : List UInt8)) && ((Bg == Bg) && ((Bh == Bh) && ((Bi == Bi) && ((Bj == Bj) && ((Bl == (0 : Int)) && ((Bm == (0 : Int)) && ((Bn == (0 : Int)) && ((Bo == (0 : Int)) && true))))))))))))) then (oB (qkw Bg) fun r12 => (bif r12 then (oB (qx Bh (65535 : Int)) fun r13 => (bif r13 then (oB (qx Bi (255 : Int)) fun r14 => (bif r14 then (oB (qx Bj (255 : Int)) fun r15 => (some r15)) else (some false))) else (some false))) else (some false))) else (some false)) else (bif (v0 == (46 : Int)) then (qy0 Bb Bc Bd Be Bf Bg Bh Bi Bj Bl Bm Bn Bo (fun v4q16 => (some v4q16))) else (bif (v0 == (47 : Int)) then (bif ((Bb == false) && ((Bc == (0 : Int)) && ((Bd == (0 : Int)) && ((Be == Be) && ((Bf == ([] : List UInt8)) && ((Bg == ([] : List UInt8)) && ((Bh == (0 : Int)) && ((Bi == (0 : Int)) && ((Bj == (0 : Int)) && ((Bl == (0 : Int)) && ((Bm == (0 : Int)) && ((Bn == (0 : Int)) && ((Bo == Bo) && true))))))))))))) then (oB (qgd Be) fun r17 => (bif r17 then (bif (Bo != (0 : Int)) then (oB (q73) fun r18 => (some ((qd9 .andNot .u64 Bo r18) == (0 : Int)))) else (some false)) else (some false))) else (some false)) else (bif (v0 == (48 : Int)) then (qpj Bb Bc Bd Be Bf Bg Bh Bi Bj Bl Bm Bn Bo (fun v4q19 => (some v4q19))) else (some false)))))))))))))))
def qqa := hull qjr
theorem q0s : qqa = qjr := qb _
def q2u {R : Type} : EntF Tryz.prog R := entB (nt := 324) (dec := decB) (enc := AV.bool) tabOk follows Tryz.func74 [.t 4] hdeB (.s .z (.s (.s .z (.b (.s (.sub [.sel [0, 3, 5] [0]] qx6 []) (.s (.s (.r [(8, .c qum.b), (11, .g 6)] []) .z) (.s (.sub [.sel [3, 5] [0]] qwy []) (.s (.s (.r [(8, .c qgu.b)] []) .z) (.s .z (.s (.s (.sub [.sel [3] [0]] qwz []) .z) (.s .z (.s (.s (.r [(10, .c qgu.b), (15, .c qy.b)] []) .z) (.s .z (.s (.s (.r [(6, .g 4)] []) .z) (.s .z (.s (.s (.r [(14, .c qgu.b), (19, .c qy.b), (24, .c qy.b), (29, .c qy.b)] []) .z) (.s .z (.s (.s (.r [(14, .c qoa.b), (19, .c qy.b), (24, .c qy.b), (29, .c qy.b)] []) .z) (.s .z (.s (.s (.sub [.sel [3] [0]] qw0 []) .z) (.s .z (.s (.s (.d [] [(10, .c qjo.b), (20, .c q5r.b)] [] []) .z) (.s .z (.s (.s (.sub [.sel [3] [0]] qw1 []) .z) .z)))))))))))))))))))))) .z)) S34_ qjr (fun f v => f (v.i 0 0) (v.b 5 0) (v.i 5 1) (v.i 5 2) (v.s 5 3) (v.s 5 4) (v.s 5 5) (v.i 5 6) (v.i 5 7) (v.i 5 8) (v.i 5 9) (v.i 5 10) (v.i 5 11) (v.i 5 12)) (by kernel_rfl) (by kernel_rfl) (by kernel_rfl) fun _ => (by kernel_rfl)
def quv  (v0 : List UInt8) (K : Ex → Env → Mem → Option (List AV)) := (fun z_v9 => K .norm (ql [(0, (.str v0)), (9, (.bool z_v9))]) (qf []))
def qnd  (v0 : List UInt8) (kn : Bool → Option (List AV)) : Option (List AV) :=
  (bif (v0 == ([46] : List UInt8)) then (kn true) else (oB (qgd v0) fun r1 => (kn (!r1))))
def qy1 := hull (qnd)
def qw2 : SubB Tryz.prog (TIof Tryz.prog) 16 0 (kret [.t 2] (decX (.one (.sl 1)) fun z => aL z)) := jnB tabOk follows Tryz.f108 9 (.r [(4, .c qjo.b)] [.sel [0, 9] []]) S16_ (qnd) (fun f v K => f (v.s 0 0) (quv (v.s 0 0) K)) (by kernel_rfl) (fun _ _ => (by kernel_rfl))
def qqv (v0 : List UInt8) : Option (List AV) :=
  (qy1 v0 (fun v9q1 => (bif v9q1 then (some ([] : List AV)) else (oB (cutI v0 none (some (IntKind.i64.wrap ((v0.length : Int) - (1 : Int))))) fun s2 => (oB (qjm s2 ([46] : List UInt8)) fun r3 => (some r3))))))
def q3v := hull qqv
def q0t {R : Type} : EntF Tryz.prog R := entB (nt := 16) (dec := (decX (.one (.sl 1)) fun z => aL z)) (enc := (fun r => .sl 1 r)) tabOk follows Tryz.func108 [.t 2] (hdeX fun _ => rfl) (.s .z (.s (.s (.sub [.sel [0] []] qw2 []) (.s (.s .z (.v [.eta 2 (.one (.sl 1))])) .z)) (.s (.r [(5, .k qpd.b)] []) .z))) S16_ qqv (fun f v => f (v.s 0 0)) (by kernel_rfl) (by kernel_rfl) (by kernel_rfl) fun _ => (by kernel_rfl)
def S35_ : Shp := ⟨[(3, .one (.l .s)), (7, .one (.l (.sl 1))), (8, .one (.l (.i .i64))), (9, .one (.l (.i .i64)))], []⟩
def qne  (K : Ex → Env → Mem → Option (List UInt8)) := (fun z_v3 => K (.exit 0) (ql [(3, (.str z_v3))]) (qf []))
def qpk  (v3 : List UInt8) (v7 : List AV) (v8 v9 : Int) (next : (List UInt8) → Int → Option (List UInt8)) (kx0 : (List UInt8) → Option (List UInt8)) : Option (List UInt8) :=
  (bif (decide (v9 < v8)) then (oB (ixB v7 v9) fun y1 => (bif fitC [.s] y1.cells then (bif hd ([(.int .u8 (IntKind.u8.wrap ((gS y1.cells 0).length : Int)))] : List AV) (([(.int .u8 (IntKind.u8.wrap ((gS y1.cells 0).length : Int)))] : List AV).length) then (oB (qb2 ([(.int .u8 (IntKind.u8.wrap ((gS y1.cells 0).length : Int)))] : List AV)) fun s2 => (bif decide (s2.length + (gS y1.cells 0).length ≤ 9223372036854775807) then (bif decide (v3.length + (s2 ++ (gS y1.cells 0)).length ≤ 9223372036854775807) then (next (v3 ++ (s2 ++ (gS y1.cells 0))) (IntKind.i64.wrap (v9 + (1 : Int)))) else none) else none)) else none) else none)) else (kx0 v3))
def qkx  (v7 : List AV) (v8 : Int) (kx0 : (List UInt8) → Option (List UInt8)) : Nat → (List UInt8) → Int → Option (List UInt8)
  | 0 => (fun _ _ => none)
  | n + 1 => (fun v3 v9 => qpk v3 v7 v8 v9 (qkx v7 v8 kx0 n) kx0)
def q2v := hull (qkx)
def qy2 : SubB Tryz.prog (TIof Tryz.prog) 25 0 (kret [.t 2] decS) := lpB tabOk follows Tryz.f75 75 (.s .z (.s (.s .z (.v [.sel [3] []])) (.s (.b (.s (.r [(0, .p (.etac 11 [.s]))] []) .z)) (.v [.sel [3, 7, 8, 9] []])))) S35_ (qkx) (fun f v K n => f (v.l 28 0) (v.i 32 0) (qne K) n) (fun v f K => qpk (v.s 12 0) (v.l 28 0) (v.i 32 0) (v.i 36 0) f (qne K)) (fun f v => f (v.s 12 0) (v.i 36 0)) (fun k v => (fun z0 z1 => k ((v.us 12 0 z0).ui 36 0 z1))) (by kernel_rfl) (fun _ _ => (by kernel_rfl)) (fun _ _ _ => (by kernel_rfl)) (fun _ _ _ => (by kernel_rfl)) (fun _ _ => (by kernel_rfl)) (fun _ _ _ _ _ => (by kernel_rfl))
def quw (v0 : List UInt8) : Option (List UInt8) :=
  (oB (q3v v0) fun r1 => (q2v r1 (r1.length : Int) (fun v3q2 => (bif decide (v3q2.length + ([0] : List UInt8).length ≤ 9223372036854775807) then (some (v3q2 ++ ([0] : List UInt8))) else none)) FU ([] : List UInt8) (0 : Int)))
def qy3 := hull quw
def qux {R : Type} : EntF Tryz.prog R := entB (nt := 25) (dec := decS) (enc := AV.str) tabOk follows Tryz.func75 [.t 2] hdeS (.s .z (.s .z (.s (.s (.r [(1, .k q0t.b)] []) (.b (.sub [.sel [3, 7, 8, 9] []] qy2 []))) .z))) S16_ quw (fun f v => f (v.s 0 0)) (by kernel_rfl) (by kernel_rfl) (by kernel_rfl) fun _ => (by kernel_rfl)
def qnf  (K : Ex → Env → Mem → Option (List AV)) := (fun z_a0 => K (.exit 0) (ql [(3, (.own 0 z_a0.length))]) (qf [(some (.arr true 1 z_a0))]))
def qpl  (v0 v7 v8 : Int) (a0 : List AV) (next : Int → (List AV) → Option (List AV)) (kx0 : (List AV) → Option (List AV)) : Option (List AV) :=
  (bif (decide (v8 < v7)) then (bif decide ((IntKind.i64.wrap ((56 : Int) - (IntKind.i64.wrap ((8 : Int) * v8)))) < 0) then none else (bif hd a0 a0.length then (bif decide (0 ≤ v8 ∧ v8 < a0.length) then (bif hd a0 a0.length then (oB (a0[v8.toNat]?) fun y1 => (oB (putE y1 0 1 [(.int .u8 (IntKind.u8.wrap (v0.fdiv (2 ^ min (IntKind.i64.wrap ((56 : Int) - (IntKind.i64.wrap ((8 : Int) * v8)))).toNat IntKind.u64.bits))))]) fun z2 => (bif hd (a0.set v8.toNat z2) a0.length then (next (IntKind.i64.wrap (v8 + (1 : Int))) (a0.set v8.toNat z2)) else none))) else none) else none) else none)) else (kx0 a0))
def qky  (v0 v7 : Int) (kx0 : (List AV) → Option (List AV)) : Nat → Int → (List AV) → Option (List AV)
  | 0 => (fun _ _ => none)
  | n + 1 => (fun v8 a0 => qpl v0 v7 v8 a0 (qky v0 v7 kx0 n) kx0)
def q2w := hull (qky)
def qy4 : SubB Tryz.prog (TIof Tryz.prog) 22 0 (kret [.t 2] (decF true 1)) := lpB tabOk follows Tryz.f109 75 (.s .z (.s (.s .z (.v [.sel [3] [0]])) (.s .z (.v [.hd 3, .sel [0, 3, 7, 8] [0]])))) S19_ (qky) (fun f v K n => f (v.i 0 0) (v.i 28 0) (qnf K) n) (fun v f K => qpl (v.i 0 0) (v.i 28 0) (v.i 32 0) (v.r 0) f (qnf K)) (fun f v => f (v.i 32 0) (v.r 0)) (fun k v => (fun z0 z1 => k ((v.ui 32 0 z0).ur 0 z1))) (by kernel_rfl) (fun _ _ => (by kernel_rfl)) (fun _ _ _ => (by kernel_rfl)) (fun _ _ _ => (by kernel_rfl)) (fun _ _ => (by kernel_rfl)) (fun _ _ _ _ _ => (by kernel_rfl))
def quy (v0 : Int) : Option (List AV) :=
  (bif decide (0 ≤ (8 : Int) ∧ (8 : Int) ≤ (8 : Int) ∧ (8 : Int) * 1 ≤ 281474976710656) then (bif (hd (List.replicate (8 : Int).toNat ((.int .u8 (0 : Int)) : AV)) ((List.replicate (8 : Int).toNat ((.int .u8 (0 : Int)) : AV)).length) && true) then (q2w v0 (((List.replicate (8 : Int).toNat ((.int .u8 (0 : Int)) : AV)).length) : Int) (fun a0q1 => (bif hd a0q1 a0q1.length then (some a0q1) else none)) FU (0 : Int) (List.replicate (8 : Int).toNat ((.int .u8 (0 : Int)) : AV))) else none) else none)
def qr0 := hull quy
def qoc {R : Type} : EntF Tryz.prog R := entB (nt := 22) (dec := (decF true 1)) (enc := (AV.fr true 1)) tabOk follows Tryz.func109 [.t 2] hdeF (.s .z (.s .z (.s (.s .z (.b (.sub [.sel [0, 3, 7, 8] [0]] qy4 []))) .z))) S20_ quy (fun f v => f (v.i 0 0)) (by kernel_rfl) (by kernel_rfl) (by kernel_rfl) fun _ => (by kernel_rfl)
def q2x : AV → Option ((List UInt8) × Int) := decN [(.one .s), (.one (.i .i64))] fun z => (aS (gC (tpL z) 0), aI (gC (tpL z) 1))
def qxe (Aa : Bool) (Ab Ac : Int) : Option ((List UInt8) × Int) :=
  (oB (qyx Aa Ab Ac) fun r1 => (bif (!r1) then (some (([] : List UInt8), (3 : Int))) else (bif (!Aa) then (oB (qr0 Ac) fun r2 => (oB (cutI r2 (some (4 : Int)) none) fun s3 => (oB (qb2 s3) fun s4 => (some (s4, (0 : Int)))))) else (oB (qr0 Ab) fun r5 => (oB (qb2 r5) fun s6 => (oB (qr0 Ac) fun r7 => (oB (qb2 r7) fun s8 => (bif decide (s6.length + s8.length ≤ 9223372036854775807) then (some ((s6 ++ s8), (0 : Int))) else none))))))))
def q74 := hull qxe
def q5s {R : Type} : EntF Tryz.prog R := entB (nt := 26) (dec := q2x) (enc := (fun r => .tup [.str r.1, .int .i64 r.2])) tabOk follows Tryz.func76 [.t 2, .t 3] (hdeN fun _ => rfl) (.s .z (.s (.b (.s (.r [(1, .c qum.b)] []) (.s .z (.s .z (.s (.s (.r [(2, .k qoc.b)] []) .z) .z))))) (.s (.d [] [(2, .c qoc.b), (6, .c qoc.b)] [] []) .z))) S28_ qxe (fun f v => f (v.b 1 0) (v.i 1 1) (v.i 1 2)) (by kernel_rfl) (by kernel_rfl) (by kernel_rfl) fun _ => (by kernel_rfl)
def q75 {R : Type} (vs : List AV) (m : Mem) (K : AV → Mem → Option R) : Option R := qyo vs m K
theorem q76 {R : Type} : qju Tryz.prog 78 (q75 (R := R)) := qba8
def S36_ : Shp := ⟨[(0, .one (.l (.i .i64))), (5, .one (.own 0)), (6, .one (.l (.i .i64)))], [.arr true 1]⟩
def qlr  (K : Ex → Env → Mem → Option (List UInt8)) := (fun z_a0 => K (.exit 0) (ql [(5, (.own 0 z_a0.length))]) (qf [(some (.arr true 1 z_a0))]))
def qng  (v0 v6 : Int) (a0 : List AV) (next : Int → Int → (List AV) → Option (List UInt8)) (kx0 : (List AV) → Option (List UInt8)) : Option (List UInt8) :=
  (bif (decide (v6 ≥ (0 : Int))) then (bif hd a0 a0.length then (bif decide (0 ≤ v6 ∧ v6 < a0.length) then (bif hd a0 a0.length then (oB (a0[v6.toNat]?) fun y1 => (oB (putE y1 0 1 [(.int .u8 (IntKind.u8.wrap v0))]) fun z2 => (bif hd (a0.set v6.toNat z2) a0.length then (next (v0.fdiv (2 ^ min (8 : Int).toNat IntKind.i64.bits)) (IntKind.i64.wrap (v6 - (1 : Int))) (a0.set v6.toNat z2)) else none))) else none) else none) else none) else (kx0 a0))
def qgm  (kx0 : (List AV) → Option (List UInt8)) : Nat → Int → Int → (List AV) → Option (List UInt8)
  | 0 => (fun _ _ _ => none)
  | n + 1 => (fun v0 v6 a0 => qng v0 v6 a0 (qgm kx0 n) kx0)
def qpm := hull (qgm)
theorem qif : qpm = qgm := qb _
def qw3 : SubB Tryz.prog (TIof Tryz.prog) 24 0 (kret [.t 4] decS) := lpB tabOk follows Tryz.f79 75 (.s (.s .z (.s .z (.v [.sel [5] [0]]))) (.s .z (.v [.hd 5, .sel [0, 5, 6] [0]]))) S36_ (qgm) (fun f v K n => f (qlr K) n) (fun v f K => qng (v.i 0 0) (v.i 24 0) (v.r 0) f (qlr K)) (fun f v => f (v.i 0 0) (v.i 24 0) (v.r 0)) (fun k v => (fun z0 z1 z2 => k (((v.ui 0 0 z0).ui 24 0 z1).ur 0 z2))) (by kernel_rfl) (fun _ _ => (by kernel_rfl)) (fun _ _ _ => (by kernel_rfl)) (fun _ _ _ => (by kernel_rfl)) (fun _ _ => (by kernel_rfl)) (fun _ _ _ _ _ => (by kernel_rfl))
def qfd (v0 v1 : Int) : Option (List UInt8) :=
  (bif decide (0 ≤ v1 ∧ v1 ≤ v1 ∧ v1 * 1 ≤ 281474976710656) then (bif (hd (List.replicate v1.toNat ((.int .u8 (0 : Int)) : AV)) ((List.replicate v1.toNat ((.int .u8 (0 : Int)) : AV)).length) && true) then (qpm (fun a0q1 => (bif hd a0q1 a0q1.length then (oB (qb2 a0q1) fun s2 => (some s2)) else none)) FU v0 (IntKind.i64.wrap (v1 - (1 : Int))) (List.replicate v1.toNat ((.int .u8 (0 : Int)) : AV))) else none) else none)
def qw := hull qfd
theorem qkz : qw = qfd := qb _
def q0u {R : Type} : EntF Tryz.prog R := entB (nt := 24) (dec := decS) (enc := AV.str) tabOk follows Tryz.func79 [.t 4] hdeS (.s .z (.s .z (.s (.s .z (.b (.sub [.sel [0, 5, 6] [0]] qw3 []))) .z))) S29_ qfd (fun f v => f (v.i 0 0) (v.i 4 0)) (by kernel_rfl) (by kernel_rfl) (by kernel_rfl) fun _ => (by kernel_rfl)
def S37_ : Shp := ⟨[(3, .one (.ptr 0 0)), (6, .one (.ptr 1 0)), (8, .one (.l .s)), (10, .one (.l (.i .u8))), (31, .one (.l (.i .i64))), (32, .one (.l (.i .i64))), (39, .one (.l (.i .u8)))], [.box true (lk qeq), .box true (lk qfi)]⟩
def S38_ : Shp := ⟨[(3, .one (.ptr 0 0)), (6, .one (.ptr 1 0)), (8, .one (.l .s)), (31, .one (.l (.i .i64))), (32, .one (.l (.i .i64)))], [.box true (lk qeq), .box true (lk qfi)]⟩
def qit : AV → Option ((List UInt8) × Int) := decN [(.one .s), (.one (.i .i64))] fun z => (aS (gC (tpL z) 0), aI (gC (tpL z) 1))
def qw4  (v8 : List UInt8) (v10 v31 v32 v39 : Int) (Al : Bool) (Am An : Int) (A1 A2 A3 : List UInt8) (A4 A5 A6 A7 A8 A9 Ba Ao : Int) (Ap Aq : List UInt8) (K : Ex → Env → Mem → Option ((List UInt8) × Int)) := (fun z_v66 => K .norm (ql [(3, (.ptr 0 0)), (6, (.ptr 1 0)), (8, (.str v8)), (10, (.int .u8 v10)), (31, (.int .i64 v31)), (32, (.int .i64 v32)), (39, (.int .u8 v39)), (66, (.bool z_v66))]) (qf [(some (.box true (qe1 Al Am An A1 A2 A3 A4 A5 A6 A7 A8 A9 Ba))), (some (.box true (qkt Ao Ap Aq)))]))
def qc6  (v8 : List UInt8) (v10 v31 v32 v39 : Int) (Al : Bool) (Am An : Int) (A1 A2 A3 : List UInt8) (A4 A5 A6 A7 A8 A9 Ba Ao : Int) (Ap Aq : List UInt8) (kn : Bool → Option ((List UInt8) × Int)) : Option ((List UInt8) × Int) :=
  (bif (v39 == (52 : Int)) then (kn true) else (kn (v39 == (54 : Int))))
def qqw := hull (qc6)
theorem qgn : qqw = qc6 := qb _
def qx7 : SubB Tryz.prog (TIof Tryz.prog) 118 0 (kret [.t 4, .t 5] qit) := jnB tabOk follows Tryz.f55 3109679 (.s .z (.s (.v [.sel [3, 6, 8, 10, 31, 32, 39, 66] [0, 1]]) (.v [.sel [3, 6, 8, 10, 31, 32, 39, 66] [0, 1]]))) S37_ (qc6) (fun f v K => f (v.s 32 0) (v.i 40 0) (v.i 124 0) (v.i 128 0) (v.i 156 0) (v.b 3 0) (v.i 3 1) (v.i 3 2) (v.s 3 3) (v.s 3 4) (v.s 3 5) (v.i 3 6) (v.i 3 7) (v.i 3 8) (v.i 3 9) (v.i 3 10) (v.i 3 11) (v.i 3 12) (v.i 7 0) (v.s 7 1) (v.s 7 2) (qw4 (v.s 32 0) (v.i 40 0) (v.i 124 0) (v.i 128 0) (v.i 156 0) (v.b 3 0) (v.i 3 1) (v.i 3 2) (v.s 3 3) (v.s 3 4) (v.s 3 5) (v.i 3 6) (v.i 3 7) (v.i 3 8) (v.i 3 9) (v.i 3 10) (v.i 3 11) (v.i 3 12) (v.i 7 0) (v.s 7 1) (v.s 7 2) K)) (by kernel_rfl) (fun _ _ => (by kernel_rfl))
def qw5  (v31 v32 : Int) (Al : Bool) (Am An : Int) (A1 A2 A3 : List UInt8) (A4 A5 A6 A7 A8 A9 Ba Ao : Int) (Ap Aq : List UInt8) (K : Ex → Env → Mem → Option ((List UInt8) × Int)) := (fun z_v8 => K .norm (ql [(3, (.ptr 0 0)), (6, (.ptr 1 0)), (8, (.str z_v8)), (31, (.int .i64 v31)), (32, (.int .i64 v32))]) (qf [(some (.box true (qe1 Al Am An A1 A2 A3 A4 A5 A6 A7 A8 A9 Ba))), (some (.box true (qkt Ao Ap Aq)))]))
def qg7  (v8 : List UInt8) (v31 v32 : Int) (Al : Bool) (Am An : Int) (A1 A2 A3 : List UInt8) (A4 A5 A6 A7 A8 A9 Ba Ao : Int) (Ap Aq : List UInt8) (kn : (List UInt8) → Option ((List UInt8) × Int)) : Option ((List UInt8) × Int) :=
  (oB (ixB Aq v32) fun c1 => (bif ((c1.toNat : Int) == (104 : Int)) then (oB (qy3 A1) fun r2 => (bif decide (v8.length + r2.length ≤ 9223372036854775807) then (kn (v8 ++ r2)) else none)) else (bif ((c1.toNat : Int) == (109 : Int)) then (oB (qy3 A2) fun r3 => (bif decide (v8.length + r3.length ≤ 9223372036854775807) then (kn (v8 ++ r3)) else none)) else (qqw v8 (c1.toNat : Int) v31 v32 (c1.toNat : Int) Al Am An A1 A2 A3 A4 A5 A6 A7 A8 A9 Ba Ao Ap Aq (fun v66q4 => (bif v66q4 then (oB (q74 Al Am An) fun r5 => (bif decide (v8.length + r5.1.length ≤ 9223372036854775807) then (kn (v8 ++ r5.1)) else none)) else (bif ((c1.toNat : Int) == (116 : Int)) then (bif hd ([(.int .u8 (IntKind.u8.wrap (A3.length : Int)))] : List AV) (([(.int .u8 (IntKind.u8.wrap (A3.length : Int)))] : List AV).length) then (oB (qb2 ([(.int .u8 (IntKind.u8.wrap (A3.length : Int)))] : List AV)) fun s6 => (bif decide (s6.length + A3.length ≤ 9223372036854775807) then (bif decide (v8.length + (s6 ++ A3).length ≤ 9223372036854775807) then (kn (v8 ++ (s6 ++ A3))) else none) else none)) else none) else (bif ((c1.toNat : Int) == (114 : Int)) then (bif decide (v8.length + A3.length ≤ 9223372036854775807) then (kn (v8 ++ A3)) else none) else (bif ((c1.toNat : Int) == (115 : Int)) then (bif decide (v8.length + ([253] : List UInt8).length ≤ 9223372036854775807) then (kn (v8 ++ ([253] : List UInt8))) else none) else (bif ((c1.toNat : Int) == (110 : Int)) then none else (bif ((c1.toNat : Int) == (65 : Int)) then (oB (qw A4 (2 : Int)) fun r23 => (bif decide (v8.length + r23.length ≤ 9223372036854775807) then (kn (v8 ++ r23)) else none)) else (bif ((c1.toNat : Int) == (66 : Int)) then (oB (qw A5 (2 : Int)) fun r22 => (bif decide (v8.length + r22.length ≤ 9223372036854775807) then (kn (v8 ++ r22)) else none)) else (bif ((c1.toNat : Int) == (67 : Int)) then (oB (qw A6 (2 : Int)) fun r21 => (bif decide (v8.length + r21.length ≤ 9223372036854775807) then (kn (v8 ++ r21)) else none)) else (bif ((c1.toNat : Int) == (68 : Int)) then (oB (qw A7 (2 : Int)) fun r20 => (bif decide (v8.length + r20.length ≤ 9223372036854775807) then (kn (v8 ++ r20)) else none)) else (bif ((c1.toNat : Int) == (69 : Int)) then (oB (qw A8 (2 : Int)) fun r19 => (bif decide (v8.length + r19.length ≤ 9223372036854775807) then (kn (v8 ++ r19)) else none)) else (bif ((c1.toNat : Int) == (70 : Int)) then (oB (qw A9 (2 : Int)) fun r18 => (bif decide (v8.length + r18.length ≤ 9223372036854775807) then (kn (v8 ++ r18)) else none)) else (bif ((c1.toNat : Int) == (97 : Int)) then (oB (qw A4 (1 : Int)) fun r17 => (bif decide (v8.length + r17.length ≤ 9223372036854775807) then (kn (v8 ++ r17)) else none)) else (bif ((c1.toNat : Int) == (98 : Int)) then (oB (qw A5 (1 : Int)) fun r16 => (bif decide (v8.length + r16.length ≤ 9223372036854775807) then (kn (v8 ++ r16)) else none)) else (bif ((c1.toNat : Int) == (99 : Int)) then (oB (qw A6 (1 : Int)) fun r15 => (bif decide (v8.length + r15.length ≤ 9223372036854775807) then (kn (v8 ++ r15)) else none)) else (bif ((c1.toNat : Int) == (100 : Int)) then (oB (qw A7 (1 : Int)) fun r14 => (bif decide (v8.length + r14.length ≤ 9223372036854775807) then (kn (v8 ++ r14)) else none)) else (bif ((c1.toNat : Int) == (101 : Int)) then (oB (qw A8 (1 : Int)) fun r13 => (bif decide (v8.length + r13.length ≤ 9223372036854775807) then (kn (v8 ++ r13)) else none)) else (bif ((c1.toNat : Int) == (102 : Int)) then (oB (qw A9 (1 : Int)) fun r12 => (bif decide (v8.length + r12.length ≤ 9223372036854775807) then (kn (v8 ++ r12)) else none)) else (bif ((c1.toNat : Int) == (118 : Int)) then (oB (qw A4 (4 : Int)) fun r11 => (bif decide (v8.length + r11.length ≤ 9223372036854775807) then (kn (v8 ++ r11)) else none)) else (bif ((c1.toNat : Int) == (119 : Int)) then (oB (qw A5 (4 : Int)) fun r10 => (bif decide (v8.length + r10.length ≤ 9223372036854775807) then (kn (v8 ++ r10)) else none)) else (bif ((c1.toNat : Int) == (120 : Int)) then (oB (qw A6 (4 : Int)) fun r9 => (bif decide (v8.length + r9.length ≤ 9223372036854775807) then (kn (v8 ++ r9)) else none)) else (bif ((c1.toNat : Int) == (121 : Int)) then (oB (qw A7 (4 : Int)) fun r8 => (bif decide (v8.length + r8.length ≤ 9223372036854775807) then (kn (v8 ++ r8)) else none)) else (bif ((c1.toNat : Int) == (122 : Int)) then (oB (qw A8 (4 : Int)) fun r7 => (bif decide (v8.length + r7.length ≤ 9223372036854775807) then (kn (v8 ++ r7)) else none)) else none)))))))))))))))))))))))))))
def qlw := hull (qg7)
theorem qw6 : qlw = qg7 := qb _
def qx8 : SubB Tryz.prog (TIof Tryz.prog) 118 0 (kret [.t 4, .t 5] qit) := jnB tabOk follows Tryz.f55 2863 (.b (.s .z (.s .z (.s .z (.b (.s .z (.s (.r [(3, .c qux.b)] [.sel [3, 6, 8, 31, 32] [0, 1]]) (.s .z (.s (.r [(3, .c qux.b)] [.sel [3, 6, 8, 31, 32] [0, 1]]) (.s (.sub [.sel [3, 6, 8, 10, 31, 32, 39] [0, 1]] qx7 []) (.s (.s (.r [(2, .c q5s.b)] []) (.v [.sel [3, 6, 8, 31, 32] [0, 1]])) (.s .z (.s (.v [.sel [3, 6, 8, 31, 32] [0, 1]]) (.s .z (.s (.v [.sel [3, 6, 8, 31, 32] [0, 1]]) (.s .z (.s (.v [.sel [3, 6, 8, 31, 32] [0, 1]]) (.s .z (.s (.s (.r [(2, .c (eK (q5c (f := 77))))] []) .z) (.s (.r [(1, .r (rB q76))] []) (.r [(5, .c q0u.b)] [.sel [3, 6, 8, 31, 32] [0, 1]]))))))))))))))))))))) S38_ (qg7) (fun f v K => f (v.s 32 0) (v.i 124 0) (v.i 128 0) (v.b 3 0) (v.i 3 1) (v.i 3 2) (v.s 3 3) (v.s 3 4) (v.s 3 5) (v.i 3 6) (v.i 3 7) (v.i 3 8) (v.i 3 9) (v.i 3 10) (v.i 3 11) (v.i 3 12) (v.i 7 0) (v.s 7 1) (v.s 7 2) (qw5 (v.i 124 0) (v.i 128 0) (v.b 3 0) (v.i 3 1) (v.i 3 2) (v.s 3 3) (v.s 3 4) (v.s 3 5) (v.i 3 6) (v.i 3 7) (v.i 3 8) (v.i 3 9) (v.i 3 10) (v.i 3 11) (v.i 3 12) (v.i 7 0) (v.s 7 1) (v.s 7 2) K)) (by kernel_rfl) (fun _ _ => (by kernel_rfl))
def qmo  (K : Ex → Env → Mem → Option ((List UInt8) × Int)) := (fun z_v8 => K (.exit 1) (ql [(8, (.str z_v8))]) (qf []))
def qfj  (v8 : List UInt8) (v31 v32 : Int) (Al : Bool) (Am An : Int) (A1 A2 A3 : List UInt8) (A4 A5 A6 A7 A8 A9 Ba Ao : Int) (Ap Aq : List UInt8) (next : (List UInt8) → Int → Option ((List UInt8) × Int)) (kx1 : (List UInt8) → Option ((List UInt8) × Int)) : Option ((List UInt8) × Int) :=
  (bif (decide (v32 < v31)) then (qlw v8 v31 v32 Al Am An A1 A2 A3 A4 A5 A6 A7 A8 A9 Ba Ao Ap Aq (fun v8q1 => (next v8q1 (IntKind.i64.wrap (v32 + (1 : Int)))))) else (kx1 v8))
def qc7  (v31 : Int) (Al : Bool) (Am An : Int) (A1 A2 A3 : List UInt8) (A4 A5 A6 A7 A8 A9 Ba Ao : Int) (Ap Aq : List UInt8) (kx1 : (List UInt8) → Option ((List UInt8) × Int)) : Nat → (List UInt8) → Int → Option ((List UInt8) × Int)
  | 0 => (fun _ _ => none)
  | n + 1 => (fun v8 v32 => qfj v8 v31 v32 Al Am An A1 A2 A3 A4 A5 A6 A7 A8 A9 Ba Ao Ap Aq (qc7 v31 Al Am An A1 A2 A3 A4 A5 A6 A7 A8 A9 Ba Ao Ap Aq kx1 n) kx1)
def qqx := hull (qc7)
theorem qw7 : qqx = qc7 := qb _
def qx9 : SubB Tryz.prog (TIof Tryz.prog) 118 0 (kret [.t 4, .t 5] qit) := lpB tabOk follows Tryz.f55 303 (.s .z (.s (.s .z (.v [.sel [8] []])) (.s (.sub [.sel [3, 6, 8, 31, 32] [0, 1]] qx8 []) (.v [.sel [3, 6, 8, 31, 32] [0, 1]])))) S38_ (qc7) (fun f v K n => f (v.i 124 0) (v.b 3 0) (v.i 3 1) (v.i 3 2) (v.s 3 3) (v.s 3 4) (v.s 3 5) (v.i 3 6) (v.i 3 7) (v.i 3 8) (v.i 3 9) (v.i 3 10) (v.i 3 11) (v.i 3 12) (v.i 7 0) (v.s 7 1) (v.s 7 2) (qmo K) n) (fun v f K => qfj (v.s 32 0) (v.i 124 0) (v.i 128 0) (v.b 3 0) (v.i 3 1) (v.i 3 2) (v.s 3 3) (v.s 3 4) (v.s 3 5) (v.i 3 6) (v.i 3 7) (v.i 3 8) (v.i 3 9) (v.i 3 10) (v.i 3 11) (v.i 3 12) (v.i 7 0) (v.s 7 1) (v.s 7 2) f (qmo K)) (fun f v => f (v.s 32 0) (v.i 128 0)) (fun k v => (fun z0 z1 => k ((v.us 32 0 z0).ui 128 0 z1))) (by kernel_rfl) (fun _ _ => (by kernel_rfl)) (fun _ _ _ => (by kernel_rfl)) (fun _ _ _ => (by kernel_rfl)) (fun _ _ => (by kernel_rfl)) (fun _ _ _ _ _ => (by kernel_rfl))
def qk0 (v0 : Int) (Bb : Bool) (Bc Bd : Int) (Be Bf Bg : List UInt8) (Bh Bi Bj Bl Bm Bn Bo : Int) : Option ((List UInt8) × Int) :=
  (oB (qnj v0) fun r1 => (bif (!r1.2) then (some (([] : List UInt8), (4 : Int))) else (oB (qqa v0 Bb Bc Bd Be Bf Bg Bh Bi Bj Bl Bm Bn Bo) fun r2 => (bif (!r2) then (some (([] : List UInt8), (5 : Int))) else (qqx ((gS r1.1.cells 2).length : Int) Bb Bc Bd Be Bf Bg Bh Bi Bj Bl Bm Bn Bo (gI r1.1.cells 0) (gS r1.1.cells 1) (gS r1.1.cells 2) (fun v8q3 => (some (v8q3, (0 : Int)))) FU ([] : List UInt8) (0 : Int))))))
def qr1 := hull qk0
theorem q2y : qr1 = qk0 := qb _
def q3w {R : Type} : EntF Tryz.prog R := entB (nt := 118) (dec := qit) (enc := (fun r => .tup [.str r.1, .int .i64 r.2])) tabOk follows Tryz.func55 [.t 4, .t 5] (hdeN fun _ => rfl) (.s .z (.s (.r [(1, .c quk.b)] []) (.s (.b (.s .z (.s .z (.s (.r [(2, .c q2u.b)] []) .z)))) (.s .z (.s (.s .z (.b (.sub [.sel [3, 6, 8, 31, 32] [0, 1]] qx9 []))) .z))))) S34_ qk0 (fun f v => f (v.i 0 0) (v.b 5 0) (v.i 5 1) (v.i 5 2) (v.s 5 3) (v.s 5 4) (v.s 5 5) (v.i 5 6) (v.i 5 7) (v.i 5 8) (v.i 5 9) (v.i 5 10) (v.i 5 11) (v.i 5 12)) (by kernel_rfl) (by kernel_rfl) (by kernel_rfl) fun _ => (by kernel_rfl)
def S39_ : Shp := ⟨[(0, .one (.l .s)), (3, .one (.l (.i .i64))), (4, .one (.l (.i .i64)))], []⟩
def qnh  (K : Ex → Env → Mem → Option Int) := (fun z_v3 => K (.exit 0) (ql [(3, (.int .i64 z_v3))]) (qf []))
def qf3  (v0 : List UInt8) (v3 v4 : Int) (next : Int → Int → Option Int) (kx0 : Int → Option Int) : Option Int :=
  (bif (decide (v4 < (v0.length : Int))) then (bif ((v4.tmod (2 : Int)) == (0 : Int)) then (oB (ixB v0 v4) fun c1 => (next (IntKind.i64.wrap (v3 + (IntKind.i64.wrap ((IntKind.i64.wrap (c1.toNat : Int)) * 2 ^ min (8 : Int).toNat IntKind.i64.bits)))) (IntKind.i64.wrap (v4 + (1 : Int))))) else (oB (ixB v0 v4) fun c2 => (next (IntKind.i64.wrap (v3 + (IntKind.i64.wrap (c2.toNat : Int)))) (IntKind.i64.wrap (v4 + (1 : Int)))))) else (kx0 v3))
def qf4  (v0 : List UInt8) (kx0 : Int → Option Int) : Nat → Int → Int → Option Int
  | 0 => (fun _ _ => none)
  | n + 1 => (fun v3 v4 => qf3 v0 v3 v4 (qf4 v0 kx0 n) kx0)
def qtm := hull (qf4)
theorem qya : qtm = qf4 := qb _
def qy5 : SubB Tryz.prog (TIof Tryz.prog) 34 0 (kret [.t 2] (decI .i64)) := lpB tabOk follows Tryz.f56 75 (.s (.s .z (.s .z (.v [.sel [3] []]))) (.s .z (.v [.sel [0, 3, 4] []]))) S39_ (qf4) (fun f v K n => f (v.s 0 0) (qnh K) n) (fun v f K => qf3 (v.s 0 0) (v.i 12 0) (v.i 16 0) f (qnh K)) (fun f v => f (v.i 12 0) (v.i 16 0)) (fun k v => (fun z0 z1 => k ((v.ui 12 0 z0).ui 16 0 z1))) (by kernel_rfl) (fun _ _ => (by kernel_rfl)) (fun _ _ _ => (by kernel_rfl)) (fun _ _ _ => (by kernel_rfl)) (fun _ _ => (by kernel_rfl)) (fun _ _ _ _ _ => (by kernel_rfl))
def qk1 (v0 : List UInt8) : Option Int :=
  (qtm v0 (fun v3q1 => (some (qd9 .and .i64 (IntKind.i64.wrap (v3q1 + (qd9 .and .i64 (v3q1.fdiv (2 ^ min (16 : Int).toNat IntKind.i64.bits)) (65535 : Int)))) (65535 : Int)))) FU (0 : Int) (0 : Int))
def qr2 := hull qk1
theorem q2z : qr2 = qk1 := qb _
def q3x {R : Type} : EntF Tryz.prog R := entB (nt := 34) (dec := (decI .i64)) (enc := (AV.int .i64)) tabOk follows Tryz.func56 [.t 2] hdeI (.s .z (.s .z (.s (.s .z (.b (.sub [.sel [0, 3, 4] []] qy5 []))) .z))) S16_ qk1 (fun f v => f (v.s 0 0)) (by kernel_rfl) (by kernel_rfl) (by kernel_rfl) fun _ => (by kernel_rfl)
def S40_ : Shp := ⟨[(0, .st (lk qeq))], []⟩
def qk2 (Aa : Bool) (Ab Ac : Int) (Ad Ae Af : List UInt8) (Ag Bp Bq Br Bs Bt Bu : Int) : Option Int :=
  (oB (qr1 (48 : Int) Aa Ab Ac Ad Ae Af Ag Bp Bq Br Bs Bt Bu) fun r1 => (bif (r1.2 != (0 : Int)) then (some (0 : Int)) else (oB (qr2 r1.1) fun r2 => (some r2))))
def qnk := hull qk2
theorem q20 : qnk = qk2 := qb _
def q3y {R : Type} : EntF Tryz.prog R := entB (nt := 14) (dec := (decI .i64)) (enc := (AV.int .i64)) tabOk follows Tryz.func33 [.t 2] hdeI (.s .z (.s (.r [(1, .c q3w.b)] []) (.s .z (.s (.r [(1, .c q3x.b)] []) .z)))) S40_ qk2 (fun f v => f (v.b 1 0) (v.i 1 1) (v.i 1 2) (v.s 1 3) (v.s 1 4) (v.s 1 5) (v.i 1 6) (v.i 1 7) (v.i 1 8) (v.i 1 9) (v.i 1 10) (v.i 1 11) (v.i 1 12)) (by kernel_rfl) (by kernel_rfl) (by kernel_rfl) fun _ => (by kernel_rfl)
def S41_ : Shp := ⟨[(0, .one (.l (.sl 1))), (1, .one (.l (.i .i64))), (7, .one (.l (.i .i64))), (8, .one (.l (.i .i64)))], []⟩
def S42_ : Shp := ⟨[(0, .one (.l (.sl 1))), (1, .one (.l (.i .i64)))], []⟩
def qg2  (K : Ex → Env → Mem → Option Int) := (fun (_ : Unit) => K (.exit 0) (ql []) (qf []))
def qdi  (v0 : List AV) (v1 v7 v8 : Int) (next : Int → Option Int) (kx0 : Unit → Option Int) : Option Int :=
  (bif (decide (v8 < v7)) then (oB (ixB v0 v8) fun y1 => (bif fitC [(.i .i64)] y1.cells then (bif (v1 == (gI y1.cells 0)) then (some v8) else (next (IntKind.i64.wrap (v8 + (1 : Int))))) else none)) else (kx0 ()))
def qcc  (v0 : List AV) (v1 v7 : Int) (kx0 : Unit → Option Int) : Nat → Int → Option Int
  | 0 => (fun _ => none)
  | n + 1 => (fun v8 => qdi v0 v1 v7 v8 (qcc v0 v1 v7 kx0 n) kx0)
def qi7 := hull (qcc)
theorem qm1 : qi7 = qcc := qb _
def qnl : SubB Tryz.prog (TIof Tryz.prog) 19 0 (kret [.t 4] (decI .i64)) := lpB tabOk follows Tryz.f57 37 (.s .z (.s (.s .z (.v [.sel [] []])) (.s (.b (.s .z (.s (.r [(3, .p (.etac 14 [(.i .i64)]))] []) .z))) (.v [.sel [0, 1, 7, 8] []])))) S41_ (qcc) (fun f v K n => f (v.l 0 0) (v.i 4 0) (v.i 28 0) (qg2 K) n) (fun v f K => qdi (v.l 0 0) (v.i 4 0) (v.i 28 0) (v.i 32 0) f (qg2 K)) (fun f v => f (v.i 32 0)) (fun k v => (fun z0 => k (v.ui 32 0 z0))) (by kernel_rfl) (fun _ _ => (by kernel_rfl)) (fun _ _ _ => (by kernel_rfl)) (fun _ _ _ => (by kernel_rfl)) (fun _ _ => (by kernel_rfl)) (fun _ _ _ _ _ => (by kernel_rfl))
def qer (v0 : List AV) (v1 : Int) : Option Int :=
  (qi7 v0 v1 (v0.length : Int) (fun (_ : Unit) => (some (-1 : Int))) FU (0 : Int))
def qg8 := hull qer
theorem qo7 : qg8 = qer := qb _
def qqb {R : Type} : EntF Tryz.prog R := entB (nt := 19) (dec := (decI .i64)) (enc := (AV.int .i64)) tabOk follows Tryz.func57 [.t 4] hdeI (.s .z (.s (.s .z (.b (.sub [.sel [0, 1, 7, 8] []] qnl []))) .z)) S42_ qer (fun f v => f (v.l 0 0) (v.i 4 0)) (by kernel_rfl) (by kernel_rfl) (by kernel_rfl) fun _ => (by kernel_rfl)
def qdj (v0 : List AV) (v1 : Int) : Option Bool :=
  (oB (qg8 v0 v1) fun r1 => (some (decide (r1 ≥ (0 : Int)))))
def qfy := hull qdj
theorem qm2 : qfy = qdj := qb _
def qnm {R : Type} : EntF Tryz.prog R := entB (nt := 9) (dec := decB) (enc := AV.bool) tabOk follows Tryz.func34 [.t 4] hdeB (.s .z (.s (.r [(2, .c qqb.b)] []) .z)) S42_ qdj (fun f v => f (v.l 0 0) (v.i 4 0)) (by kernel_rfl) (by kernel_rfl) (by kernel_rfl) fun _ => (by kernel_rfl)
def qh5 (v0 : Int) : Option Bool :=
  (some (v0 != v0))
def qjs := hull qh5
theorem qyb : qjs = qh5 := qb _
def qpn {R : Type} : EntF Tryz.prog R := entB (nt := 6) (dec := decB) (enc := AV.bool) tabOk follows Tryz.func80 [.t 2] hdeB (.z) S27_ qh5 (fun f v => f (v.i 0 0)) (by kernel_rfl) (by kernel_rfl) (by kernel_rfl) fun _ => (by kernel_rfl)
def qiu (v0 v1 : Int) : Option Bool :=
  (oB (qjs v0) fun r1 => (bif r1 then (oB (qjs v1) fun r2 => (some ((!r2) || (decide (v0 < v1))))) else (some (decide (v0 < v1)))))
def qod := hull qiu
theorem qy6 : qod = qiu := qb _
def q0v {R : Type} : EntF Tryz.prog R := entB (nt := 17) (dec := decB) (enc := AV.bool) tabOk follows Tryz.func58 [.t 4] hdeB (.s .z (.s (.r [(1, .c qpn.b), (4, .c qpn.b), (8, .g 3)] []) .z)) S29_ qiu (fun f v => f (v.i 0 0) (v.i 4 0)) (by kernel_rfl) (by kernel_rfl) (by kernel_rfl) fun _ => (by kernel_rfl)
def S43_ : Shp := ⟨[(0, .one (.l (.sl 1))), (3, .one (.l (.i .i64)))], []⟩
def S44_ : Shp := ⟨[(0, .one (.l (.sl 1)))], []⟩
def qf5  (K : Ex → Env → Mem → Option Bool) := (fun (_ : Unit) => K (.exit 0) (ql []) (qf []))
def qen  (v0 : List AV) (v3 : Int) (next : Int → Option Bool) (kx0 : Unit → Option Bool) : Option Bool :=
  (bif (decide (v3 > (0 : Int))) then (oB (ixB v0 v3) fun y1 => (bif fitC [(.i .i64)] y1.cells then (oB (ixB v0 (IntKind.i64.wrap (v3 - (1 : Int)))) fun y2 => (bif fitC [(.i .i64)] y2.cells then (oB (qod (gI y1.cells 0) (gI y2.cells 0)) fun r3 => (bif r3 then (some false) else (next (IntKind.i64.wrap (v3 - (1 : Int)))))) else none)) else none)) else (kx0 ()))
def qz  (v0 : List AV) (kx0 : Unit → Option Bool) : Nat → Int → Option Bool
  | 0 => (fun _ => none)
  | n + 1 => (fun v3 => qen v0 v3 (qz v0 kx0 n) kx0)
def qhq := hull (qz)
theorem qlm : qhq = qz := qb _
def qlx : SubB Tryz.prog (TIof Tryz.prog) 21 0 (kret [.t 2] decB) := lpB tabOk follows Tryz.f36 37 (.s (.s .z (.s .z (.v [.sel [] []]))) (.s (.b (.s (.d [] [(2, .e 13 [(.i .i64)]), (7, .e 18 [(.i .i64)])] [(0, .c q0v.b)] []) .z)) (.v [.sel [0, 3] []]))) S43_ (qz) (fun f v K n => f (v.l 0 0) (qf5 K) n) (fun v f K => qen (v.l 0 0) (v.i 12 0) f (qf5 K)) (fun f v => f (v.i 12 0)) (fun k v => (fun z0 => k (v.ui 12 0 z0))) (by kernel_rfl) (fun _ _ => (by kernel_rfl)) (fun _ _ _ => (by kernel_rfl)) (fun _ _ _ => (by kernel_rfl)) (fun _ _ => (by kernel_rfl)) (fun _ _ _ _ _ => (by kernel_rfl))
def qdk (v0 : List AV) : Option Bool :=
  (qhq v0 (fun (_ : Unit) => (some true)) FU (IntKind.i64.wrap ((v0.length : Int) - (1 : Int))))
def qd7 := hull qdk
theorem qm3 : qd7 = qdk := qb _
def qnn {R : Type} : EntF Tryz.prog R := entB (nt := 21) (dec := decB) (enc := AV.bool) tabOk follows Tryz.func36 [.t 2] hdeB (.s .z (.s (.s .z (.b (.sub [.sel [0, 3] []] qlx []))) .z)) S44_ qdk (fun f v => f (v.l 0 0)) (by kernel_rfl) (by kernel_rfl) (by kernel_rfl) fun _ => (by kernel_rfl)
def qci (x0 : List UInt8) (x1 : Bool) (x2 x3 x4 x5 x6 : Int) : List AV := [.str x0, .bool x1, .int .i64 x2, .int .i64 x3, .int .i64 x4, .int .i64 x5, .int .i64 x6]
def S45_ : Shp := ⟨[(0, .one (.l (.sl 7))), (3, .one (.own 0)), (5, .one (.ptr 1 0)), (6, .one (.ptr 2 0)), (7, .one (.l (.i .i64))), (13, .one (.l (.sl 7))), (14, .one (.l (.i .i64))), (15, .one (.l (.i .i64)))], [.arr true 1, .box true (lk qc), .box true (lk qeq)]⟩
def S46_ : Shp := ⟨[(0, .one (.l (.sl 7))), (3, .one (.own 0)), (13, .one (.l (.sl 7))), (14, .one (.l (.i .i64))), (15, .one (.l (.i .i64)))], [.arr true 1]⟩
def qqy  (v0 v13 : List AV) (v14 v15 : Int) (a0 : List AV) (Ao : List UInt8) (Ap : Bool) (Aq Ar As At Au : Int) (Bv : Bool) (Bw Bx : Int) (By Bz B0 : List UInt8) (B1 B2 B3 B4 B5 B6 B7 : Int) (K : Ex → Env → Mem → Option Int) := (fun z_v37 => K .norm (ql [(0, (.sl 7 v0)), (3, (.own 0 a0.length)), (5, (.ptr 1 0)), (6, (.ptr 2 0)), (13, (.sl 7 v13)), (14, (.int .i64 v14)), (15, (.int .i64 v15)), (37, (.bool z_v37))]) (qf [(some (.arr true 1 a0)), (some (.box true (qci Ao Ap Aq Ar As At Au))), (some (.box true (qe1 Bv Bw Bx By Bz B0 B1 B2 B3 B4 B5 B6 B7)))]))
def qe8  (v0 : List AV) (v7 : Int) (v13 : List AV) (v14 v15 : Int) (a0 : List AV) (Ao : List UInt8) (Ap : Bool) (Aq Ar As At Au : Int) (Bv : Bool) (Bw Bx : Int) (By Bz B0 : List UInt8) (B1 B2 B3 B4 B5 B6 B7 : Int) (kn : Bool → Option Int) : Option Int :=
  (bif (v7 != (0 : Int)) then (kn true) else (oB (ixB v0 (0 : Int)) fun y1 => (bif fitC qc y1.cells then (kn (!(Ao == (gS y1.cells 0)))) else none)))
def qmp := hull (qe8)
theorem qqz : qmp = qe8 := qb _
def qr3 : SubB Tryz.prog (TIof Tryz.prog) 63 0 (kret [.t 2] (decI .i64)) := jnB tabOk follows Tryz.f16 39319 (.d [] [(7, .e 32 qc)] [] [.sel [0, 3, 5, 6, 13, 14, 15, 37] [0, 1, 2]]) S45_ (qe8) (fun f v K => f (v.l 0 0) (v.i 28 0) (v.l 52 0) (v.i 56 0) (v.i 60 0) (v.r 0) (v.s 7 0) (v.b 7 1) (v.i 7 2) (v.i 7 3) (v.i 7 4) (v.i 7 5) (v.i 7 6) (v.b 11 0) (v.i 11 1) (v.i 11 2) (v.s 11 3) (v.s 11 4) (v.s 11 5) (v.i 11 6) (v.i 11 7) (v.i 11 8) (v.i 11 9) (v.i 11 10) (v.i 11 11) (v.i 11 12) (qqy (v.l 0 0) (v.l 52 0) (v.i 56 0) (v.i 60 0) (v.r 0) (v.s 7 0) (v.b 7 1) (v.i 7 2) (v.i 7 3) (v.i 7 4) (v.i 7 5) (v.i 7 6) (v.b 11 0) (v.i 11 1) (v.i 11 2) (v.s 11 3) (v.s 11 4) (v.s 11 5) (v.i 11 6) (v.i 11 7) (v.i 11 8) (v.i 11 9) (v.i 11 10) (v.i 11 11) (v.i 11 12) K)) (by kernel_rfl) (fun _ _ => (by kernel_rfl))
def qji  (K : Ex → Env → Mem → Option Int) := (fun (_ : Unit) => K (.exit 0) (ql []) (qf []))
def qdw  (v0 v13 : List AV) (v14 v15 : Int) (a0 : List AV) (next : Int → (List AV) → Option Int) (kx0 : Unit → Option Int) : Option Int :=
  (bif (decide (v15 < v14)) then (oB (ixB v13 v15) fun y1 => (bif fitC qc y1.cells then (oB (qp8 (gS y1.cells 0) (gB y1.cells 1) (gI y1.cells 2)) fun r2 => (bif (hd a0 (a0.length) && true) then (qmp v0 r2.2 v13 v14 v15 a0 (gS y1.cells 0) (gB y1.cells 1) (gI y1.cells 2) (gI y1.cells 3) (gI y1.cells 4) (gI y1.cells 5) (gI y1.cells 6) (gB r2.1.cells 0) (gI r2.1.cells 1) (gI r2.1.cells 2) (gS r2.1.cells 3) (gS r2.1.cells 4) (gS r2.1.cells 5) (gI r2.1.cells 6) (gI r2.1.cells 7) (gI r2.1.cells 8) (gI r2.1.cells 9) (gI r2.1.cells 10) (gI r2.1.cells 11) (gI r2.1.cells 12) (fun v37q3 => (bif v37q3 then (some (18 : Int)) else (oB (qnk (gB r2.1.cells 0) (gI r2.1.cells 1) (gI r2.1.cells 2) (gS r2.1.cells 3) (gS r2.1.cells 4) (gS r2.1.cells 5) (gI r2.1.cells 6) (gI r2.1.cells 7) (gI r2.1.cells 8) (gI r2.1.cells 9) (gI r2.1.cells 10) (gI r2.1.cells 11) (gI r2.1.cells 12)) fun r4 => (bif hd a0 a0.length then (oB (qfy a0 r4) fun r5 => (bif r5 then (some (18 : Int)) else (bif hd a0 a0.length then (bif hd ([(.int .i64 r4)] : List AV) (([(.int .i64 r4)] : List AV).length) then (bif decide ((a0.length + ([(.int .i64 r4)] : List AV).length) * 8 ≤ 140737488355328) then (oB (qel (gS y1.cells 0) (gB y1.cells 1) (gI y1.cells 2) (gI y1.cells 3) (gI y1.cells 4) (gI y1.cells 5) (gI y1.cells 6)) fun r6 => (bif (decide ((gI r6.cells 0) < (0 : Int))) then (some (20 : Int)) else (oB (qd7 ([(.int .i64 (gI r6.cells 0)), (.int .i64 (gI r6.cells 1)), (.int .i64 (gI r6.cells 2)), (.int .i64 (gI r6.cells 3))] : List AV)) fun r7 => (bif ((!r7) || (decide ((gI r6.cells 3) > (4294967295 : Int)))) then (some (20 : Int)) else (next (IntKind.i64.wrap (v15 + (1 : Int))) (a0 ++ ([(.int .i64 r4)] : List AV))))))) else none) else none) else none))) else none))))) else none)) else none)) else (kx0 ()))
def qdx  (v0 v13 : List AV) (v14 : Int) (kx0 : Unit → Option Int) : Nat → Int → (List AV) → Option Int
  | 0 => (fun _ _ => none)
  | n + 1 => (fun v15 a0 => qdw v0 v13 v14 v15 a0 (qdx v0 v13 v14 kx0 n) kx0)
def qmq := hull (qdx)
theorem qq0 : qmq = qdx := qb _
def qr4 : SubB Tryz.prog (TIof Tryz.prog) 63 0 (kret [.t 2] (decI .i64)) := lpB tabOk follows Tryz.f16 151 (.s .z (.s (.s .z (.v [.sel [] []])) (.s (.b (.s (.r [(0, .p (.etac 17 qc))] []) (.s (.r [(2, .c q2q.b)] []) (.s (.s (.sub [.sel [0, 3, 5, 6, 7, 13, 14, 15] [0, 1, 2]] qr3 []) .z) (.s (.r [(1, .c q3y.b)] []) (.s (.s (.r [(2, .c qnm.b)] []) .z) (.s .z (.s (.r [(1, .c qjy.b)] []) (.s (.r [(5, .c qnn.b), (9, .g 3)] []) .z))))))))) (.v [.sel [0, 3, 13, 14, 15] [0]])))) S46_ (qdx) (fun f v K n => f (v.l 0 0) (v.l 52 0) (v.i 56 0) (qji K) n) (fun v f K => qdw (v.l 0 0) (v.l 52 0) (v.i 56 0) (v.i 60 0) (v.r 0) f (qji K)) (fun f v => f (v.i 60 0) (v.r 0)) (fun k v => (fun z0 z1 => k ((v.ui 60 0 z0).ur 0 z1))) (by kernel_rfl) (fun _ _ => (by kernel_rfl)) (fun _ _ _ => (by kernel_rfl)) (fun _ _ _ => (by kernel_rfl)) (fun _ _ => (by kernel_rfl)) (fun _ _ _ _ _ => (by kernel_rfl))
def qg9 (v0 : List AV) : Option Int :=
  (bif (decide ((v0.length : Int) > (16 : Int))) then (some (9 : Int)) else (bif (hd ([] : List AV) (([] : List AV).length) && true) then (qmq v0 v0 (v0.length : Int) (fun (_ : Unit) => (some (0 : Int))) FU (0 : Int) ([] : List AV)) else none))
def qco := hull qg9
theorem qw8 : qco = qg9 := qb _
def qfk {R : Type} : EntF Tryz.prog R := entB (nt := 63) (dec := (decI .i64)) (enc := (AV.int .i64)) tabOk follows Tryz.func16 [.t 2] hdeI (.s .z (.s .z (.s .z (.s (.s .z (.b (.sub [.own 3 1, .sel [0, 3, 13, 14, 15] [0]] qr4 []))) .z)))) S1_ qg9 (fun f v => f (v.l 0 0)) (by kernel_rfl) (by kernel_rfl) (by kernel_rfl) fun _ => (by kernel_rfl)
def S68_ : Shp := ⟨[(0, .st (lk qc)), (1, .one (.l (.i .i64)))], []⟩
def qha (Aa : List UInt8) (Ab : Bool) (Ac Ad Ae Af Ag v1 : Int) : Option Bool :=
  (some ((decide (Ad ≤ v1)) && (decide (v1 < Ag))))
def qf6 := hull qha
theorem qq1 : qf6 = qha := qb _
def qk3 {R : Type} : EntF Tryz.prog R := entB (nt := 15) (dec := decB) (enc := AV.bool) tabOk follows Tryz.func39 [.t 4] hdeB (.s .z (.s (.r [(5, .g 4)] []) .z)) S68_ qha (fun f v => f (v.s 1 0) (v.b 1 1) (v.i 1 2) (v.i 1 3) (v.i 1 4) (v.i 1 5) (v.i 1 6) (v.i 4 0)) (by kernel_rfl) (by kernel_rfl) (by kernel_rfl) fun _ => (by kernel_rfl)
def S70_ : Shp := ⟨[(0, .st (lk qc)), (1, .one (.ptr 0 0))], [.box true [(.l (.i .i64))], .arr true 3, .box true (lk qc)]⟩
def qno {R : Type} (KK : AV → Mem → Option R) := (fun v3 Al a1 Bv Bw Bx By Bz B0 B1 => KK (.bool v3) (qf [(some (.box true [(.int .i64 Al)])), (some (.arr true 3 a1)), (some (.box true (qci Bv Bw Bx By Bz B0 B1)))]))
def qdy {R : Type}  (Aa : List UInt8) (Ab : Bool) (Ac Ad Ae Af Ag Al : Int) (a1 : List AV) (Bv : List UInt8) (Bw : Bool) (Bx By Bz B0 B1 : Int) (kr : Bool → Int → (List AV) → (List UInt8) → Bool → Int → Int → Int → Int → Int → Option R) : Option R :=
  (oB (qf6 Aa Ab Ac Ad Ae Af Ag Al) fun r1 => (kr r1 Al a1 Bv Bw Bx By Bz B0 B1))
def qge {R : Type} := hull (qdy (R := R))
theorem qnp {R : Type} : qge (R := R) = qdy := qb _
def qoe {R : Type} : RefB Tryz.prog R := refB (nt := 7) (nb := 3) tabOk follows Tryz.func38 [.t 3] (fun KK => .s .z (.s (.r [(2, .c qk3.b)] []) (.v [.sel [3] [0, 1, 2]]))) S70_ (qdy (R := R)) (fun f v KK => f (v.s 1 0) (v.b 1 1) (v.i 1 2) (v.i 1 3) (v.i 1 4) (v.i 1 5) (v.i 1 6) (v.i 3 0) (v.r 1) (v.s 11 0) (v.b 11 1) (v.i 11 2) (v.i 11 3) (v.i 11 4) (v.i 11 5) (v.i 11 6) (qno KK)) (by kernel_rfl) (by kernel_rfl) (fun _ => (by kernel_rfl)) rfl fun _ _ => (by kernel_rfl)
def S71_ : Shp := ⟨[(1, .one (.fn 38 [(0, 0)])), (5, .one (.own 1)), (8, .one (.l (.sl 7))), (9, .one (.l (.i .i64))), (10, .one (.l (.i .i64)))], [.box true [(.l (.i .i64))], .arr true 3]⟩
def S72_ : Shp := ⟨[(0, .one (.l (.sl 7))), (1, .one (.fn 38 [(0, 0)]))], [.box true [(.l (.i .i64))]]⟩
def qdf {R : Type}  (K : Ex → Env → Mem → Option R) := (fun z_b0_0 z_a1 => K (.exit 0) (ql [(5, (.own 1 z_a1.length))]) (qf [(some (.box true [(.int .i64 z_b0_0)])), (some (.arr true 3 z_a1))]))
def qba {R : Type}  (v8 : List AV) (v9 v10 Al : Int) (a1 : List AV) (next : Int → Int → (List AV) → Option R) (kx0 : Int → (List AV) → Option R) : Option R :=
  (bif (decide (v10 < v9)) then (oB (ixB v8 v10) fun y1 => (bif fitC qc y1.cells then (qge (gS y1.cells 0) (gB y1.cells 1) (gI y1.cells 2) (gI y1.cells 3) (gI y1.cells 4) (gI y1.cells 5) (gI y1.cells 6) Al a1 (gS y1.cells 0) (gB y1.cells 1) (gI y1.cells 2) (gI y1.cells 3) (gI y1.cells 4) (gI y1.cells 5) (gI y1.cells 6) fun v3q2 b0_0q3 a1q4 b2_0q5 b2_1q6 b2_2q7 b2_3q8 b2_4q9 b2_5q10 b2_6q11 => (bif v3q2 then (bif hd a1q4 a1.length then (bif hd ([(.agg [(.str b2_0q5), (.bool b2_1q6), (.int .i64 b2_2q7)])] : List AV) (([(.agg [(.str b2_0q5), (.bool b2_1q6), (.int .i64 b2_2q7)])] : List AV).length) then (bif decide ((a1q4.length + ([(.agg [(.str b2_0q5), (.bool b2_1q6), (.int .i64 b2_2q7)])] : List AV).length) * 32 ≤ 140737488355328) then (bif hd (a1q4 ++ ([(.agg [(.str b2_0q5), (.bool b2_1q6), (.int .i64 b2_2q7)])] : List AV)) ((a1q4 ++ ([(.agg [(.str b2_0q5), (.bool b2_1q6), (.int .i64 b2_2q7)])] : List AV)).length) then (next (IntKind.i64.wrap (v10 + (1 : Int))) b0_0q3 (a1q4 ++ ([(.agg [(.str b2_0q5), (.bool b2_1q6), (.int .i64 b2_2q7)])] : List AV))) else none) else none) else none) else none) else (bif hd a1q4 a1.length then (next (IntKind.i64.wrap (v10 + (1 : Int))) b0_0q3 a1q4) else none))) else none)) else (kx0 Al a1))
def qbb {R : Type}  (v8 : List AV) (v9 : Int) (kx0 : Int → (List AV) → Option R) : Nat → Int → Int → (List AV) → Option R
  | 0 => (fun _ _ _ => none)
  | n + 1 => (fun v10 Al a1 => qba v8 v9 v10 Al a1 (qbb v8 v9 kx0 n) kx0)
def qed {R : Type} := hull (qbb (R := R))
theorem qg1 {R : Type} : qed (R := R) = qbb := qb _
def qhb {R : Type} (KK : AV → Mem → Option R) : SubB Tryz.prog (TIof Tryz.prog) 24 1 (qe0 [.t 4] KK) := lpB tabOk follows Tryz.f37 75 (.s .z (.s (.s .z (.v [.sel [5] [0, 1]])) (.s (.b (.s (.r [(0, .p (.etac 12 qc))] []) (.s (.r [(2, .s (.sel [1, 5, 7, 8, 9, 10, 14, 15] [0, 1, 2])), (2, .r qoe)] []) .z))) (.v [.hd 5, .sel [1, 5, 8, 9, 10] [0, 1]])))) S71_ (qbb (R := R)) (fun f v K n => f (v.l 32 0) (v.i 36 0) (qdf K) n) (fun v f K => qba (v.l 32 0) (v.i 36 0) (v.i 40 0) (v.i 3 0) (v.r 1) f (qdf K)) (fun f v => f (v.i 40 0) (v.i 3 0) (v.r 1)) (fun k v => (fun z0 z1 z2 => k (((v.ui 40 0 z0).ui 3 0 z1).ur 1 z2))) (by kernel_rfl) (fun _ _ => (by kernel_rfl)) (fun _ _ _ => (by kernel_rfl)) (fun _ _ _ => (by kernel_rfl)) (fun _ _ => (by kernel_rfl)) (fun _ _ _ _ _ => (by kernel_rfl))
def qhx {R : Type} (KK : AV → Mem → Option R) := (fun Al a1 => KK (.own 1 a1.length) (qf [(some (.box true [(.int .i64 Al)])), (some (.arr true 3 a1))]))
def qbv {R : Type}  (v0 : List AV) (Al : Int) (kr : Int → (List AV) → Option R) : Option R :=
  (bif (hd ([] : List AV) (([] : List AV).length) && true) then (qed v0 (v0.length : Int) (fun b0_0q1 a1q2 => (kr b0_0q1 a1q2)) FU (0 : Int) Al ([] : List AV)) else none)
def qcp {R : Type} := hull (qbv (R := R))
theorem qhy {R : Type} : qcp (R := R) = qbv := qb _
def qia {R : Type} : RefB Tryz.prog R := refB (nt := 24) (nb := 1) tabOk follows Tryz.func37 [.t 4] (fun KK => .s .z (.s .z (.s (.s .z (.b (.sub [.own 5 3, .sel [1, 5, 8, 9, 10] [0, 1]] (qhb KK) []))) (.s .z (.v [.sel [4] [0, 1]]))))) S72_ (qbv (R := R)) (fun f v KK => f (v.l 0 0) (v.i 3 0) (qhx KK)) (by kernel_rfl) (by kernel_rfl) (fun _ => (by kernel_rfl)) rfl fun _ _ => (by kernel_rfl)
def qe9 (v0 : List AV) (v1 : Int) : Option (List AV) :=
  (qcp v0 v1 fun b0_0q1 a1q2 => (bif hd a1q2 a1q2.length then (some a1q2) else none))
def qex := hull qe9
theorem qq2 : qex = qe9 := qb _
def qr5 {R : Type} : EntF Tryz.prog R := entB (nt := 8) (dec := (decF true 3)) (enc := (AV.fr true 3)) tabOk follows Tryz.func19 [.t 4] hdeF (.s .z (.s (.r [(2, .s (.sel [5, 6] [0])), (2, .r qia)] []) .z)) S6_ qe9 (fun f v => f (v.l 0 0) (v.i 4 0)) (by kernel_rfl) (by kernel_rfl) (by kernel_rfl) fun _ => (by kernel_rfl)
def qjz (Aa : List UInt8) (Ab : Bool) (Ac Ad Ae Af Ag v1 : Int) : Option Bool :=
  (some ((decide (Ae ≤ v1)) && (decide (v1 < Af))))
def qfe := hull qjz
theorem qw9 : qfe = qjz := qb _
def qhc {R : Type} : EntF Tryz.prog R := entB (nt := 15) (dec := decB) (enc := AV.bool) tabOk follows Tryz.func41 [.t 4] hdeB (.s .z (.s (.r [(5, .g 4)] []) .z)) S68_ qjz (fun f v => f (v.s 1 0) (v.b 1 1) (v.i 1 2) (v.i 1 3) (v.i 1 4) (v.i 1 5) (v.i 1 6) (v.i 4 0)) (by kernel_rfl) (by kernel_rfl) (by kernel_rfl) fun _ => (by kernel_rfl)
def qo8 {R : Type} (KK : AV → Mem → Option R) := (fun v3 Al a1 Bv Bw Bx By Bz B0 B1 => KK (.bool v3) (qf [(some (.box true [(.int .i64 Al)])), (some (.arr true 3 a1)), (some (.box true (qci Bv Bw Bx By Bz B0 B1)))]))
def qes {R : Type}  (Aa : List UInt8) (Ab : Bool) (Ac Ad Ae Af Ag Al : Int) (a1 : List AV) (Bv : List UInt8) (Bw : Bool) (Bx By Bz B0 B1 : Int) (kr : Bool → Int → (List AV) → (List UInt8) → Bool → Int → Int → Int → Int → Int → Option R) : Option R :=
  (oB (qfe Aa Ab Ac Ad Ae Af Ag Al) fun r1 => (kr r1 Al a1 Bv Bw Bx By Bz B0 B1))
def qhd {R : Type} := hull (qes (R := R))
theorem qo9 {R : Type} : qhd (R := R) = qes := qb _
def qqc {R : Type} : RefB Tryz.prog R := refB (nt := 7) (nb := 3) tabOk follows Tryz.func40 [.t 3] (fun KK => .s .z (.s (.r [(2, .c qhc.b)] []) (.v [.sel [3] [0, 1, 2]]))) S70_ (qes (R := R)) (fun f v KK => f (v.s 1 0) (v.b 1 1) (v.i 1 2) (v.i 1 3) (v.i 1 4) (v.i 1 5) (v.i 1 6) (v.i 3 0) (v.r 1) (v.s 11 0) (v.b 11 1) (v.i 11 2) (v.i 11 3) (v.i 11 4) (v.i 11 5) (v.i 11 6) (qo8 KK)) (by kernel_rfl) (by kernel_rfl) (fun _ => (by kernel_rfl)) rfl fun _ _ => (by kernel_rfl)
def S76_ : Shp := ⟨[(1, .one (.fn 40 [(0, 0)])), (5, .one (.own 1)), (8, .one (.l (.sl 7))), (9, .one (.l (.i .i64))), (10, .one (.l (.i .i64)))], [.box true [(.l (.i .i64))], .arr true 3]⟩
def S77_ : Shp := ⟨[(0, .one (.l (.sl 7))), (1, .one (.fn 40 [(0, 0)]))], [.box true [(.l (.i .i64))]]⟩
def qdz {R : Type}  (K : Ex → Env → Mem → Option R) := (fun z_b0_0 z_a1 => K (.exit 0) (ql [(5, (.own 1 z_a1.length))]) (qf [(some (.box true [(.int .i64 z_b0_0)])), (some (.arr true 3 z_a1))]))
def qbe {R : Type}  (v8 : List AV) (v9 v10 Al : Int) (a1 : List AV) (next : Int → Int → (List AV) → Option R) (kx0 : Int → (List AV) → Option R) : Option R :=
  (bif (decide (v10 < v9)) then (oB (ixB v8 v10) fun y1 => (bif fitC qc y1.cells then (qhd (gS y1.cells 0) (gB y1.cells 1) (gI y1.cells 2) (gI y1.cells 3) (gI y1.cells 4) (gI y1.cells 5) (gI y1.cells 6) Al a1 (gS y1.cells 0) (gB y1.cells 1) (gI y1.cells 2) (gI y1.cells 3) (gI y1.cells 4) (gI y1.cells 5) (gI y1.cells 6) fun v3q2 b0_0q3 a1q4 b2_0q5 b2_1q6 b2_2q7 b2_3q8 b2_4q9 b2_5q10 b2_6q11 => (bif v3q2 then (bif hd a1q4 a1.length then (bif hd ([(.agg [(.str b2_0q5), (.bool b2_1q6), (.int .i64 b2_2q7)])] : List AV) (([(.agg [(.str b2_0q5), (.bool b2_1q6), (.int .i64 b2_2q7)])] : List AV).length) then (bif decide ((a1q4.length + ([(.agg [(.str b2_0q5), (.bool b2_1q6), (.int .i64 b2_2q7)])] : List AV).length) * 32 ≤ 140737488355328) then (bif hd (a1q4 ++ ([(.agg [(.str b2_0q5), (.bool b2_1q6), (.int .i64 b2_2q7)])] : List AV)) ((a1q4 ++ ([(.agg [(.str b2_0q5), (.bool b2_1q6), (.int .i64 b2_2q7)])] : List AV)).length) then (next (IntKind.i64.wrap (v10 + (1 : Int))) b0_0q3 (a1q4 ++ ([(.agg [(.str b2_0q5), (.bool b2_1q6), (.int .i64 b2_2q7)])] : List AV))) else none) else none) else none) else none) else (bif hd a1q4 a1.length then (next (IntKind.i64.wrap (v10 + (1 : Int))) b0_0q3 a1q4) else none))) else none)) else (kx0 Al a1))
def qbf {R : Type}  (v8 : List AV) (v9 : Int) (kx0 : Int → (List AV) → Option R) : Nat → Int → Int → (List AV) → Option R
  | 0 => (fun _ _ _ => none)
  | n + 1 => (fun v10 Al a1 => qbe v8 v9 v10 Al a1 (qbf v8 v9 kx0 n) kx0)
def qey {R : Type} := hull (qbf (R := R))
theorem qhr {R : Type} : qey (R := R) = qbf := qb _
def qhz {R : Type} (KK : AV → Mem → Option R) : SubB Tryz.prog (TIof Tryz.prog) 24 1 (qe0 [.t 4] KK) := lpB tabOk follows Tryz.f37 75 (.s .z (.s (.s .z (.v [.sel [5] [0, 1]])) (.s (.b (.s (.r [(0, .p (.etac 12 qc))] []) (.s (.r [(2, .s (.sel [1, 5, 7, 8, 9, 10, 14, 15] [0, 1, 2])), (2, .r qqc)] []) .z))) (.v [.hd 5, .sel [1, 5, 8, 9, 10] [0, 1]])))) S76_ (qbf (R := R)) (fun f v K n => f (v.l 32 0) (v.i 36 0) (qdz K) n) (fun v f K => qbe (v.l 32 0) (v.i 36 0) (v.i 40 0) (v.i 3 0) (v.r 1) f (qdz K)) (fun f v => f (v.i 40 0) (v.i 3 0) (v.r 1)) (fun k v => (fun z0 z1 z2 => k (((v.ui 40 0 z0).ui 3 0 z1).ur 1 z2))) (by kernel_rfl) (fun _ _ => (by kernel_rfl)) (fun _ _ _ => (by kernel_rfl)) (fun _ _ _ => (by kernel_rfl)) (fun _ _ => (by kernel_rfl)) (fun _ _ _ _ _ => (by kernel_rfl))
def qig {R : Type} (KK : AV → Mem → Option R) := (fun Al a1 => KK (.own 1 a1.length) (qf [(some (.box true [(.int .i64 Al)])), (some (.arr true 3 a1))]))
def qb1 {R : Type}  (v0 : List AV) (Al : Int) (kr : Int → (List AV) → Option R) : Option R :=
  (bif (hd ([] : List AV) (([] : List AV).length) && true) then (qey v0 (v0.length : Int) (fun b0_0q1 a1q2 => (kr b0_0q1 a1q2)) FU (0 : Int) Al ([] : List AV)) else none)
def qcs {R : Type} := hull (qb1 (R := R))
theorem qih {R : Type} : qcs (R := R) = qb1 := qb _
def qiv {R : Type} : RefB Tryz.prog R := refB (nt := 24) (nb := 1) tabOk follows Tryz.func37 [.t 4] (fun KK => .s .z (.s .z (.s (.s .z (.b (.sub [.own 5 3, .sel [1, 5, 8, 9, 10] [0, 1]] (qhz KK) []))) (.s .z (.v [.sel [4] [0, 1]]))))) S77_ (qb1 (R := R)) (fun f v KK => f (v.l 0 0) (v.i 3 0) (qig KK)) (by kernel_rfl) (by kernel_rfl) (fun _ => (by kernel_rfl)) rfl fun _ _ => (by kernel_rfl)
def qf7 (v0 : List AV) (v1 : Int) : Option (List AV) :=
  (qcs v0 v1 fun b0_0q1 a1q2 => (bif hd a1q2 a1q2.length then (some a1q2) else none))
def qfl := hull qf7
theorem qt1 : qfl = qf7 := qb _
def quz {R : Type} : EntF Tryz.prog R := entB (nt := 8) (dec := (decF true 3)) (enc := (AV.fr true 3)) tabOk follows Tryz.func20 [.t 4] hdeF (.s .z (.s (.r [(2, .s (.sel [5, 6] [0])), (2, .r qiv)] []) .z)) S6_ qf7 (fun f v => f (v.l 0 0) (v.i 4 0)) (by kernel_rfl) (by kernel_rfl) (by kernel_rfl) fun _ => (by kernel_rfl)
end
end Go.Proofs.YtmoedhehjonnhaaGreatDoor.Dn
