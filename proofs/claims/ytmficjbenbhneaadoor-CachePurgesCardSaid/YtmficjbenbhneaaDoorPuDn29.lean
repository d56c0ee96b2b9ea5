import Derived.Test.YtmficjbenbhneaaDoorProg
import Derived.Test.YtmficjbenbhneaaDoorPuLibD
set_option linter.all false
namespace Go.Proofs.YtmficjbenbhneaaDoor.Dn
open Go Go.Pev
set_option linter.unusedVariables false
set_option linter.unusedSimpArgs false
set_option maxRecDepth 100000
set_option maxHeartbeats 4000000
theorem zT : True := True.intro
theorem zA {a b : Prop} (x : a) (y : b) : a ∧ b := ⟨x, y⟩
theorem tabOk : Tab.ok (TIof Tryd.prog) Tryd.prog := fun _ _ h => h
theorem follows : Tryd.prog.follows .mixedOrders = true := by kernel_rfl
def S0_ : Shp := ⟨[(0, .one (.l (.i .i64)))], []⟩
def q5m : AV → Option (AV × Int) := decN [(.st [(.i .i64), .nil]), (.one (.i .i64))] fun z => ((gC (tpL z) 0), aI (gC (tpL z) 1))
noncomputable section
def qi1 (v0 : Int) : Option (AV × Int) :=
  (bif ((decide (v0 < (1 : Int))) || (decide (v0 > (256 : Int)))) then (some ((.agg [(.int .i64 (0 : Int)), .nils]), (1 : Int))) else (some ((.agg [(.int .i64 v0), .nils]), (0 : Int))))
def qj2 := hull qi1
theorem qvc : qj2 = qi1 := qb _
def qre {R : Type} : EntF Tryd.prog R := entB (nt := 13) (dec := q5m) (enc := (fun r => .tup [qd8 (.st [(.i .i64), .nil]) r.1, .int .i64 r.2])) tabOk follows Tryd.func7 [(.cell 2 true 2), .t 3] (hdeN fun _ => rfl) (.s .z (.s (.s (.r [(3, .g 2)] []) .z) .z)) S0_ qi1 (fun f v => f (v.i 0 0)) (by kernel_rfl) (by kernel_rfl) (by kernel_rfl) fun _ => (by kernel_rfl)
def S1_ : Shp := ⟨[(0, .one (.l .s)), (1, .one (.l (.i .i64)))], []⟩
def qlt (v0 : List UInt8) (v1 : Int) : Option AV :=
  (bif hd ([(.agg [(.bool false), (.int .u64 (0 : Int)), (.int .u64 (1 : Int)), (.str ([] : List UInt8)), (.str ([] : List UInt8)), (.str ([] : List UInt8)), (.int .i64 (0 : Int)), (.int .i64 (0 : Int)), (.int .i64 (0 : Int)), (.int .i64 (0 : Int)), (.int .i64 (0 : Int)), (.int .i64 (0 : Int)), (.int .u64 (0 : Int))])] : List AV) (([(.agg [(.bool false), (.int .u64 (0 : Int)), (.int .u64 (1 : Int)), (.str ([] : List UInt8)), (.str ([] : List UInt8)), (.str ([] : List UInt8)), (.int .i64 (0 : Int)), (.int .i64 (0 : Int)), (.int .i64 (0 : Int)), (.int .i64 (0 : Int)), (.int .i64 (0 : Int)), (.int .i64 (0 : Int)), (.int .u64 (0 : Int))])] : List AV).length) then (some (.agg [(.str v0), (.int .i64 (1 : Int)), (.int .i64 v1), (.fr true 13 ([(.agg [(.bool false), (.int .u64 (0 : Int)), (.int .u64 (1 : Int)), (.str ([] : List UInt8)), (.str ([] : List UInt8)), (.str ([] : List UInt8)), (.int .i64 (0 : Int)), (.int .i64 (0 : Int)), (.int .i64 (0 : Int)), (.int .i64 (0 : Int)), (.int .i64 (0 : Int)), (.int .i64 (0 : Int)), (.int .u64 (0 : Int))])] : List AV))])) else none)
def qkl := hull qlt
theorem q0k : qkl = qlt := qb _
def qrr {R : Type} : EntF Tryd.prog R := entB (nt := 11) (dec := (decT [.s, (.i .i64), (.i .i64), (.fr true 13)])) (enc := (qd8 (.st [.s, (.i .i64), (.i .i64), (.fr true 13)]))) tabOk follows Tryd.func21 [(.cell 4 true 4)] hdeT (.z) S1_ qlt (fun f v => f (v.s 0 0) (v.i 4 0)) (by kernel_rfl) (by kernel_rfl) (by kernel_rfl) fun _ => (by kernel_rfl)
def qij : Nat := 37
def qbn : List LT := [.b, (.i .u64), (.i .u64), .s, .s, .s, (.i .i64), (.i .i64), (.i .i64), (.i .i64), (.i .i64), (.i .i64), (.i .u64)]
def qdq : List LT := [.s, (.i .i64), (.i .i64), (.sl 13)]
def S2_ : Shp := ⟨[(1, .one (.ptr 0 0)), (3, .one (.own 1)), (7, .one (.l (.sl 13))), (8, .one (.l (.i .i64))), (9, .one (.l (.i .i64)))], [.box true (lk qdq), .arr true 16]⟩
def S3_ : Shp := ⟨[(0, .st (lk qdq))], []⟩
def qkm  (K : Ex → Env → Mem → Option (List AV)) := (fun z_a0 => K (.exit 0) (qi [(3, (.own 0 z_a0.length))]) (qh [(some (.arr true 16 z_a0))]))
def qd9  (v7 : List AV) (v8 v9 : Int) (Aa : List UInt8) (Ab Ac : Int) (Ad a1 : List AV) (next : Int → (List AV) → Option (List AV)) (kx0 : (List AV) → Option (List AV)) : Option (List AV) :=
  (bif (decide (v9 < v8)) then (oB (ixB v7 v9) fun y1 => (bif fitC qbn y1.cells then (bif hd a1 a1.length then (bif hd ([(.agg [(.str Aa), (.int .i64 Ab), (.int .i64 Ac), (.bool (gB y1.cells 0)), (.int .u64 (gI y1.cells 1)), (.int .u64 (gI y1.cells 2)), (.str (gS y1.cells 3)), (.str (gS y1.cells 4)), (.str (gS y1.cells 5)), (.int .i64 (gI y1.cells 6)), (.int .i64 (gI y1.cells 7)), (.int .i64 (gI y1.cells 8)), (.int .i64 (gI y1.cells 9)), (.int .i64 (gI y1.cells 10)), (.int .i64 (gI y1.cells 11)), (.int .u64 (gI y1.cells 12))])] : List AV) (([(.agg [(.str Aa), (.int .i64 Ab), (.int .i64 Ac), (.bool (gB y1.cells 0)), (.int .u64 (gI y1.cells 1)), (.int .u64 (gI y1.cells 2)), (.str (gS y1.cells 3)), (.str (gS y1.cells 4)), (.str (gS y1.cells 5)), (.int .i64 (gI y1.cells 6)), (.int .i64 (gI y1.cells 7)), (.int .i64 (gI y1.cells 8)), (.int .i64 (gI y1.cells 9)), (.int .i64 (gI y1.cells 10)), (.int .i64 (gI y1.cells 11)), (.int .u64 (gI y1.cells 12))])] : List AV).length) then (bif decide ((a1.length + ([(.agg [(.str Aa), (.int .i64 Ab), (.int .i64 Ac), (.bool (gB y1.cells 0)), (.int .u64 (gI y1.cells 1)), (.int .u64 (gI y1.cells 2)), (.str (gS y1.cells 3)), (.str (gS y1.cells 4)), (.str (gS y1.cells 5)), (.int .i64 (gI y1.cells 6)), (.int .i64 (gI y1.cells 7)), (.int .i64 (gI y1.cells 8)), (.int .i64 (gI y1.cells 9)), (.int .i64 (gI y1.cells 10)), (.int .i64 (gI y1.cells 11)), (.int .u64 (gI y1.cells 12))])] : List AV).length) * 160 ≤ 140737488355328) then (next (IntKind.i64.wrap (v9 + (1 : Int))) (a1 ++ ([(.agg [(.str Aa), (.int .i64 Ab), (.int .i64 Ac), (.bool (gB y1.cells 0)), (.int .u64 (gI y1.cells 1)), (.int .u64 (gI y1.cells 2)), (.str (gS y1.cells 3)), (.str (gS y1.cells 4)), (.str (gS y1.cells 5)), (.int .i64 (gI y1.cells 6)), (.int .i64 (gI y1.cells 7)), (.int .i64 (gI y1.cells 8)), (.int .i64 (gI y1.cells 9)), (.int .i64 (gI y1.cells 10)), (.int .i64 (gI y1.cells 11)), (.int .u64 (gI y1.cells 12))])] : List AV))) else none) else none) else none) else none)) else (kx0 a1))
def qc3  (v7 : List AV) (v8 : Int) (Aa : List UInt8) (Ab Ac : Int) (Ad : List AV) (kx0 : (List AV) → Option (List AV)) : Nat → Int → (List AV) → Option (List AV)
  | 0 => (fun _ _ => none)
  | n + 1 => (fun v9 a1 => qd9 v7 v8 v9 Aa Ab Ac Ad a1 (qc3 v7 v8 Aa Ab Ac Ad kx0 n) kx0)
def qoz := hull (qc3)
theorem quz : qoz = qc3 := qb _
def qvd : SubB Tryd.prog (TIof Tryd.prog) 26 0 (kret [.t 2] (decF true 16)) := lpB tabOk follows Tryd.f56 75 (.s .z (.s (.s .z (.v [.sel [3] [1]])) (.s (.b (.s (.r [(0, .p (.etac 11 qbn))] []) .z)) (.v [.sel [1, 3, 7, 8, 9] [0, 1]])))) S2_ (qc3) (fun f v K n => f (v.l 28 0) (v.i 32 0) (v.s 3 0) (v.i 3 1) (v.i 3 2) (v.l 3 3) (qkm K) n) (fun v f K => qd9 (v.l 28 0) (v.i 32 0) (v.i 36 0) (v.s 3 0) (v.i 3 1) (v.i 3 2) (v.l 3 3) (v.r 1) f (qkm K)) (fun f v => f (v.i 36 0) (v.r 1)) (fun k v => (fun z0 z1 => k ((v.ui 36 0 z0).ur 1 z1))) (by kernel_rfl) (fun _ _ => (by kernel_rfl)) (fun _ _ _ => (by kernel_rfl)) (fun _ _ _ => (by kernel_rfl)) (fun _ _ => (by kernel_rfl)) (fun _ _ _ _ _ => (by kernel_rfl))
def qhm (Ae : List UInt8) (Af Ag : Int) (Ah : List AV) : Option (List AV) :=
  (bif (hd ([] : List AV) (([] : List AV).length) && true) then (qoz Ah (Ah.length : Int) Ae Af Ag Ah (fun a0q1 => (bif hd a0q1 a0q1.length then (some a0q1) else none)) FU (0 : Int) ([] : List AV)) else none)
def qnt := hull qhm
theorem qze : qnt = qhm := qb _
def q0l {R : Type} : EntF Tryd.prog R := entB (nt := 26) (dec := (decF true 16)) (enc := (AV.fr true 16)) tabOk follows Tryd.func56 [.t 2] hdeF (.s .z (.s .z (.s (.s .z (.b (.sub [.own 3 16, .sel [1, 3, 7, 8, 9] [0, 1]] qvd []))) .z))) S3_ qhm (fun f v => f (v.s 1 0) (v.i 1 1) (v.i 1 2) (v.l 1 3)) (by kernel_rfl) (by kernel_rfl) (by kernel_rfl) fun _ => (by kernel_rfl)
def qkn : List LT := [.s, (.i .i64), (.i .i64), .b, (.i .u64), (.i .u64), .s, .s, .s, (.i .i64), (.i .i64), (.i .i64), (.i .i64), (.i .i64), (.i .i64), (.i .u64)]
def S4_ : Shp := ⟨[(0, .one (.l .s)), (1, .one (.l .s))], []⟩
def qdt (v0 v1 : List UInt8) : Option Bool :=
  (bif (decide ((v0.length : Int) ≥ (v1.length : Int))) then (oB (cutI v0 (some (IntKind.i64.wrap ((v0.length : Int) - (v1.length : Int)))) none) fun s1 => (some (s1 == v1))) else (some false))
def qj3 := hull qdt
theorem qo0 : qj3 = qdt := qb _
def qp2 {R : Type} : EntF Tryd.prog R := entB (nt := 21) (dec := decB) (enc := AV.bool) tabOk follows Tryd.func51 [.t 4] hdeB (.z) S4_ qdt (fun f v => f (v.s 0 0) (v.s 4 0)) (by kernel_rfl) (by kernel_rfl) (by kernel_rfl) fun _ => (by kernel_rfl)
def qex (v0 v1 : List UInt8) : Option Bool :=
  (oB (qj3 v0 v1) fun r1 => (some r1))
def qfy := hull qex
theorem qsx : qfy = qex := qb _
def qln {R : Type} : EntF Tryd.prog R := entB (nt := 8) (dec := decB) (enc := AV.bool) tabOk follows Tryd.func23 [.t 4] hdeB (.s .z (.s (.r [(2, .c qp2.b)] []) .z)) S4_ qex (fun f v => f (v.s 0 0) (v.s 4 0)) (by kernel_rfl) (by kernel_rfl) (by kernel_rfl) fun _ => (by kernel_rfl)
theorem q6j {R : Type} : qe0 Tryd.prog 78 (qmh (R := R)) := q87 Tryd.func78 (by kernel_rfl) (by kernel_rfl) (by kernel_rfl) (by kernel_rfl)
theorem q6k {R : Type} : qe0 Tryd.prog 97 (qmi (R := R)) := q88 Tryd.func97 (by kernel_rfl) (by kernel_rfl) (by kernel_rfl) (by kernel_rfl)
def S5_ : Shp := ⟨[(0, .one (.l .s)), (1, .one (.l (.i .u8)))], []⟩
def qdu (v0 : List UInt8) (v1 : Int) : Option Int :=
  (oB (qoo v0 v1) fun r1 => (some r1))
def qj4 := hull qdu
theorem qo1 : qj4 = qdu := qb _
def qp3 {R : Type} : EntF Tryd.prog R := entB (nt := 8) (dec := (decI .i64)) (enc := (AV.int .i64)) tabOk follows Tryd.func90 [.t 4] hdeI (.s .z (.s (.r [(2, .c (eK q6k))] []) .z)) S5_ qdu (fun f v => f (v.s 0 0) (v.i 4 0)) (by kernel_rfl) (by kernel_rfl) (by kernel_rfl) fun _ => (by kernel_rfl)
def qey (v0 v1 : List UInt8) : Option Int :=
  (bif (((v1.length : Int) == (0 : Int)) || (v1 == v0)) then (some (0 : Int)) else (bif ((v1.length : Int) == (1 : Int)) then (oB (ixB v1 (0 : Int)) fun c1 => (oB (qj4 v0 (c1.toNat : Int)) fun r2 => (some r2))) else (bif (decide ((v1.length : Int) ≥ (v0.length : Int))) then (some (-1 : Int)) else none)))
def qn9 := hull qey
theorem qsy : qn9 = qey := qb _
def qu0 {R : Type} : EntF Tryd.prog R := entB (nt := 143) (dec := (decI .i64)) (enc := (AV.int .i64)) tabOk follows Tryd.func79 [.t 4] hdeI (.s .z (.s .z (.s (.b (.s (.r [(3, .g 3)] []) (.s .z (.s .z (.s (.s (.r [(3, .c qp3.b)] []) .z) .z))))) (.s .z (.s .z (.s .z (.s .z (.s .z (.s (.b .x) .z))))))))) S4_ qey (fun f v => f (v.s 0 0) (v.s 4 0)) (by kernel_rfl) (by kernel_rfl) (by kernel_rfl) fun _ => (by kernel_rfl)
def qhn (v0 v1 : List UInt8) : Option Int :=
  (oB (qn9 v0 v1) fun r1 => (some r1))
def qi5 := hull qhn
theorem qzf : qi5 = qhn := qb _
def qqa {R : Type} : EntF Tryd.prog R := entB (nt := 8) (dec := (decI .i64)) (enc := (AV.int .i64)) tabOk follows Tryd.func69 [.t 4] hdeI (.s .z (.s (.r [(2, .c qu0.b)] []) .z)) S4_ qhn (fun f v => f (v.s 0 0) (v.s 4 0)) (by kernel_rfl) (by kernel_rfl) (by kernel_rfl) fun _ => (by kernel_rfl)
def S6_ : Shp := ⟨[(0, .one (.l .s)), (1, .one (.l .s)), (5, .one (.l (.i .i64)))], []⟩
def qlo  (v0 v1 : List UInt8) (v5 : Int) (next : (List UInt8) → Int → Option Int) : Option Int :=
  (oB (qi5 v0 v1) fun r1 => (bif (r1 == (-1 : Int)) then (some v5) else (oB (cutI v0 (some (IntKind.i64.wrap (r1 + (v1.length : Int)))) none) fun s2 => (next s2 (IntKind.i64.wrap (v5 + (1 : Int)))))))
def qhg  (v1 : List UInt8) : Nat → (List UInt8) → Int → Option Int
  | 0 => (fun _ _ => none)
  | n + 1 => (fun v0 v5 => qlo v0 v1 v5 (qhg v1 n))
def qx2 := hull (qhg)
def qu1 : SubB Tryd.prog (TIof Tryd.prog) 34 0 (kret [.t 4] (decI .i64)) := lpB tabOk follows Tryd.f68 79 (.b (.s (.r [(2, .c qqa.b)] []) (.s .z (.s .z (.v [.sel [0, 1, 5] []]))))) S6_ (qhg) (fun f v K n => f (v.s 4 0) n) (fun v f K => qlo (v.s 0 0) (v.s 4 0) (v.i 20 0) f) (fun f v => f (v.s 0 0) (v.i 20 0)) (fun k v => (fun z0 z1 => k ((v.us 0 0 z0).ui 20 0 z1))) (by kernel_rfl) (fun _ _ => (by kernel_rfl)) (fun _ _ _ => (by kernel_rfl)) (fun _ _ _ => (by kernel_rfl)) (fun _ _ => (by kernel_rfl)) (fun _ _ _ _ _ => (by kernel_rfl))
def qho (v0 v1 : List UInt8) : Option Int :=
  (bif ((v1.length : Int) == (0 : Int)) then none else (bif ((v1.length : Int) == (1 : Int)) then (oB (ixB v1 (0 : Int)) fun c1 => (oB (qon v0 (c1.toNat : Int)) fun r2 => (some r2))) else (qx2 v1 FU v0 (0 : Int))))
def qnu := hull qho
theorem qzg : qnu = qho := qb _
def q0m {R : Type} : EntF Tryd.prog R := entB (nt := 34) (dec := (decI .i64)) (enc := (AV.int .i64)) tabOk follows Tryd.func68 [.t 4] hdeI (.s .z (.s (.s .z (.s (.s (.r [(1, .c (eK (qbcm (f := 76))))] []) .z) .z)) (.s (.s .z (.s (.s (.r [(3, .c (eK q6j))] []) .z) .z)) (.s .z (.b (.sub [.sel [0, 1, 5] []] qu1 [])))))) S4_ qho (fun f v => f (v.s 0 0) (v.s 4 0)) (by kernel_rfl) (by kernel_rfl) (by kernel_rfl) fun _ => (by kernel_rfl)
def S7_ : Shp := ⟨[(0, .one (.l .s)), (1, .one (.l .s)), (2, .one (.l (.i .i64))), (3, .one (.l (.i .i64)))], []⟩
def S8_ : Shp := ⟨[(0, .one (.l .s)), (1, .one (.l .s)), (2, .one (.l (.i .i64))), (3, .one (.l (.i .i64))), (9, .one (.own 0)), (10, .one (.l (.i .i64)))], [.arr true 1]⟩
def qp4  (v0 v1 : List UInt8) (v2 : Int) (K : Ex → Env → Mem → Option (List AV)) := (fun z_v3 => K .norm (qi [(0, (.str v0)), (1, (.str v1)), (2, (.int .i64 v2)), (3, (.int .i64 z_v3))]) (qh []))
def qd5  (v0 v1 : List UInt8) (v2 v3 : Int) (kn : Int → Option (List AV)) : Option (List AV) :=
  (bif (decide (v3 < (0 : Int))) then (oB (qnu v0 v1) fun r1 => (kn (IntKind.i64.wrap (r1 + (1 : Int))))) else (kn v3))
def qko := hull (qd5)
theorem qp5 : qko = qd5 := qb _
def qrf : SubB Tryd.prog (TIof Tryd.prog) 66 0 (kret [.t 8] (decX (.one (.sl 1)) fun z => aL z)) := jnB tabOk follows Tryd.f52 23 (.s .z (.s (.r [(2, .c q0m.b)] [.sel [0, 1, 2, 3] []]) (.v [.sel [0, 1, 2, 3] []]))) S7_ (qd5) (fun f v K => f (v.s 0 0) (v.s 4 0) (v.i 8 0) (v.i 12 0) (qp4 (v.s 0 0) (v.s 4 0) (v.i 8 0) K)) (by kernel_rfl) (fun _ _ => (by kernel_rfl))
def qh8  (K : Ex → Env → Mem → Option (List AV)) := (fun z_v0 z_v10 z_a0 => K (.exit 0) (qi [(0, (.str z_v0)), (9, (.own 0 z_a0.length)), (10, (.int .i64 z_v10))]) (qh [(some (.arr true 1 z_a0))]))
def qcs  (v0 v1 : List UInt8) (v2 v3 v10 : Int) (a0 : List AV) (next : (List UInt8) → Int → (List AV) → Option (List AV)) (kx0 : (List UInt8) → Int → (List AV) → Option (List AV)) : Option (List AV) :=
  (bif (decide (v10 < v3)) then (oB (qi5 v0 v1) fun r1 => (bif (decide (r1 < (0 : Int))) then (kx0 v0 v10 a0) else (oB (cutI v0 none (some (IntKind.i64.wrap (r1 + v2)))) fun s2 => (bif hd a0 a0.length then (bif decide (0 ≤ v10 ∧ v10 < a0.length) then (bif hd a0 a0.length then (oB (a0[v10.toNat]?) fun y3 => (oB (putE y3 0 1 [(.str s2)]) fun z4 => (oB (cutI v0 (some (IntKind.i64.wrap (r1 + (v1.length : Int)))) none) fun s5 => (bif hd (a0.set v10.toNat z4) a0.length then (next s5 (IntKind.i64.wrap (v10 + (1 : Int))) (a0.set v10.toNat z4)) else none)))) else none) else none) else none)))) else (kx0 v0 v10 a0))
def qbm  (v1 : List UInt8) (v2 v3 : Int) (kx0 : (List UInt8) → Int → (List AV) → Option (List AV)) : Nat → (List UInt8) → Int → (List AV) → Option (List AV)
  | 0 => (fun _ _ _ => none)
  | n + 1 => (fun v0 v10 a0 => qcs v0 v1 v2 v3 v10 a0 (qbm v1 v2 v3 kx0 n) kx0)
def qkp := hull (qbm)
theorem qp6 : qkp = qbm := qb _
def qrg : SubB Tryd.prog (TIof Tryd.prog) 66 0 (kret [.t 8] (decX (.one (.sl 1)) fun z => aL z)) := lpB tabOk follows Tryd.f52 2303 (.s (.s .z (.s .z (.v [.sel [0, 9, 10] [0]]))) (.b (.s (.r [(2, .c qqa.b)] []) (.s (.s .z (.s (.v [.sel [0, 9, 10] [0]]) .z)) (.s .z (.s .z (.v [.hd 9, .sel [0, 1, 2, 3, 9, 10] [0]]))))))) S8_ (qbm) (fun f v K n => f (v.s 4 0) (v.i 8 0) (v.i 12 0) (qh8 K) n) (fun v f K => qcs (v.s 0 0) (v.s 4 0) (v.i 8 0) (v.i 12 0) (v.i 40 0) (v.r 0) f (qh8 K)) (fun f v => f (v.s 0 0) (v.i 40 0) (v.r 0)) (fun k v => (fun z0 z1 z2 => k (((v.us 0 0 z0).ui 40 0 z1).ur 0 z2))) (by kernel_rfl) (fun _ _ => (by kernel_rfl)) (fun _ _ _ => (by kernel_rfl)) (fun _ _ _ => (by kernel_rfl)) (fun _ _ => (by kernel_rfl)) (fun _ _ _ _ _ => (by kernel_rfl))
def qe7 (v0 v1 : List UInt8) (v2 v3 : Int) : Option (List AV) :=
  (bif (v3 == (0 : Int)) then (some ([] : List AV)) else (bif (v1 == ([] : List UInt8)) then none else (qko v0 v1 v2 v3 (fun v3q1 => (bif decide (0 ≤ (if (IntKind.i64.wrap ((v0.length : Int) + (1 : Int))) < v3q1 then (IntKind.i64.wrap ((v0.length : Int) + (1 : Int))) else v3q1) ∧ (if (IntKind.i64.wrap ((v0.length : Int) + (1 : Int))) < v3q1 then (IntKind.i64.wrap ((v0.length : Int) + (1 : Int))) else v3q1) ≤ (if (IntKind.i64.wrap ((v0.length : Int) + (1 : Int))) < v3q1 then (IntKind.i64.wrap ((v0.length : Int) + (1 : Int))) else v3q1) ∧ (if (IntKind.i64.wrap ((v0.length : Int) + (1 : Int))) < v3q1 then (IntKind.i64.wrap ((v0.length : Int) + (1 : Int))) else v3q1) * 16 ≤ 281474976710656) then (bif (hd (List.replicate (if (IntKind.i64.wrap ((v0.length : Int) + (1 : Int))) < v3q1 then (IntKind.i64.wrap ((v0.length : Int) + (1 : Int))) else v3q1).toNat ((.str ([] : List UInt8)) : AV)) ((List.replicate (if (IntKind.i64.wrap ((v0.length : Int) + (1 : Int))) < v3q1 then (IntKind.i64.wrap ((v0.length : Int) + (1 : Int))) else v3q1).toNat ((.str ([] : List UInt8)) : AV)).length) && true) then (qkp v1 v2 (IntKind.i64.wrap ((if (IntKind.i64.wrap ((v0.length : Int) + (1 : Int))) < v3q1 then (IntKind.i64.wrap ((v0.length : Int) + (1 : Int))) else v3q1) - (1 : Int))) (fun v0q2 v10q3 a0q4 => (bif hd a0q4 a0q4.length then (bif decide (0 ≤ v10q3 ∧ v10q3 < a0q4.length) then (bif hd a0q4 a0q4.length then (oB (a0q4[v10q3.toNat]?) fun y5 => (oB (putE y5 0 1 [(.str v0q2)]) fun z6 => (bif hd (a0q4.set v10q3.toNat z6) a0q4.length then (oB (cutI (a0q4.set v10q3.toNat z6) none (some (IntKind.i64.wrap (v10q3 + (1 : Int))))) fun s7 => (some s7)) else none))) else none) else none) else none)) FU v0 (0 : Int) (List.replicate (if (IntKind.i64.wrap ((v0.length : Int) + (1 : Int))) < v3q1 then (IntKind.i64.wrap ((v0.length : Int) + (1 : Int))) else v3q1).toNat ((.str ([] : List UInt8)) : AV))) else none) else none)))))
def qo2 := hull qe7
theorem qu2 : qo2 = qe7 := qb _
def qve {R : Type} : EntF Tryd.prog R := entB (nt := 66) (dec := (decX (.one (.sl 1)) fun z => aL z)) (enc := (fun r => .sl 1 r)) tabOk follows Tryd.func52 [.t 8] (hdeX fun _ => rfl) (.s .z (.s (.s .z (.s (.s .z (.v [.eta 8 (.one (.sl 1))])) .z)) (.s (.s .z (.s (.s (.r [(2, .c (eK (qbcm (f := 67))))] []) .z) .z)) (.s (.sub [.sel [0, 1, 2, 3] []] qrf []) (.s .z (.s .z (.s .z (.s .z (.s (.b (.sub [.sel [0, 1, 2, 3, 9, 10] [0]] qrg [])) .z))))))))) S7_ qe7 (fun f v => f (v.s 0 0) (v.s 4 0) (v.i 8 0) (v.i 12 0)) (by kernel_rfl) (by kernel_rfl) (by kernel_rfl) fun _ => (by kernel_rfl)
def qhp (v0 v1 : List UInt8) : Option (List AV) :=
  (oB (qo2 v0 v1 (0 : Int) (-1 : Int)) fun r1 => (some r1))
def qi6 := hull qhp
theorem qzh : qi6 = qhp := qb _
def qqb {R : Type} : EntF Tryd.prog R := entB (nt := 8) (dec := (decX (.one (.sl 1)) fun z => aL z)) (enc := (fun r => .sl 1 r)) tabOk follows Tryd.func24 [.t 4] (hdeX fun _ => rfl) (.s .z (.s (.r [(2, .k qve.b)] []) .z)) S4_ qhp (fun f v => f (v.s 0 0) (v.s 4 0)) (by kernel_rfl) (by kernel_rfl) (by kernel_rfl) fun _ => (by kernel_rfl)
def S9_ : Shp := ⟨[(0, .one (.l .s)), (4, .one (.l (.i .u8))), (13, .one (.l (.i .i64))), (14, .one (.l (.i .i64)))], []⟩
def S10_ : Shp := ⟨[(0, .one (.l .s)), (13, .one (.l (.i .i64))), (14, .one (.l (.i .i64)))], []⟩
def S11_ : Shp := ⟨[(0, .one (.l .s))], []⟩
def qrs  (v0 : List UInt8) (v13 v14 : Int) (K : Ex → Env → Mem → Option Bool) := (fun z_v41 => K .norm (qi [(0, (.str v0)), (13, (.int .i64 v13)), (14, (.int .i64 v14)), (41, (.bool z_v41))]) (qh []))
def qei  (v0 : List UInt8) (v4 v13 v14 : Int) (kn : Bool → Option Bool) : Option Bool :=
  (bif ((decide (v4 < (97 : Int))) || (decide (v4 > (122 : Int)))) then (bif (decide (v4 < (48 : Int))) then (kn ((v4 != (45 : Int)) && (v4 != (95 : Int)))) else (kn (((decide (v4 > (57 : Int))) && (v4 != (45 : Int))) && (v4 != (95 : Int))))) else (kn false))
def qh9 := hull (qei)
theorem qrt : qh9 = qei := qb _
def qsz : SubB Tryd.prog (TIof Tryd.prog) 43 0 (kret [.t 2] decB) := jnB tabOk follows Tryd.f25 11467 (.r [(3, .g 2), (15, .g 2), (19, .g 2)] [.sel [0, 13, 14, 41] []]) S9_ (qei) (fun f v K => f (v.s 0 0) (v.i 16 0) (v.i 52 0) (v.i 56 0) (qrs (v.s 0 0) (v.i 52 0) (v.i 56 0) K)) (by kernel_rfl) (fun _ _ => (by kernel_rfl))
def qi2  (K : Ex → Env → Mem → Option Bool) := (fun (_ : Unit) => K (.exit 0) (qi []) (qh []))
def qdb  (v0 : List UInt8) (v13 v14 : Int) (next : Int → Option Bool) (kx0 : Unit → Option Bool) : Option Bool :=
  (bif (decide (v14 < v13)) then (oB (ixB v0 v14) fun c1 => (qh9 v0 (c1.toNat : Int) v13 v14 (fun v41q2 => (bif v41q2 then (some false) else (next (IntKind.i64.wrap (v14 + (1 : Int)))))))) else (kx0 ()))
def qdc  (v0 : List UInt8) (v13 : Int) (kx0 : Unit → Option Bool) : Nat → Int → Option Bool
  | 0 => (fun _ => none)
  | n + 1 => (fun v14 => qdb v0 v13 v14 (qdc v0 v13 kx0 n) kx0)
def qm4 := hull (qdc)
theorem qru : qm4 = qdc := qb _
def qs0 : SubB Tryd.prog (TIof Tryd.prog) 43 0 (kret [.t 2] decB) := lpB tabOk follows Tryd.f25 75 (.s .z (.s (.s .z (.v [.sel [] []])) (.s (.b (.s .z (.s .z (.s (.sub [.sel [0, 4, 13, 14] []] qsz []) .z)))) (.v [.sel [0, 13, 14] []])))) S10_ (qdc) (fun f v K n => f (v.s 0 0) (v.i 52 0) (qi2 K) n) (fun v f K => qdb (v.s 0 0) (v.i 52 0) (v.i 56 0) f (qi2 K)) (fun f v => f (v.i 56 0)) (fun k v => (fun z0 => k (v.ui 56 0 z0))) (by kernel_rfl) (fun _ _ => (by kernel_rfl)) (fun _ _ _ => (by kernel_rfl)) (fun _ _ _ => (by kernel_rfl)) (fun _ _ => (by kernel_rfl)) (fun _ _ _ _ _ => (by kernel_rfl))
def qgu (v0 : List UInt8) : Option Bool :=
  (bif ((v0 == ([] : List UInt8)) || (decide ((v0.length : Int) > (63 : Int)))) then (some false) else (qm4 v0 (v0.length : Int) (fun (_ : Unit) => (some true)) FU (0 : Int)))
def qlu := hull qgu
theorem qx3 : qlu = qgu := qb _
def qzi {R : Type} : EntF Tryd.prog R := entB (nt := 43) (dec := decB) (enc := AV.bool) tabOk follows Tryd.func25 [.t 2] hdeB (.s .z (.s (.s (.r [(3, .g 3)] []) .z) (.s (.s .z (.b (.sub [.sel [0, 13, 14] []] qs0 []))) .z))) S11_ qgu (fun f v => f (v.s 0 0)) (by kernel_rfl) (by kernel_rfl) (by kernel_rfl) fun _ => (by kernel_rfl)
def S12_ : Shp := ⟨[(3, .one (.l (.i .i64))), (4, .one (.l .s)), (20, .one (.l (.sl 1))), (21, .one (.l (.i .i64))), (22, .one (.l (.i .i64)))], []⟩
def S13_ : Shp := ⟨[(20, .one (.l (.sl 1))), (21, .one (.l (.i .i64))), (22, .one (.l (.i .i64)))], []⟩
def qvf  (v0 : List UInt8) (K : Ex → Env → Mem → Option Bool) := (fun z_v14 => K .norm (qi [(0, (.str v0)), (14, (.bool z_v14))]) (qh []))
def qfz  (v0 : List UInt8) (kn : Bool → Option Bool) : Option Bool :=
  (bif (decide ((v0.length : Int) ≥ (255 : Int))) then (kn true) else (oB (qfy v0 ([46] : List UInt8)) fun r1 => (kn (!r1))))
def qqc := hull (qfz)
theorem qvg : qqc = qfz := qb _
def qx4 : SubB Tryd.prog (TIof Tryd.prog) 39 0 (kret [.t 2] decB) := jnB tabOk follows Tryd.f10 19 (.r [(5, .c qln.b)] [.sel [0, 14] []]) S11_ (qfz) (fun f v K => f (v.s 0 0) (qvf (v.s 0 0) K)) (by kernel_rfl) (fun _ _ => (by kernel_rfl))
def qvh  (v20 : List AV) (v21 v22 : Int) (K : Ex → Env → Mem → Option Bool) := (fun z_v37 => K .norm (qi [(20, (.sl 1 v20)), (21, (.int .i64 v21)), (22, (.int .i64 v22)), (37, (.bool z_v37))]) (qh []))
def qf0  (v3 : Int) (v4 : List UInt8) (v20 : List AV) (v21 v22 : Int) (kn : Bool → Option Bool) : Option Bool :=
  (oB (qlu v4) fun r1 => (bif (!r1) then (bif (decide (v3 > (0 : Int))) then (kn true) else (kn (!(v4 == ([42] : List UInt8))))) else (kn false)))
def qqd := hull (qf0)
theorem qvi : qqd = qf0 := qb _
def qx5 : SubB Tryd.prog (TIof Tryd.prog) 39 0 (kret [.t 2] decB) := jnB tabOk follows Tryd.f10 10647 (.r [(1, .c qzi.b)] [.sel [20, 21, 22, 37] []]) S12_ (qf0) (fun f v K => f (v.i 12 0) (v.s 16 0) (v.l 80 0) (v.i 84 0) (v.i 88 0) (qvh (v.l 80 0) (v.i 84 0) (v.i 88 0) K)) (by kernel_rfl) (fun _ _ => (by kernel_rfl))
def qlp  (K : Ex → Env → Mem → Option Bool) := (fun (_ : Unit) => K (.exit 0) (qi []) (qh []))
def qee  (v20 : List AV) (v21 v22 : Int) (next : Int → Option Bool) (kx0 : Unit → Option Bool) : Option Bool :=
  (bif (decide (v22 < v21)) then (oB (ixB v20 v22) fun y1 => (bif fitC [.s] y1.cells then (qqd v22 (gS y1.cells 0) v20 v21 v22 (fun v37q2 => (bif v37q2 then (some false) else (next (IntKind.i64.wrap (v22 + (1 : Int))))))) else none)) else (kx0 ()))
def qef  (v20 : List AV) (v21 : Int) (kx0 : Unit → Option Bool) : Nat → Int → Option Bool
  | 0 => (fun _ => none)
  | n + 1 => (fun v22 => qee v20 v21 v22 (qef v20 v21 kx0 n) kx0)
def qkq := hull (qef)
theorem qvj : qkq = qef := qb _
def qx6 : SubB Tryd.prog (TIof Tryd.prog) 39 0 (kret [.t 2] decB) := lpB tabOk follows Tryd.f10 151 (.s .z (.s (.s .z (.v [.sel [] []])) (.s (.b (.s (.r [(1, .p (.etac 25 [.s]))] []) (.s (.sub [.sel [3, 4, 20, 21, 22] []] qx5 []) .z))) (.v [.sel [20, 21, 22] []])))) S13_ (qef) (fun f v K n => f (v.l 80 0) (v.i 84 0) (qlp K) n) (fun v f K => qee (v.l 80 0) (v.i 84 0) (v.i 88 0) f (qlp K)) (fun f v => f (v.i 88 0)) (fun k v => (fun z0 => k (v.ui 88 0 z0))) (by kernel_rfl) (fun _ _ => (by kernel_rfl)) (fun _ _ _ => (by kernel_rfl)) (fun _ _ _ => (by kernel_rfl)) (fun _ _ => (by kernel_rfl)) (fun _ _ _ _ _ => (by kernel_rfl))
def qi7 (v0 : List UInt8) : Option Bool :=
  (bif (v0 == ([46] : List UInt8)) then (some true) else (qqc v0 (fun v14q1 => (bif v14q1 then (some false) else (oB (cutI v0 none (some (IntKind.i64.wrap ((v0.length : Int) - (1 : Int))))) fun s2 => (oB (qi6 s2 ([46] : List UInt8)) fun r3 => (qkq r3 (r3.length : Int) (fun (_ : Unit) => (some true)) FU (0 : Int))))))))
def qcl := hull qi7
theorem q2x : qcl = qi7 := qb _
def qcv {R : Type} : EntF Tryd.prog R := entB (nt := 39) (dec := decB) (enc := AV.bool) tabOk follows Tryd.func10 [.t 2] hdeB (.s .z (.s .z (.s (.s (.sub [.sel [0] []] qx4 []) .z) (.s (.s (.r [(5, .k qqb.b)] []) (.b (.sub [.sel [20, 21, 22] []] qx6 []))) .z)))) S11_ qi7 (fun f v => f (v.s 0 0)) (by kernel_rfl) (by kernel_rfl) (by kernel_rfl) fun _ => (by kernel_rfl)
def qi8 : Option (List AV) :=
  (bif hd ([(.agg [(.int .i64 (1 : Int)), (.str ([65] : List UInt8)), (.str ([52] : List UInt8))]), (.agg [(.int .i64 (2 : Int)), (.str ([78, 83] : List UInt8)), (.str ([104] : List UInt8))]), (.agg [(.int .i64 (5 : Int)), (.str ([67, 78, 65, 77, 69] : List UInt8)), (.str ([104] : List UInt8))]), (.agg [(.int .i64 (6 : Int)), (.str ([83, 79, 65] : List UInt8)), (.str ([104, 109, 118, 119, 120, 121, 122] : List UInt8))]), (.agg [(.int .i64 (12 : Int)), (.str ([80, 84, 82] : List UInt8)), (.str ([104] : List UInt8))]), (.agg [(.int .i64 (15 : Int)), (.str ([77, 88] : List UInt8)), (.str ([65, 104] : List UInt8))]), (.agg [(.int .i64 (16 : Int)), (.str ([84, 88, 84] : List UInt8)), (.str ([116] : List UInt8))]), (.agg [(.int .i64 (28 : Int)), (.str ([65, 65, 65, 65] : List UInt8)), (.str ([54] : List UInt8))]), (.agg [(.int .i64 (33 : Int)), (.str ([83, 82, 86] : List UInt8)), (.str ([65, 66, 67, 104] : List UInt8))]), (.agg [(.int .i64 (39 : Int)), (.str ([68, 78, 65, 77, 69] : List UInt8)), (.str ([104] : List UInt8))]), (.agg [(.int .i64 (43 : Int)), (.str ([68, 83] : List UInt8)), (.str ([65, 98, 99, 114] : List UInt8))]), (.agg [(.int .i64 (46 : Int)), (.str ([82, 82, 83, 73, 71] : List UInt8)), (.str ([65, 115, 98, 120, 121, 122, 70, 104, 114] : List UInt8))]), (.agg [(.int .i64 (47 : Int)), (.str ([78, 83, 69, 67] : List UInt8)), (.str ([104, 110] : List UInt8))]), (.agg [(.int .i64 (48 : Int)), (.str ([68, 78, 83, 75, 69, 89] : List UInt8)), (.str ([65, 98, 99, 114] : List UInt8))])] : List AV) (([(.agg [(.int .i64 (1 : Int)), (.str ([65] : List UInt8)), (.str ([52] : List UInt8))]), (.agg [(.int .i64 (2 : Int)), (.str ([78, 83] : List UInt8)), (.str ([104] : List UInt8))]), (.agg [(.int .i64 (5 : Int)), (.str ([67, 78, 65, 77, 69] : List UInt8)), (.str ([104] : List UInt8))]), (.agg [(.int .i64 (6 : Int)), (.str ([83, 79, 65] : List UInt8)), (.str ([104, 109, 118, 119, 120, 121, 122] : List UInt8))]), (.agg [(.int .i64 (12 : Int)), (.str ([80, 84, 82] : List UInt8)), (.str ([104] : List UInt8))]), (.agg [(.int .i64 (15 : Int)), (.str ([77, 88] : List UInt8)), (.str ([65, 104] : List UInt8))]), (.agg [(.int .i64 (16 : Int)), (.str ([84, 88, 84] : List UInt8)), (.str ([116] : List UInt8))]), (.agg [(.int .i64 (28 : Int)), (.str ([65, 65, 65, 65] : List UInt8)), (.str ([54] : List UInt8))]), (.agg [(.int .i64 (33 : Int)), (.str ([83, 82, 86] : List UInt8)), (.str ([65, 66, 67, 104] : List UInt8))]), (.agg [(.int .i64 (39 : Int)), (.str ([68, 78, 65, 77, 69] : List UInt8)), (.str ([104] : List UInt8))]), (.agg [(.int .i64 (43 : Int)), (.str ([68, 83] : List UInt8)), (.str ([65, 98, 99, 114] : List UInt8))]), (.agg [(.int .i64 (46 : Int)), (.str ([82, 82, 83, 73, 71] : List UInt8)), (.str ([65, 115, 98, 120, 121, 122, 70, 104, 114] : List UInt8))]), (.agg [(.int .i64 (47 : Int)), (.str ([78, 83, 69, 67] : List UInt8)), (.str ([104, 110] : List UInt8))]), (.agg [(.int .i64 (48 : Int)), (.str ([68, 78, 83, 75, 69, 89] : List UInt8)), (.str ([65, 98, 99, 114] : List UInt8))])] : List AV).length) then (some ([(.agg [(.int .i64 (1 : Int)), (.str ([65] : List UInt8)), (.str ([52] : List UInt8))]), (.agg [(.int .i64 (2 : Int)), (.str ([78, 83] : List UInt8)), (.str ([104] : List UInt8))]), (.agg [(.int .i64 (5 : Int)), (.str ([67, 78, 65, 77, 69] : List UInt8)), (.str ([104] : List UInt8))]), (.agg [(.int .i64 (6 : Int)), (.str ([83, 79, 65] : List UInt8)), (.str ([104, 109, 118, 119, 120, 121, 122] : List UInt8))]), (.agg [(.int .i64 (12 : Int)), (.str ([80, 84, 82] : List UInt8)), (.str ([104] : List UInt8))]), (.agg [(.int .i64 (15 : Int)), (.str ([77, 88] : List UInt8)), (.str ([65, 104] : List UInt8))]), (.agg [(.int .i64 (16 : Int)), (.str ([84, 88, 84] : List UInt8)), (.str ([116] : List UInt8))]), (.agg [(.int .i64 (28 : Int)), (.str ([65, 65, 65, 65] : List UInt8)), (.str ([54] : List UInt8))]), (.agg [(.int .i64 (33 : Int)), (.str ([83, 82, 86] : List UInt8)), (.str ([65, 66, 67, 104] : List UInt8))]), (.agg [(.int .i64 (39 : Int)), (.str ([68, 78, 65, 77, 69] : List UInt8)), (.str ([104] : List UInt8))]), (.agg [(.int .i64 (43 : Int)), (.str ([68, 83] : List UInt8)), (.str ([65, 98, 99, 114] : List UInt8))]), (.agg [(.int .i64 (46 : Int)), (.str ([82, 82, 83, 73, 71] : List UInt8)), (.str ([65, 115, 98, 120, 121, 122, 70, 104, 114] : List UInt8))]), (.agg [(.int .i64 (47 : Int)), (.str ([78, 83, 69, 67] : List UInt8)), (.str ([104, 110] : List UInt8))]), (.agg [(.int .i64 (48 : Int)), (.str ([68, 78, 83, 75, 69, 89] : List UInt8)), (.str ([65, 98, 99, 114] : List UInt8))])] : List AV)) else none)
def qmn := hull qi8
theorem q2y : qmn = qi8 := qb _
def qug {R : Type} : EntF Tryd.prog R := entB (nt := 16) (dec := (decF true 3)) (enc := (AV.fr true 3)) tabOk follows Tryd.func94 [.t 0] hdeF (.z) (⟨[], []⟩ : Shp) qi8 (fun f v => f) (by kernel_rfl) (by kernel_rfl) (by kernel_rfl) fun _ => (by kernel_rfl)
def qgf : List LT := [(.i .i64), .s, .s]
def q0n (x0 : Int) (x1 x2 : List UInt8) : List AV := [.int .i64 x0, .str x1, .str x2]
def S14_ : Shp := ⟨[(0, .one (.l (.i .i64))), (2, .one (.ptr 0 0)), (6, .one (.l (.sl 3))), (7, .one (.l (.i .i64))), (8, .one (.l (.i .i64)))], [.box true (lk qgf)]⟩
def qrv : AV → Option (AV × Bool) := decN [(.st [(.i .i64), .s, .s]), (.one .b)] fun z => ((gC (tpL z) 0), aB (gC (tpL z) 1))
def qoa  (Aa : Int) (Ab Ac : List UInt8) (K : Ex → Env → Mem → Option (AV × Bool)) := (fun (_ : Unit) => K (.exit 0) (qi [(2, (.ptr 0 0))]) (qh [(some (.box true (q0n Aa Ab Ac)))]))
def qe8  (v0 : Int) (v6 : List AV) (v7 v8 Aa : Int) (Ab Ac : List UInt8) (next : Int → Option (AV × Bool)) (kx0 : Unit → Option (AV × Bool)) : Option (AV × Bool) :=
  (bif (decide (v8 < v7)) then (oB (ixB v6 v8) fun y1 => (bif fitC qgf y1.cells then (bif ((gI y1.cells 0) == v0) then (some ((.agg [(.int .i64 (gI y1.cells 0)), (.str (gS y1.cells 1)), (.str (gS y1.cells 2))]), true)) else (next (IntKind.i64.wrap (v8 + (1 : Int))))) else none)) else (kx0 ()))
def qe9  (v0 : Int) (v6 : List AV) (v7 Aa : Int) (Ab Ac : List UInt8) (kx0 : Unit → Option (AV × Bool)) : Nat → Int → Option (AV × Bool)
  | 0 => (fun _ => none)
  | n + 1 => (fun v8 => qe8 v0 v6 v7 v8 Aa Ab Ac (qe9 v0 v6 v7 Aa Ab Ac kx0 n) kx0)
def quh := hull (qe9)
theorem qzj : quh = qe9 := qb _
def q0o : SubB Tryd.prog (TIof Tryd.prog) 19 0 (kret [(.cell 2 true 3), .t 3] qrv) := lpB tabOk follows Tryd.f80 37 (.s .z (.s (.s .z (.v [.sel [2] [0]])) (.s (.b (.s (.r [(0, .p (.etac 10 qgf))] []) .z)) (.v [.sel [0, 2, 6, 7, 8] [0]])))) S14_ (qe9) (fun f v K n => f (v.i 0 0) (v.l 24 0) (v.i 28 0) (v.i 3 0) (v.s 3 1) (v.s 3 2) (qoa (v.i 3 0) (v.s 3 1) (v.s 3 2) K) n) (fun v f K => qe8 (v.i 0 0) (v.l 24 0) (v.i 28 0) (v.i 32 0) (v.i 3 0) (v.s 3 1) (v.s 3 2) f (qoa (v.i 3 0) (v.s 3 1) (v.s 3 2) K)) (fun f v => f (v.i 32 0)) (fun k v => (fun z0 => k (v.ui 32 0 z0))) (by kernel_rfl) (fun _ _ => (by kernel_rfl)) (fun _ _ _ => (by kernel_rfl)) (fun _ _ _ => (by kernel_rfl)) (fun _ _ => (by kernel_rfl)) (fun _ _ _ _ _ => (by kernel_rfl))
def qkr (v0 : Int) : Option (AV × Bool) :=
  (oB (qmn) fun r1 => (quh v0 r1 (r1.length : Int) (0 : Int) ([] : List UInt8) ([] : List UInt8) (fun (_ : Unit) => (some ((.agg [(.int .i64 (0 : Int)), (.str ([] : List UInt8)), (.str ([] : List UInt8))]), false))) FU (0 : Int)))
def q0p := hull qkr
theorem q5n : q0p = qkr := qb _
def q6l {R : Type} : EntF Tryd.prog R := entB (nt := 19) (dec := qrv) (enc := (fun r => .tup [qd8 (.st [(.i .i64), .s, .s]) r.1, .bool r.2])) tabOk follows Tryd.func80 [(.cell 2 true 3), .t 3] (hdeN fun _ => rfl) (.s .z (.s (.s (.r [(0, .k qug.b)] []) (.b (.sub [.sel [0, 2, 6, 7, 8] [0]] q0o []))) .z)) S0_ qkr (fun f v => f (v.i 0 0)) (by kernel_rfl) (by kernel_rfl) (by kernel_rfl) fun _ => (by kernel_rfl)
def qi9 (v0 : Int) : Option Bool :=
  (oB (q0p v0) fun r1 => (some r1.2))
def qmo := hull qi9
theorem q2z : qmo = qi9 := qb _
def qui {R : Type} : EntF Tryd.prog R := entB (nt := 11) (dec := decB) (enc := AV.bool) tabOk follows Tryd.func71 [.t 2] hdeB (.s .z (.s (.r [(1, .c q6l.b)] []) .z)) S0_ qi9 (fun f v => f (v.i 0 0)) (by kernel_rfl) (by kernel_rfl) (by kernel_rfl) fun _ => (by kernel_rfl)
def q96 : List LT := [.b, (.i .u64), (.i .u64)]
def S15_ : Shp := ⟨[(0, .st (lk q96))], []⟩
def qks (Ae : Bool) (Af Ag : Int) : Option Bool :=
  (bif Ae then (some true) else (bif (Af == (0 : Int)) then (some (decide (Ag ≤ (4294967295 : Int)))) else (some false)))
def qs1 := hull qks
theorem q5o : qs1 = qks := qb _
def q6m {R : Type} : EntF Tryd.prog R := entB (nt := 15) (dec := decB) (enc := AV.bool) tabOk follows Tryd.func81 [.t 2] hdeB (.z) S15_ qks (fun f v => f (v.b 1 0) (v.i 1 1) (v.i 1 2)) (by kernel_rfl) (by kernel_rfl) (by kernel_rfl) fun _ => (by kernel_rfl)
def qdv (v0 v1 : List UInt8) : Option Bool :=
  (bif (decide ((v0.length : Int) ≥ (v1.length : Int))) then (oB (cutI v0 none (some (v1.length : Int))) fun s1 => (some (s1 == v1))) else (some false))
def qj5 := hull qdv
theorem qo3 : qj5 = qdv := qb _
def qp7 {R : Type} : EntF Tryd.prog R := entB (nt := 18) (dec := decB) (enc := AV.bool) tabOk follows Tryd.func99 [.t 4] hdeB (.z) S4_ qdv (fun f v => f (v.s 0 0) (v.s 4 0)) (by kernel_rfl) (by kernel_rfl) (by kernel_rfl) fun _ => (by kernel_rfl)
def qez (v0 v1 : List UInt8) : Option Bool :=
  (oB (qj5 v0 v1) fun r1 => (some r1))
def qob := hull qez
theorem qs2 : qob = qez := qb _
def qu3 {R : Type} : EntF Tryd.prog R := entB (nt := 8) (dec := decB) (enc := AV.bool) tabOk follows Tryd.func95 [.t 4] hdeB (.s .z (.s (.r [(2, .c qp7.b)] []) .z)) S4_ qez (fun f v => f (v.s 0 0) (v.s 4 0)) (by kernel_rfl) (by kernel_rfl) (by kernel_rfl) fun _ => (by kernel_rfl)
def qkt (v0 : List UInt8) : Option Bool :=
  (oB (qcl v0) fun r1 => (bif r1 then (oB (qob v0 ([42] : List UInt8)) fun r2 => (some (!r2))) else (some false)))
def qfa := hull qkt
theorem q5p : qfa = qkt := qb _
def qgg {R : Type} : EntF Tryd.prog R := entB (nt := 10) (dec := decB) (enc := AV.bool) tabOk follows Tryd.func82 [.t 2] hdeB (.s .z (.s (.r [(1, .c qcv.b), (4, .c qu3.b)] []) .z)) S11_ qkt (fun f v => f (v.s 0 0)) (by kernel_rfl) (by kernel_rfl) (by kernel_rfl) fun _ => (by kernel_rfl)
def qlv (v0 : Int) : Option Bool :=
  (some ((decide (v0 ≥ (0 : Int))) && (decide (v0 < (4294967296 : Int)))))
def qo4 := hull qlv
theorem q0q : qo4 = qlv := qb _
def q20 {R : Type} : EntF Tryd.prog R := entB (nt := 9) (dec := decB) (enc := AV.bool) tabOk follows Tryd.func83 [.t 2] hdeB (.s .z (.s (.r [(3, .g 2)] []) .z)) S0_ qlv (fun f v => f (v.i 0 0)) (by kernel_rfl) (by kernel_rfl) (by kernel_rfl) fun _ => (by kernel_rfl)
def S16_ : Shp := ⟨[(0, .one (.l (.i .i64))), (1, .one (.l (.i .i64)))], []⟩
def qlw (v0 v1 : Int) : Option Bool :=
  (some ((decide (v0 ≥ (0 : Int))) && (decide (v0 ≤ v1))))
def qq := hull qlw
theorem q0r : qq = qlw := qb _
def qr {R : Type} : EntF Tryd.prog R := entB (nt := 12) (dec := decB) (enc := AV.bool) tabOk follows Tryd.func84 [.t 4] hdeB (.s .z (.s (.r [(3, .g 3)] []) .z)) S16_ qlw (fun f v => f (v.i 0 0) (v.i 4 0)) (by kernel_rfl) (by kernel_rfl) (by kernel_rfl) fun _ => (by kernel_rfl)
def qo5 (v0 : List UInt8) : Option Bool :=
  (some ((decide ((v0.length : Int) ≥ (1 : Int))) && (decide ((v0.length : Int) ≤ (255 : Int)))))
def qku := hull qo5
theorem q5q : qku = qo5 := qb _
def qo6 {R : Type} : EntF Tryd.prog R := entB (nt := 11) (dec := decB) (enc := AV.bool) tabOk follows Tryd.func85 [.t 2] hdeB (.s .z (.s (.r [(4, .g 3)] []) .z)) S11_ qo5 (fun f v => f (v.s 0 0)) (by kernel_rfl) (by kernel_rfl) (by kernel_rfl) fun _ => (by kernel_rfl)
def S17_ : Shp := ⟨[(1, .one (.l (.i .u64))), (4, .one (.l (.sl 3))), (5, .one (.l (.i .i64))), (6, .one (.l (.i .i64)))], []⟩
def qo7  (K : Ex → Env → Mem → Option Int) := (fun z_v1 => K (.exit 0) (qi [(1, (.int .u64 z_v1))]) (qh []))
def qgh  (v1 : Int) (v4 : List AV) (v5 v6 : Int) (next : Int → Int → Option Int) (kx0 : Int → Option Int) : Option Int :=
  (bif (decide (v6 < v5)) then (oB (ixB v4 v6) fun y1 => (bif fitC qgf y1.cells then (bif decide ((gI y1.cells 0) < 0) then none else (next (qfj .or .u64 v1 (IntKind.u64.wrap ((1 : Int) * 2 ^ min (gI y1.cells 0).toNat IntKind.u64.bits))) (IntKind.i64.wrap (v6 + (1 : Int))))) else none)) else (kx0 v1))
def qgi  (v4 : List AV) (v5 : Int) (kx0 : Int → Option Int) : Nat → Int → Int → Option Int
  | 0 => (fun _ _ => none)
  | n + 1 => (fun v1 v6 => qgh v1 v4 v5 v6 (qgi v4 v5 kx0 n) kx0)
def qvk := hull (qgi)
theorem q0s : qvk = qgi := qb _
def q21 : SubB Tryd.prog (TIof Tryd.prog) 17 0 (kret [.t 0] (decI .u64)) := lpB tabOk follows Tryd.f86 75 (.s .z (.s (.s .z (.v [.sel [1] []])) (.s (.b (.s (.r [(0, .p (.etac 8 qgf))] []) .z)) (.v [.sel [1, 4, 5, 6] []])))) S17_ (qgi) (fun f v K n => f (v.l 16 0) (v.i 20 0) (qo7 K) n) (fun v f K => qgh (v.i 4 0) (v.l 16 0) (v.i 20 0) (v.i 24 0) f (qo7 K)) (fun f v => f (v.i 4 0) (v.i 24 0)) (fun k v => (fun z0 z1 => k ((v.ui 4 0 z0).ui 24 0 z1))) (by kernel_rfl) (fun _ _ => (by kernel_rfl)) (fun _ _ _ => (by kernel_rfl)) (fun _ _ _ => (by kernel_rfl)) (fun _ _ => (by kernel_rfl)) (fun _ _ _ _ _ => (by kernel_rfl))
def qmp : Option Int :=
  (oB (qmn) fun r1 => (qvk r1 (r1.length : Int) (fun v1q2 => (some v1q2)) FU (0 : Int) (0 : Int)))
def qvl := hull qmp
theorem q6n : qvl = qmp := qb _
def q8p {R : Type} : EntF Tryd.prog R := entB (nt := 17) (dec := (decI .u64)) (enc := (AV.int .u64)) tabOk follows Tryd.func86 [.t 0] hdeI (.s .z (.s .z (.s (.s (.r [(0, .k qug.b)] []) (.b (.sub [.sel [1, 4, 5, 6] []] q21 []))) .z))) (⟨[], []⟩ : Shp) qmp (fun f v => f) (by kernel_rfl) (by kernel_rfl) (by kernel_rfl) fun _ => (by kernel_rfl)
def quj (x0 : Bool) (x1 x2 : Int) (x3 x4 x5 : List UInt8) (x6 x7 x8 x9 x10 x11 x12 : Int) : List AV := [.bool x0, .int .u64 x1, .int .u64 x2, .str x3, .str x4, .str x5, .int .i64 x6, .int .i64 x7, .int .i64 x8, .int .i64 x9, .int .i64 x10, .int .i64 x11, .int .u64 x12]
def S18_ : Shp := ⟨[(0, .one (.l (.i .i64))), (3, .one (.ptr 0 0)), (5, .one (.l (.i .i64)))], [.box true (lk qbn)]⟩
def S19_ : Shp := ⟨[(3, .one (.ptr 0 0)), (5, .one (.l (.i .i64)))], [.box true (lk qbn)]⟩
def S20_ : Shp := ⟨[(3, .one (.ptr 0 0))], [.box true (lk qbn)]⟩
def S21_ : Shp := ⟨[(0, .one (.l (.i .i64))), (1, .st (lk qbn))], []⟩
def qx7  (v0 v5 : Int) (Aa : Bool) (Ab Ac : Int) (Ad Ai Aj : List UInt8) (Ak Al Am An Ao Ap Aq : Int) (K : Ex → Env → Mem → Option Bool) := (fun z_v6 => K .norm (qi [(0, (.int .i64 v0)), (3, (.ptr 0 0)), (5, (.int .i64 v5)), (6, (.bool z_v6))]) (qh [(some (.box true (quj Aa Ab Ac Ad Ai Aj Ak Al Am An Ao Ap Aq)))]))
def qgv  (v0 v5 : Int) (Aa : Bool) (Ab Ac : Int) (Ad Ai Aj : List UInt8) (Ak Al Am An Ao Ap Aq : Int) (kn : Bool → Option Bool) : Option Bool :=
  (bif (v5 == (1 : Int)) then (kn true) else (kn (v5 == (28 : Int))))
def qrw := hull (qgv)
theorem qx8 : qrw = qgv := qb _
def qzk : SubB Tryd.prog (TIof Tryd.prog) 324 0 (kret [.t 4] decB) := jnB tabOk follows Tryd.f72 37 (.s .z (.s (.v [.sel [0, 3, 5, 6] [0]]) (.v [.sel [0, 3, 5, 6] [0]]))) S18_ (qgv) (fun f v K => f (v.i 0 0) (v.i 20 0) (v.b 3 0) (v.i 3 1) (v.i 3 2) (v.s 3 3) (v.s 3 4) (v.s 3 5) (v.i 3 6) (v.i 3 7) (v.i 3 8) (v.i 3 9) (v.i 3 10) (v.i 3 11) (v.i 3 12) (qx7 (v.i 0 0) (v.i 20 0) (v.b 3 0) (v.i 3 1) (v.i 3 2) (v.s 3 3) (v.s 3 4) (v.s 3 5) (v.i 3 6) (v.i 3 7) (v.i 3 8) (v.i 3 9) (v.i 3 10) (v.i 3 11) (v.i 3 12) K)) (by kernel_rfl) (fun _ _ => (by kernel_rfl))
def qvm  (v5 : Int) (Aa : Bool) (Ab Ac : Int) (Ad Ai Aj : List UInt8) (Ak Al Am An Ao Ap Aq : Int) (K : Ex → Env → Mem → Option Bool) := (fun z_v27 => K .norm (qi [(3, (.ptr 0 0)), (5, (.int .i64 v5)), (27, (.bool z_v27))]) (qh [(some (.box true (quj Aa Ab Ac Ad Ai Aj Ak Al Am An Ao Ap Aq)))]))
def qf1  (v5 : Int) (Aa : Bool) (Ab Ac : Int) (Ad Ai Aj : List UInt8) (Ak Al Am An Ao Ap Aq : Int) (kn : Bool → Option Bool) : Option Bool :=
  (bif (v5 == (2 : Int)) then (kn true) else (bif (v5 == (5 : Int)) then (kn true) else (bif (v5 == (12 : Int)) then (kn true) else (kn (v5 == (39 : Int))))))
def qqe := hull (qf1)
theorem qvn : qqe = qf1 := qb _
def qx9 : SubB Tryd.prog (TIof Tryd.prog) 324 0 (kret [.t 4] decB) := jnB tabOk follows Tryd.f72 181 (.s .z (.s (.v [.sel [3, 5, 27] [0]]) (.s .z (.s (.v [.sel [3, 5, 27] [0]]) (.s .z (.s (.v [.sel [3, 5, 27] [0]]) (.v [.sel [3, 5, 27] [0]]))))))) S19_ (qf1) (fun f v K => f (v.i 20 0) (v.b 3 0) (v.i 3 1) (v.i 3 2) (v.s 3 3) (v.s 3 4) (v.s 3 5) (v.i 3 6) (v.i 3 7) (v.i 3 8) (v.i 3 9) (v.i 3 10) (v.i 3 11) (v.i 3 12) (qvm (v.i 20 0) (v.b 3 0) (v.i 3 1) (v.i 3 2) (v.s 3 3) (v.s 3 4) (v.s 3 5) (v.i 3 6) (v.i 3 7) (v.i 3 8) (v.i 3 9) (v.i 3 10) (v.i 3 11) (v.i 3 12) K)) (by kernel_rfl) (fun _ _ => (by kernel_rfl))
def qvo  (K : Ex → Env → Mem → Option Bool) := (fun z_v4 => K .norm (qi [(4, (.bool z_v4))]) (qh []))
def qf2  (Aa : Bool) (Ab Ac : Int) (Ad Ai Aj : List UInt8) (Ak Al Am An Ao Ap Aq : Int) (kn : Bool → Option Bool) : Option Bool :=
  (bif ((Aa == false) && ((Ab == (0 : Int)) && ((Ac == (0 : Int)) && ((Ad == Ad) && ((Ai == Ai) && ((Aj == ([] : List UInt8)) && ((Ak == Ak) && ((Al == Al) && ((Am == Am) && ((An == An) && ((Ao == Ao) && ((Ap == (0 : Int)) && ((Aq == (0 : Int)) && true))))))))))))) then (oB (qfa Ad) fun r1 => (bif r1 then (oB (qfa Ai) fun r2 => (bif r2 then (oB (qo4 Ak) fun r3 => (bif r3 then (oB (qq Al (2147483647 : Int)) fun r4 => (bif r4 then (oB (qq Am (2147483647 : Int)) fun r5 => (bif r5 then (oB (qq An (2147483647 : Int)) fun r6 => (bif r6 then (oB (qq Ao (2147483647 : Int)) fun r7 => (kn r7)) else (kn false))) else (kn false))) else (kn false))) else (kn false))) else (kn false))) else (kn false))) else (kn false))
def qqf := hull (qf2)
theorem qvp : qqf = qf2 := qb _
def qya : SubB Tryd.prog (TIof Tryd.prog) 324 0 (kret [.t 4] decB) := jnB tabOk follows Tryd.f72 2549 (.r [(20, .c qgg.b), (25, .c qgg.b), (30, .c q20.b), (35, .c qr.b), (40, .c qr.b), (45, .c qr.b), (50, .c qr.b)] [.sel [4] []]) S20_ (qf2) (fun f v K => f (v.b 3 0) (v.i 3 1) (v.i 3 2) (v.s 3 3) (v.s 3 4) (v.s 3 5) (v.i 3 6) (v.i 3 7) (v.i 3 8) (v.i 3 9) (v.i 3 10) (v.i 3 11) (v.i 3 12) (qvo K)) (by kernel_rfl) (fun _ _ => (by kernel_rfl))
def qvq  (K : Ex → Env → Mem → Option Bool) := (fun z_v4 => K .norm (qi [(4, (.bool z_v4))]) (qh []))
def qf3  (Aa : Bool) (Ab Ac : Int) (Ad Ai Aj : List UInt8) (Ak Al Am An Ao Ap Aq : Int) (kn : Bool → Option Bool) : Option Bool :=
  (bif ((Aa == false) && ((Ab == (0 : Int)) && ((Ac == (0 : Int)) && ((Ad == Ad) && ((Ai == ([] : List UInt8)) && ((Aj == Aj) && ((Ak == Ak) && ((Al == Al) && ((Am == Am) && ((An == An) && ((Ao == Ao) && ((Ap == Ap) && ((Aq == (0 : Int)) && true))))))))))))) then (oB (qku Aj) fun r1 => (bif r1 then (oB (qfa Ad) fun r2 => (bif r2 then (oB (qmo Ak) fun r3 => (bif (r3 && (Ak != (46 : Int))) then (oB (qq Al (127 : Int)) fun r4 => (bif r4 then (oB (qq Am (2147483647 : Int)) fun r5 => (bif r5 then (oB (qq An (4294967295 : Int)) fun r6 => (bif r6 then (oB (qq Ao (4294967295 : Int)) fun r7 => (bif r7 then (oB (qq Ap (65535 : Int)) fun r8 => (kn r8)) else (kn false))) else (kn false))) else (kn false))) else (kn false))) else (kn false))) else (kn false))) else (kn false))) else (kn false))
def qqg := hull (qf3)
theorem qvr : qqg = qf3 := qb _
def qyb : SubB Tryd.prog (TIof Tryd.prog) 324 0 (kret [.t 4] decB) := jnB tabOk follows Tryd.f72 2621429 (.r [(22, .c qo6.b), (27, .c qgg.b), (32, .c qui.b), (35, .g 3), (42, .c qr.b), (47, .c qr.b), (52, .c qr.b), (57, .c qr.b), (62, .c qr.b)] [.sel [4] []]) S20_ (qf3) (fun f v K => f (v.b 3 0) (v.i 3 1) (v.i 3 2) (v.s 3 3) (v.s 3 4) (v.s 3 5) (v.i 3 6) (v.i 3 7) (v.i 3 8) (v.i 3 9) (v.i 3 10) (v.i 3 11) (v.i 3 12) (qvq K)) (by kernel_rfl) (fun _ _ => (by kernel_rfl))
def qvs  (K : Ex → Env → Mem → Option Bool) := (fun z_v4 => K .norm (qi [(4, (.bool z_v4))]) (qh []))
def qf4  (Aa : Bool) (Ab Ac : Int) (Ad Ai Aj : List UInt8) (Ak Al Am An Ao Ap Aq : Int) (kn : Bool → Option Bool) : Option Bool :=
  (bif ((Aa == false) && ((Ab == (0 : Int)) && ((Ac == (0 : Int)) && ((Ad == ([] : List UInt8)) && ((Ai == ([] : List UInt8)) && ((Aj == Aj) && ((Ak == Ak) && ((Al == Al) && ((Am == Am) && ((An == (0 : Int)) && ((Ao == (0 : Int)) && ((Ap == (0 : Int)) && ((Aq == (0 : Int)) && true))))))))))))) then (oB (qku Aj) fun r1 => (bif r1 then (bif (Ak == (256 : Int)) then (bif (Al == (3 : Int)) then (oB (qq Am (255 : Int)) fun r2 => (kn r2)) else (kn false)) else (bif ((Ak == (257 : Int)) && (Al == (3 : Int))) then (oB (qq Am (255 : Int)) fun r3 => (kn r3)) else (kn false))) else (kn false))) else (kn false))
def qqh := hull (qf4)
theorem qvt : qqh = qf4 := qb _
def qyc : SubB Tryd.prog (TIof Tryd.prog) 324 0 (kret [.t 4] decB) := jnB tabOk follows Tryd.f72 41943029 (.r [(14, .c qo6.b), (27, .g 3), (34, .c qr.b)] [.sel [4] []]) S20_ (qf4) (fun f v K => f (v.b 3 0) (v.i 3 1) (v.i 3 2) (v.s 3 3) (v.s 3 4) (v.s 3 5) (v.i 3 6) (v.i 3 7) (v.i 3 8) (v.i 3 9) (v.i 3 10) (v.i 3 11) (v.i 3 12) (qvs K)) (by kernel_rfl) (fun _ _ => (by kernel_rfl))
def qja (v0 : Int) (Ar : Bool) (As At : Int) (Au Av Aw : List UInt8) (Ax Ay Az A0 A1 A2 A3 : Int) : Option Bool :=
  (qrw v0 v0 Ar As At Au Av Aw Ax Ay Az A0 A1 A2 A3 (fun v6q1 => (bif v6q1 then (bif ((Ar == Ar) && ((As == As) && ((At == At) && ((Au == ([] : List UInt8)) && ((Av == ([] : List UInt8)) && ((Aw == ([] : List UInt8)) && ((Ax == (0 : Int)) && ((Ay == (0 : Int)) && ((Az == (0 : Int)) && ((A0 == (0 : Int)) && ((A1 == (0 : Int)) && ((A2 == (0 : Int)) && ((A3 == (0 : Int)) && true))))))))))))) then (oB (qs1 Ar As At) fun r2 => (some (r2 && ((Ar == (v0 == (28 : Int))) && true)))) else (some false)) else (qqe v0 Ar As At Au Av Aw Ax Ay Az A0 A1 A2 A3 (fun v27q3 => (bif v27q3 then (bif ((Ar == false) && ((As == (0 : Int)) && ((At == (0 : Int)) && ((Au == Au) && ((Av == ([] : List UInt8)) && ((Aw == ([] : List UInt8)) && ((Ax == (0 : Int)) && ((Ay == (0 : Int)) && ((Az == (0 : Int)) && ((A0 == (0 : Int)) && ((A1 == (0 : Int)) && ((A2 == (0 : Int)) && ((A3 == (0 : Int)) && true))))))))))))) then (oB (qfa Au) fun r4 => (some r4)) else (some false)) else (bif (v0 == (6 : Int)) then (qqf Ar As At Au Av Aw Ax Ay Az A0 A1 A2 A3 (fun v4q5 => (some v4q5))) else (bif (v0 == (15 : Int)) then (bif ((Ar == false) && ((As == (0 : Int)) && ((At == (0 : Int)) && ((Au == Au) && ((Av == ([] : List UInt8)) && ((Aw == ([] : List UInt8)) && ((Ax == Ax) && ((Ay == (0 : Int)) && ((Az == (0 : Int)) && ((A0 == (0 : Int)) && ((A1 == (0 : Int)) && ((A2 == (0 : Int)) && ((A3 == (0 : Int)) && true))))))))))))) then (oB (qfa Au) fun r6 => (bif r6 then (oB (qq Ax (65535 : Int)) fun r7 => (some r7)) else (some false))) else (some false)) else (bif (v0 == (16 : Int)) then (some (((Ar == false) && ((As == (0 : Int)) && ((At == (0 : Int)) && ((Au == ([] : List UInt8)) && ((Av == ([] : List UInt8)) && ((Aw == Aw) && ((Ax == (0 : Int)) && ((Ay == (0 : Int)) && ((Az == (0 : Int)) && ((A0 == (0 : Int)) && ((A1 == (0 : Int)) && ((A2 == (0 : Int)) && ((A3 == (0 : Int)) && true))))))))))))) && (decide ((Aw.length : Int) ≤ (255 : Int))))) else (bif (v0 == (33 : Int)) then (bif ((Ar == false) && ((As == (0 : Int)) && ((At == (0 : Int)) && ((Au == Au) && ((Av == ([] : List UInt8)) && ((Aw == ([] : List UInt8)) && ((Ax == Ax) && ((Ay == Ay) && ((Az == Az) && ((A0 == (0 : Int)) && ((A1 == (0 : Int)) && ((A2 == (0 : Int)) && ((A3 == (0 : Int)) && true))))))))))))) then (oB (qfa Au) fun r8 => (bif r8 then (oB (qq Ax (65535 : Int)) fun r9 => (bif r9 then (oB (qq Ay (65535 : Int)) fun r10 => (bif r10 then (oB (qq Az (65535 : Int)) fun r11 => (some r11)) else (some false))) else (some false))) else (some false))) else (some false)) else (bif (v0 == (43 : Int)) then (bif ((Ar == false) && ((As == (0 : Int)) && ((At == (0 : Int)) && ((Au == ([] : List UInt8)) && ((Av == ([] : List UInt8)) && ((Aw == Aw) && ((Ax == Ax) && ((Ay == Ay) && ((Az == Az) && ((A0 == (0 : Int)) && ((A1 == (0 : Int)) && ((A2 == (0 : Int)) && ((A3 == (0 : Int)) && true))))))))))))) then (oB (qku Aw) fun r12 => (bif r12 then (oB (qq Ax (65535 : Int)) fun r13 => (bif r13 then (oB (qq Ay (255 : Int)) fun r14 => (bif r14 then (oB (qq Az (255 : Int)) fun r15 => (some r15)) else (some false))) else (some false))) else (some false))) else (some false)) else (bif (v0 == (46 : Int)) then (qqg Ar As At Au Av Aw Ax Ay Az A0 A1 A2 A3 (fun v4q16 => (some v4q16))) else (bif (v0 == (47 : Int)) then (bif ((Ar == false) && ((As == (0 : Int)) && ((At == (0 : Int)) && ((Au == Au) && ((Av == ([] : List UInt8)) && ((Aw == ([] : List UInt8)) && ((Ax == (0 : Int)) && ((Ay == (0 : Int)) && ((Az == (0 : Int)) && ((A0 == (0 : Int)) && ((A1 == (0 : Int)) && ((A2 == (0 : Int)) && ((A3 == A3) && true))))))))))))) then (oB (qcl Au) fun r17 => (bif r17 then (bif (A3 != (0 : Int)) then (oB (qvl) fun r18 => (some ((qfj .andNot .u64 A3 r18) == (0 : Int)))) else (some false)) else (some false))) else (some false)) else (bif (v0 == (48 : Int)) then (qqh Ar As At Au Av Aw Ax Ay Az A0 A1 A2 A3 (fun v4q19 => (some v4q19))) else (some false)))))))))))))))
def qrh := hull qja
theorem q23 : qrh = qja := qb _
def q5r {R : Type} : EntF Tryd.prog R := entB (nt := 324) (dec := decB) (enc := AV.bool) tabOk follows Tryd.func72 [.t 4] hdeB (.s .z (.s (.s .z (.b (.s (.sub [.sel [0, 3, 5] [0]] qzk []) (.s (.s (.r [(8, .c q6m.b), (11, .g 6)] []) .z) (.s (.sub [.sel [3, 5] [0]] qx9 []) (.s (.s (.r [(8, .c qgg.b)] []) .z) (.s .z (.s (.s (.sub [.sel [3] [0]] qya []) .z) (.s .z (.s (.s (.r [(10, .c qgg.b), (15, .c qr.b)] []) .z) (.s .z (.s (.s (.r [(6, .g 4)] []) .z) (.s .z (.s (.s (.r [(14, .c qgg.b), (19, .c qr.b), (24, .c qr.b), (29, .c qr.b)] []) .z) (.s .z (.s (.s (.r [(14, .c qo6.b), (19, .c qr.b), (24, .c qr.b), (29, .c qr.b)] []) .z) (.s .z (.s (.s (.sub [.sel [3] [0]] qyb []) .z) (.s .z (.s (.s (.d [] [(10, .c qcv.b), (20, .c q8p.b)] [] []) .z) (.s .z (.s (.s (.sub [.sel [3] [0]] qyc []) .z) .z)))))))))))))))))))))) .z)) S21_ qja (fun f v => f (v.i 0 0) (v.b 5 0) (v.i 5 1) (v.i 5 2) (v.s 5 3) (v.s 5 4) (v.s 5 5) (v.i 5 6) (v.i 5 7) (v.i 5 8) (v.i 5 9) (v.i 5 10) (v.i 5 11) (v.i 5 12)) (by kernel_rfl) (by kernel_rfl) (by kernel_rfl) fun _ => (by kernel_rfl)
def S22_ : Shp := ⟨[(0, .st (lk qkn))], []⟩
def qjb (Ae : List UInt8) (Af Ag : Int) (Ah : Bool) (A4 A5 : Int) (A6 A7 A8 : List UInt8) (A9 Ba Bb Bc Bd Be Bf : Int) : Option Bool :=
  (oB (qcl Ae) fun r1 => (bif r1 then (oB (qmo Af) fun r2 => (bif ((r2 && (decide (Ag ≥ (0 : Int)))) && (decide (Ag ≤ (2147483647 : Int)))) then (oB (qrh Af Ah A4 A5 A6 A7 A8 A9 Ba Bb Bc Bd Be Bf) fun r3 => (some r3)) else (some false))) else (some false)))
def qri := hull qjb
theorem q24 : qri = qjb := qb _
def q5s {R : Type} : EntF Tryd.prog R := entB (nt := 28) (dec := decB) (enc := AV.bool) tabOk follows Tryd.func58 [.t 2] hdeB (.s .z (.s (.r [(2, .c qcv.b), (6, .c qui.b), (9, .g 3), (14, .g 3), (23, .c q5r.b)] []) .z)) S22_ qjb (fun f v => f (v.s 1 0) (v.i 1 1) (v.i 1 2) (v.b 1 3) (v.i 1 4) (v.i 1 5) (v.s 1 6) (v.s 1 7) (v.s 1 8) (v.i 1 9) (v.i 1 10) (v.i 1 11) (v.i 1 12) (v.i 1 13) (v.i 1 14) (v.i 1 15)) (by kernel_rfl) (by kernel_rfl) (by kernel_rfl) fun _ => (by kernel_rfl)
def qfb (Ae : List UInt8) (Af Ag : Int) (Ah : Bool) (A4 A5 : Int) (A6 A7 A8 : List UInt8) (A9 Ba Bb Bc Bd Be Bf : Int) : Option Bool :=
  (oB (qri Ae Af Ag Ah A4 A5 A6 A7 A8 A9 Ba Bb Bc Bd Be Bf) fun r1 => (some (!r1)))
def qo8 := hull qfb
theorem qu4 : qo8 = qfb := qb _
def qvu {R : Type} : EntF Tryd.prog R := entB (nt := 6) (dec := decB) (enc := AV.bool) tabOk follows Tryd.func57 [.t 2] hdeB (.s .z (.s (.r [(1, .c q5s.b)] []) .z)) S22_ qfb (fun f v => f (v.s 1 0) (v.i 1 1) (v.i 1 2) (v.b 1 3) (v.i 1 4) (v.i 1 5) (v.s 1 6) (v.s 1 7) (v.s 1 8) (v.i 1 9) (v.i 1 10) (v.i 1 11) (v.i 1 12) (v.i 1 13) (v.i 1 14) (v.i 1 15)) (by kernel_rfl) (by kernel_rfl) (by kernel_rfl) fun _ => (by kernel_rfl)
def S23_ : Shp := ⟨[(1, .one (.fn 57 [])), (7, .one (.l (.sl 16))), (8, .one (.l (.i .i64))), (9, .one (.l (.i .i64)))], []⟩
def S24_ : Shp := ⟨[(0, .one (.l (.sl 16))), (1, .one (.fn 57 []))], []⟩
def qcm  (K : Ex → Env → Mem → Option Int) := (fun (_ : Unit) => K (.exit 0) (qi []) (qh []))
def qo  (v7 : List AV) (v8 v9 : Int) (next : Int → Option Int) (kx0 : Unit → Option Int) : Option Int :=
  (bif (decide (v9 < v8)) then (oB (ixB v7 v9) fun y1 => (bif fitC qkn y1.cells then (oB (qo8 (gS y1.cells 0) (gI y1.cells 1) (gI y1.cells 2) (gB y1.cells 3) (gI y1.cells 4) (gI y1.cells 5) (gS y1.cells 6) (gS y1.cells 7) (gS y1.cells 8) (gI y1.cells 9) (gI y1.cells 10) (gI y1.cells 11) (gI y1.cells 12) (gI y1.cells 13) (gI y1.cells 14) (gI y1.cells 15)) fun r2 => (bif r2 then (some v9) else (next (IntKind.i64.wrap (v9 + (1 : Int)))))) else none)) else (kx0 ()))
def qp  (v7 : List AV) (v8 : Int) (kx0 : Unit → Option Int) : Nat → Int → Option Int
  | 0 => (fun _ => none)
  | n + 1 => (fun v9 => qo v7 v8 v9 (qp v7 v8 kx0 n) kx0)
def qc0 := hull (qp)
theorem qe2 : qc0 = qp := qb _
def qfc : SubB Tryd.prog (TIof Tryd.prog) 19 0 (kret [.t 4] (decI .i64)) := lpB tabOk follows Tryd.f55 37 (.s .z (.s (.s .z (.v [.sel [] []])) (.s (.b (.s (.r [(1, .p (.etac 12 qkn))] []) (.s (.r [(2, .c qvu.b)] []) .z))) (.v [.sel [1, 7, 8, 9] []])))) S23_ (qp) (fun f v K n => f (v.l 28 0) (v.i 32 0) (qcm K) n) (fun v f K => qo (v.l 28 0) (v.i 32 0) (v.i 36 0) f (qcm K)) (fun f v => f (v.i 36 0)) (fun k v => (fun z0 => k (v.ui 36 0 z0))) (by kernel_rfl) (fun _ _ => (by kernel_rfl)) (fun _ _ _ => (by kernel_rfl)) (fun _ _ _ => (by kernel_rfl)) (fun _ _ => (by kernel_rfl)) (fun _ _ _ _ _ => (by kernel_rfl))
def q8 (v0 : List AV) : Option Int :=
  (qc0 v0 (v0.length : Int) (fun (_ : Unit) => (some (-1 : Int))) FU (0 : Int))
def qbx := hull q8
theorem qfx : qbx = q8 := qb _
def qgj {R : Type} : EntF Tryd.prog R := entB (nt := 19) (dec := (decI .i64)) (enc := (AV.int .i64)) tabOk follows Tryd.func55 [.t 4] hdeI (.s .z (.s (.s .z (.b (.sub [.sel [1, 7, 8, 9] []] qfc []))) .z)) S24_ q8 (fun f v => f (v.l 0 0)) (by kernel_rfl) (by kernel_rfl) (by kernel_rfl) fun _ => (by kernel_rfl)
def qgw (Ae : List UInt8) (Af Ag : Int) (Ah : List AV) : Option Bool :=
  (bif (((decide ((Ah.length : Int) < (1 : Int))) || (decide ((Ah.length : Int) > (64 : Int)))) || (Ag == (0 : Int))) then (some false) else (oB (qnt Ae Af Ag Ah) fun r1 => (oB (qbx r1) fun r2 => (some (decide (r2 < (0 : Int)))))))
def qlx := hull qgw
theorem qyd : qlx = qgw := qb _
def qzl {R : Type} : EntF Tryd.prog R := entB (nt := 22) (dec := decB) (enc := AV.bool) tabOk follows Tryd.func38 [.t 2] hdeB (.s .z (.s (.s (.r [(5, .g 4), (11, .g 3)] []) .z) (.s (.r [(1, .k q0l.b), (2, .c qgj.b)] []) .z))) S3_ qgw (fun f v => f (v.s 1 0) (v.i 1 1) (v.i 1 2) (v.l 1 3)) (by kernel_rfl) (by kernel_rfl) (by kernel_rfl) fun _ => (by kernel_rfl)
def qhh : Nat := 59
def qc : List LT := [(.i .i64), .s, (.i .i64), (.i .i64), (.sl 13), (.i .i64), (.i .i64), (.i .i64), (.i .i64)]
def S25_ : Shp := ⟨[(0, .st (lk qc)), (1, .one (.l (.i .i64)))], []⟩
def qhi (Ae : Int) (Af : List UInt8) (Ag Ah : Int) (A4 : List AV) (A5 A6 A7 A8 v1 : Int) : Option Bool :=
  (some (decide (v1 < A7)))
def qbh := hull qhi
theorem qs3 : qbh = qhi := qb _
def qb7 {R : Type} : EntF Tryd.prog R := entB (nt := 9) (dec := decB) (enc := AV.bool) tabOk follows Tryd.func30 [.t 4] hdeB (.z) S25_ qhi (fun f v => f (v.i 1 0) (v.s 1 1) (v.i 1 2) (v.i 1 3) (v.l 1 4) (v.i 1 5) (v.i 1 6) (v.i 1 7) (v.i 1 8) (v.i 4 0)) (by kernel_rfl) (by kernel_rfl) (by kernel_rfl) fun _ => (by kernel_rfl)
def S26_ : Shp := ⟨[(0, .st (lk qc)), (1, .one (.l .s)), (2, .one (.l (.i .i64)))], []⟩
def qhj (Ae : Int) (Af : List UInt8) (Ag Ah : Int) (A4 : List AV) (A5 A6 A7 A8 : Int) (v1 : List UInt8) (v2 : Int) : Option Bool :=
  (some ((Af == v1) && (Ag == v2)))
def qcp := hull qhj
theorem qs4 : qcp = qhj := qb _
def qdy {R : Type} : EntF Tryd.prog R := entB (nt := 19) (dec := decB) (enc := AV.bool) tabOk follows Tryd.func31 [.t 6] hdeB (.s .z (.s (.r [(6, .g 5)] []) .z)) S26_ qhj (fun f v => f (v.i 1 0) (v.s 1 1) (v.i 1 2) (v.i 1 3) (v.l 1 4) (v.i 1 5) (v.i 1 6) (v.i 1 7) (v.i 1 8) (v.s 4 0) (v.i 8 0)) (by kernel_rfl) (by kernel_rfl) (by kernel_rfl) fun _ => (by kernel_rfl)
def S27_ : Shp := ⟨[(0, .st (lk qc)), (1, .cptr [(.i .i64)]), (2, .cptr [.s, (.i .i64)])], []⟩
def qjc (Ae : Int) (Af : List UInt8) (Ag Ah : Int) (A4 : List AV) (A5 A6 A7 A8 Ar : Int) (Bg : List UInt8) (Bh : Int) : Option Bool :=
  (oB (qbh Ae Af Ag Ah A4 A5 A6 A7 A8 Ar) fun r1 => (bif r1 then (oB (qcp Ae Af Ag Ah A4 A5 A6 A7 A8 Bg Bh) fun r2 => (some r2)) else (some false)))
def qyr := hull qjc
theorem q25 : qyr = qjc := qb _
def q5t {R : Type} : EntF Tryd.prog R := entB (nt := 16) (dec := decB) (enc := AV.bool) tabOk follows Tryd.func29 [.t 4] hdeB (.s .z (.s (.r [(2, .c qb7.b), (9, .c qdy.b)] []) .z)) S27_ qjc (fun f v => f (v.i 1 0) (v.s 1 1) (v.i 1 2) (v.i 1 3) (v.l 1 4) (v.i 1 5) (v.i 1 6) (v.i 1 7) (v.i 1 8) (v.i 6 0) (v.s 10 0) (v.i 10 1)) (by kernel_rfl) (by kernel_rfl) (by kernel_rfl) fun _ => (by kernel_rfl)
def qjd (Ae : Int) (Af : List UInt8) (Ag Ah : Int) (A4 : List AV) (A5 A6 A7 A8 Ar : Int) (Bg : List UInt8) (Bh : Int) : Option Bool :=
  (oB (qbh Ae Af Ag Ah A4 A5 A6 A7 A8 Ar) fun r1 => (bif (r1 && (Ae == (0 : Int))) then (oB (qcp Ae Af Ag Ah A4 A5 A6 A7 A8 Bg (5 : Int)) fun r2 => (some r2)) else (some false)))
def qys := hull qjd
theorem q26 : qys = qjd := qb _
def q5u {R : Type} : EntF Tryd.prog R := entB (nt := 19) (dec := decB) (enc := AV.bool) tabOk follows Tryd.func32 [.t 4] hdeB (.s .z (.s (.r [(2, .c qb7.b), (4, .g 3), (12, .c qdy.b)] []) .z)) S27_ qjd (fun f v => f (v.i 1 0) (v.s 1 1) (v.i 1 2) (v.i 1 3) (v.l 1 4) (v.i 1 5) (v.i 1 6) (v.i 1 7) (v.i 1 8) (v.i 6 0) (v.s 10 0) (v.i 10 1)) (by kernel_rfl) (by kernel_rfl) (by kernel_rfl) fun _ => (by kernel_rfl)
def S28_ : Shp := ⟨[(0, .st (lk qc)), (1, .one (.l .s))], []⟩
def qgx (Ae : Int) (Af : List UInt8) (Ag Ah : Int) (A4 : List AV) (A5 A6 A7 A8 : Int) (v1 : List UInt8) : Option Bool :=
  (some ((Ae == (2 : Int)) && (Af == v1)))
def qcf := hull qgx
theorem qrx : qcf = qgx := qb _
def qdd {R : Type} : EntF Tryd.prog R := entB (nt := 15) (dec := decB) (enc := AV.bool) tabOk follows Tryd.func34 [.t 4] hdeB (.s .z (.s (.r [(4, .g 5)] []) .z)) S28_ qgx (fun f v => f (v.i 1 0) (v.s 1 1) (v.i 1 2) (v.i 1 3) (v.l 1 4) (v.i 1 5) (v.i 1 6) (v.i 1 7) (v.i 1 8) (v.s 4 0)) (by kernel_rfl) (by kernel_rfl) (by kernel_rfl) fun _ => (by kernel_rfl)
def qje (Ae : Int) (Af : List UInt8) (Ag Ah : Int) (A4 : List AV) (A5 A6 A7 A8 Ar : Int) (Bg : List UInt8) (Bh : Int) : Option Bool :=
  (oB (qbh Ae Af Ag Ah A4 A5 A6 A7 A8 Ar) fun r1 => (bif r1 then (oB (qcf Ae Af Ag Ah A4 A5 A6 A7 A8 Bg) fun r2 => (some r2)) else (some false)))
def qyt := hull qje
theorem q27 : qyt = qje := qb _
def q5v {R : Type} : EntF Tryd.prog R := entB (nt := 14) (dec := decB) (enc := AV.bool) tabOk follows Tryd.func33 [.t 4] hdeB (.s .z (.s (.r [(2, .c qb7.b), (7, .c qdd.b)] []) .z)) S27_ qje (fun f v => f (v.i 1 0) (v.s 1 1) (v.i 1 2) (v.i 1 3) (v.l 1 4) (v.i 1 5) (v.i 1 6) (v.i 1 7) (v.i 1 8) (v.i 6 0) (v.s 10 0) (v.i 10 1)) (by kernel_rfl) (by kernel_rfl) (by kernel_rfl) fun _ => (by kernel_rfl)
def S29_ : Shp := ⟨[(0, .st (lk qc)), (1, .cptr qdq)], []⟩
def qjf (Ae : Int) (Af : List UInt8) (Ag Ah : Int) (A4 : List AV) (A5 A6 A7 A8 : Int) (Ar : List UInt8) (As At : Int) (Au : List AV) : Option Bool :=
  (oB (qcp Ae Af Ag Ah A4 A5 A6 A7 A8 Ar As) fun r1 => (bif r1 then (some true) else (oB (qcf Ae Af Ag Ah A4 A5 A6 A7 A8 Ar) fun r2 => (some r2))))
def qyu := hull qjf
theorem q28 : qyu = qjf := qb _
def q5w {R : Type} : EntF Tryd.prog R := entB (nt := 16) (dec := decB) (enc := AV.bool) tabOk follows Tryd.func37 [.t 3] hdeB (.s .z (.s (.r [(5, .c qdy.b), (10, .c qdd.b)] []) .z)) S29_ qjf (fun f v => f (v.i 1 0) (v.s 1 1) (v.i 1 2) (v.i 1 3) (v.l 1 4) (v.i 1 5) (v.i 1 6) (v.i 1 7) (v.i 1 8) (v.s 6 0) (v.i 6 1) (v.i 6 2) (v.l 6 3)) (by kernel_rfl) (by kernel_rfl) (by kernel_rfl) fun _ => (by kernel_rfl)
def qjg (Ae : Int) (Af : List UInt8) (Ag Ah : Int) (A4 : List AV) (A5 A6 A7 A8 : Int) (Ar : List UInt8) (As At : Int) (Au : List AV) : Option Bool :=
  (oB (qcf Ae Af Ag Ah A4 A5 A6 A7 A8 Ar) fun r1 => (some (!r1)))
def qyv := hull qjg
theorem q29 : qyv = qjg := qb _
def q5x {R : Type} : EntF Tryd.prog R := entB (nt := 9) (dec := decB) (enc := AV.bool) tabOk follows Tryd.func41 [.t 3] hdeB (.s .z (.s (.r [(3, .c qdd.b)] []) .z)) S29_ qjg (fun f v => f (v.i 1 0) (v.s 1 1) (v.i 1 2) (v.i 1 3) (v.l 1 4) (v.i 1 5) (v.i 1 6) (v.i 1 7) (v.i 1 8) (v.s 6 0) (v.i 6 1) (v.i 6 2) (v.l 6 3)) (by kernel_rfl) (by kernel_rfl) (by kernel_rfl) fun _ => (by kernel_rfl)
def S30_ : Shp := ⟨[(0, .st (lk qc)), (1, .cptr qc)], []⟩
def qhq (Ae : Int) (Af : List UInt8) (Ag Ah : Int) (A4 : List AV) (A5 A6 A7 A8 Ar : Int) (As : List UInt8) (At Au : Int) (Av : List AV) (Aw Ax Ay Az : Int) : Option Bool :=
  (oB (qcp Ae Af Ag Ah A4 A5 A6 A7 A8 As At) fun r1 => (some r1))
def quk := hull qhq
theorem qzm : quk = qhq := qb _
def q0t {R : Type} : EntF Tryd.prog R := entB (nt := 12) (dec := decB) (enc := AV.bool) tabOk follows Tryd.func60 [.t 3] hdeB (.s .z (.s (.r [(7, .c qdy.b)] []) .z)) S30_ qhq (fun f v => f (v.i 1 0) (v.s 1 1) (v.i 1 2) (v.i 1 3) (v.l 1 4) (v.i 1 5) (v.i 1 6) (v.i 1 7) (v.i 1 8) (v.i 6 0) (v.s 6 1) (v.i 6 2) (v.i 6 3) (v.l 6 4) (v.i 6 5) (v.i 6 6) (v.i 6 7) (v.i 6 8)) (by kernel_rfl) (by kernel_rfl) (by kernel_rfl) fun _ => (by kernel_rfl)
theorem q6o {R : Type} : qe0 Tryd.prog 70 (qmj (R' := R)) := q89 Tryd.func70 (by kernel_rfl) (by kernel_rfl) (by kernel_rfl) (by kernel_rfl)
def qe3 (v0 v1 : List UInt8) : Option Int :=
  (oB (qt7 v0 v1) fun r1 => (some r1))
def qj6 := hull qe3
theorem qo9 : qj6 = qe3 := qb _
def qp8 {R : Type} : EntF Tryd.prog R := entB (nt := 8) (dec := (decI .i64)) (enc := (AV.int .i64)) tabOk follows Tryd.func53 [.t 4] hdeI (.s .z (.s (.r [(2, .c (eK q6o))] []) .z)) S4_ qe3 (fun f v => f (v.s 0 0) (v.s 4 0)) (by kernel_rfl) (by kernel_rfl) (by kernel_rfl) fun _ => (by kernel_rfl)
def qf5 (v0 v1 : List UInt8) : Option Int :=
  (oB (qj6 v0 v1) fun r1 => (some r1))
def qhr := hull qf5
theorem qvv : qhr = qf5 := qb _
def qoc {R : Type} : EntF Tryd.prog R := entB (nt := 8) (dec := (decI .i64)) (enc := (AV.int .i64)) tabOk follows Tryd.func26 [.t 4] hdeI (.s .z (.s (.r [(2, .c qp8.b)] []) .z)) S4_ qf5 (fun f v => f (v.s 0 0) (v.s 4 0)) (by kernel_rfl) (by kernel_rfl) (by kernel_rfl) fun _ => (by kernel_rfl)
def qvw  (v0 : List UInt8) (K : Ex → Env → Mem → Option (List AV)) := (fun z_v9 => K .norm (qi [(0, (.str v0)), (9, (.bool z_v9))]) (qh []))
def qf6  (v0 : List UInt8) (kn : Bool → Option (List AV)) : Option (List AV) :=
  (bif (v0 == ([46] : List UInt8)) then (kn true) else (oB (qcl v0) fun r1 => (kn (!r1))))
def qqi := hull (qf6)
theorem qvx : qqi = qf6 := qb _
def qye : SubB Tryd.prog (TIof Tryd.prog) 16 0 (kret [.t 2] (decX (.one (.sl 1)) fun z => aL z)) := jnB tabOk follows Tryd.f27 9 (.r [(4, .c qcv.b)] [.sel [0, 9] []]) S11_ (qf6) (fun f v K => f (v.s 0 0) (qvw (v.s 0 0) K)) (by kernel_rfl) (fun _ _ => (by kernel_rfl))
def qik (v0 : List UInt8) : Option (List AV) :=
  (qqi v0 (fun v9q1 => (bif v9q1 then (some ([] : List AV)) else (oB (cutI v0 none (some (IntKind.i64.wrap ((v0.length : Int) - (1 : Int))))) fun s2 => (oB (qi6 s2 ([46] : List UInt8)) fun r3 => (some r3))))))
def qgk := hull qik
theorem q0u : qgk = qik := qb _
def qly {R : Type} : EntF Tryd.prog R := entB (nt := 16) (dec := (decX (.one (.sl 1)) fun z => aL z)) (enc := (fun r => .sl 1 r)) tabOk follows Tryd.func27 [.t 2] (hdeX fun _ => rfl) (.s .z (.s (.s (.sub [.sel [0] []] qye []) (.s (.s .z (.v [.eta 2 (.one (.sl 1))])) .z)) (.s (.r [(5, .k qqb.b)] []) .z))) S11_ qik (fun f v => f (v.s 0 0)) (by kernel_rfl) (by kernel_rfl) (by kernel_rfl) fun _ => (by kernel_rfl)
def S31_ : Shp := ⟨[(7, .one (.l (.sl 1))), (8, .one (.l (.sl 1))), (9, .one (.l (.i .i64)))], []⟩
def qj7  (v7 v8 : List AV) (K : Ex → Env → Mem → Option Int) := (fun (_ : Unit) => K (.exit 1) (qi [(7, (.sl 1 v7)), (8, (.sl 1 v8))]) (qh []))
def qhk  (v7 v8 : List AV) (v9 : Int) (next : Int → Option Int) (kx1 : Unit → Option Int) : Option Int :=
  (bif ((decide (v9 ≤ (v7.length : Int))) && (decide (v9 ≤ (v8.length : Int)))) then (oB (ixB v7 (IntKind.i64.wrap ((v7.length : Int) - v9))) fun y1 => (bif fitC [.s] y1.cells then (oB (ixB v8 (IntKind.i64.wrap ((v8.length : Int) - v9))) fun y2 => (bif fitC [.s] y2.cells then (oB (qhr (gS y1.cells 0) (gS y2.cells 0)) fun r3 => (bif (r3 != (0 : Int)) then (some r3) else (next (IntKind.i64.wrap (v9 + (1 : Int)))))) else none)) else none)) else (kx1 ()))
def qcq  (v7 v8 : List AV) (kx1 : Unit → Option Int) : Nat → Int → Option Int
  | 0 => (fun _ => none)
  | n + 1 => (fun v9 => qhk v7 v8 v9 (qcq v7 v8 kx1 n) kx1)
def qod := hull (qcq)
theorem qs5 : qod = qcq := qb _
def qu5 : SubB Tryd.prog (TIof Tryd.prog) 79 0 (kret [.t 4] (decI .i64)) := lpB tabOk follows Tryd.f11 303 (.s (.s (.r [(5, .g 4)] []) (.s .z (.v [.sel [7, 8] []]))) (.s (.b (.s (.d [] [(5, .e 54 [.s]), (12, .e 61 [.s])] [(0, .c qoc.b)] []) .z)) (.v [.sel [7, 8, 9] []]))) S31_ (qcq) (fun f v K n => f (v.l 28 0) (v.l 32 0) (qj7 (v.l 28 0) (v.l 32 0) K) n) (fun v f K => qhk (v.l 28 0) (v.l 32 0) (v.i 36 0) f (qj7 (v.l 28 0) (v.l 32 0) K)) (fun f v => f (v.i 36 0)) (fun k v => (fun z0 => k (v.ui 36 0 z0))) (by kernel_rfl) (fun _ _ => (by kernel_rfl)) (fun _ _ _ => (by kernel_rfl)) (fun _ _ _ => (by kernel_rfl)) (fun _ _ => (by kernel_rfl)) (fun _ _ _ _ _ => (by kernel_rfl))
def qhs (v0 v1 : List UInt8) : Option Int :=
  (oB (qcl v0) fun r1 => (oB (qcl v1) fun r2 => (bif (r1 && (!r2)) then (some (-1 : Int)) else (bif (r2 && (!r1)) then (some (1 : Int)) else (bif (!r1) then (oB (qhr v0 v1) fun r3 => (some r3)) else (oB (qgk v0) fun r4 => (oB (qgk v1) fun r5 => (qod r4 r5 (fun (_ : Unit) => (bif (decide ((r4.length : Int) < (r5.length : Int))) then (some (-1 : Int)) else (bif (decide ((r4.length : Int) > (r5.length : Int))) then (some (1 : Int)) else (some (0 : Int))))) FU (1 : Int)))))))))
def qnv := hull qhs
theorem qzn : qnv = qhs := qb _
def q0v {R : Type} : EntF Tryd.prog R := entB (nt := 79) (dec := (decI .i64)) (enc := (AV.int .i64)) tabOk follows Tryd.func11 [.t 4] hdeI (.s .z (.s (.r [(1, .c qcv.b), (3, .c qcv.b)] []) (.s (.b (.s (.r [(2, .g 2)] []) (.s .z (.s (.r [(2, .g 2)] []) (.s .z (.s .z (.s (.s (.r [(2, .c qoc.b)] []) .z) .z))))))) (.s (.r [(1, .k qly.b), (3, .k qly.b)] []) (.s (.s .z (.b (.sub [.sel [7, 8, 9] []] qu5 []))) .z))))) S4_ qhs (fun f v => f (v.s 0 0) (v.s 4 0)) (by kernel_rfl) (by kernel_rfl) (by kernel_rfl) fun _ => (by kernel_rfl)
def qkv (v0 : Int) : Option Bool :=
  (some (v0 != v0))
def qjh := hull qkv
theorem qzo : qjh = qkv := qb _
def qqj {R : Type} : EntF Tryd.prog R := entB (nt := 6) (dec := decB) (enc := AV.bool) tabOk follows Tryd.func87 [.t 2] hdeB (.z) S0_ qkv (fun f v => f (v.i 0 0)) (by kernel_rfl) (by kernel_rfl) (by kernel_rfl) fun _ => (by kernel_rfl)
def qf7 (v0 v1 : Int) : Option Int :=
  (oB (qjh v0) fun r1 => (oB (qjh v1) fun r2 => (bif r1 then (bif r2 then (some (0 : Int)) else (some (-1 : Int))) else (bif r2 then (some (1 : Int)) else (bif (decide (v0 < v1)) then (some (-1 : Int)) else (bif (decide (v0 > v1)) then (some (1 : Int)) else (some (0 : Int))))))))
def qkw := hull qf7
theorem qvy : qkw = qf7 := qb _
def qyf {R : Type} : EntF Tryd.prog R := entB (nt := 20) (dec := (decI .i64)) (enc := (AV.int .i64)) tabOk follows Tryd.func73 [.t 4] hdeI (.s .z (.s (.r [(1, .c qqj.b)] []) (.s (.r [(1, .c qqj.b)] []) .z))) S16_ qf7 (fun f v => f (v.i 0 0) (v.i 4 0)) (by kernel_rfl) (by kernel_rfl) (by kernel_rfl) fun _ => (by kernel_rfl)
def S32_ : Shp := ⟨[(0, .st (lk qc)), (1, .st (lk qc))], []⟩
def qji (Ae : Int) (Af : List UInt8) (Ag Ah : Int) (A4 : List AV) (A5 A6 A7 A8 Ar : Int) (As : List UInt8) (At Au : Int) (Av : List AV) (Aw Ax Ay Az : Int) : Option Int :=
  (oB (qnv Af As) fun r1 => (bif (r1 != (0 : Int)) then (some r1) else (oB (qkw Ag At) fun r2 => (some r2))))
def qrj := hull qji
theorem q3a : qrj = qji := qb _
def q5y {R : Type} : EntF Tryd.prog R := entB (nt := 23) (dec := (decI .i64)) (enc := (AV.int .i64)) tabOk follows Tryd.func63 [.t 4] hdeI (.s .z (.s (.s (.r [(6, .c q0v.b)] []) .z) (.s (.r [(6, .c qyf.b)] []) .z))) S32_ qji (fun f v => f (v.i 1 0) (v.s 1 1) (v.i 1 2) (v.i 1 3) (v.l 1 4) (v.i 1 5) (v.i 1 6) (v.i 1 7) (v.i 1 8) (v.i 5 0) (v.s 5 1) (v.i 5 2) (v.i 5 3) (v.l 5 4) (v.i 5 5) (v.i 5 6) (v.i 5 7) (v.i 5 8)) (by kernel_rfl) (by kernel_rfl) (by kernel_rfl) fun _ => (by kernel_rfl)
def qht (Ae : Int) (Af : List UInt8) (Ag Ah : Int) (A4 : List AV) (A5 A6 A7 A8 Ar : Int) (As : List UInt8) (At Au : Int) (Av : List AV) (Aw Ax Ay Az : Int) : Option Bool :=
  (oB (qrj Ae Af Ag Ah A4 A5 A6 A7 A8 Ar As At Au Av Aw Ax Ay Az) fun r1 => (some (decide (r1 > (0 : Int)))))
def qul := hull qht
theorem qzp : qul = qht := qb _
def q0w {R : Type} : EntF Tryd.prog R := entB (nt := 8) (dec := decB) (enc := AV.bool) tabOk follows Tryd.func62 [.t 3] hdeB (.s .z (.s (.r [(2, .c q5y.b)] []) .z)) S30_ qht (fun f v => f (v.i 1 0) (v.s 1 1) (v.i 1 2) (v.i 1 3) (v.l 1 4) (v.i 1 5) (v.i 1 6) (v.i 1 7) (v.i 1 8) (v.i 6 0) (v.s 6 1) (v.i 6 2) (v.i 6 3) (v.l 6 4) (v.i 6 5) (v.i 6 6) (v.i 6 7) (v.i 6 8)) (by kernel_rfl) (by kernel_rfl) (by kernel_rfl) fun _ => (by kernel_rfl)
def S33_ : Shp := ⟨[(0, .st (lk qc)), (1, .cptr [.s, (.i .i64)])], []⟩
def qil (Ae : Int) (Af : List UInt8) (Ag Ah : Int) (A4 : List AV) (A5 A6 A7 A8 : Int) (Ar : List UInt8) (As : Int) : Option Bool :=
  (oB (qcp Ae Af Ag Ah A4 A5 A6 A7 A8 Ar As) fun r1 => (bif r1 then (some true) else (oB (qcf Ae Af Ag Ah A4 A5 A6 A7 A8 Ar) fun r2 => (some r2))))
def qvz := hull qil
theorem q0x : qvz = qil := qb _
def q3b {R : Type} : EntF Tryd.prog R := entB (nt := 16) (dec := decB) (enc := AV.bool) tabOk follows Tryd.func44 [.t 3] hdeB (.s .z (.s (.r [(5, .c qdy.b), (10, .c qdd.b)] []) .z)) S33_ qil (fun f v => f (v.i 1 0) (v.s 1 1) (v.i 1 2) (v.i 1 3) (v.l 1 4) (v.i 1 5) (v.i 1 6) (v.i 1 7) (v.i 1 8) (v.s 6 0) (v.i 6 1)) (by kernel_rfl) (by kernel_rfl) (by kernel_rfl) fun _ => (by kernel_rfl)
def qim (Ae : Int) (Af : List UInt8) (Ag Ah : Int) (A4 : List AV) (A5 A6 A7 A8 : Int) (Ar : List UInt8) (As : Int) : Option Bool :=
  (oB (qcf Ae Af Ag Ah A4 A5 A6 A7 A8 Ar) fun r1 => (some r1))
def qv0 := hull qim
theorem q0y : qv0 = qim := qb _
def q3c {R : Type} : EntF Tryd.prog R := entB (nt := 8) (dec := decB) (enc := AV.bool) tabOk follows Tryd.func45 [.t 3] hdeB (.s .z (.s (.r [(3, .c qdd.b)] []) .z)) S33_ qim (fun f v => f (v.i 1 0) (v.s 1 1) (v.i 1 2) (v.i 1 3) (v.l 1 4) (v.i 1 5) (v.i 1 6) (v.i 1 7) (v.i 1 8) (v.s 6 0) (v.i 6 1)) (by kernel_rfl) (by kernel_rfl) (by kernel_rfl) fun _ => (by kernel_rfl)
def qlz (Ae : Int) (Af : List UInt8) (Ag Ah : Int) (A4 : List AV) (A5 A6 A7 A8 : Int) (Ar : List UInt8) (As : Int) : Option Bool :=
  (some (Af == Ar))
def qv1 := hull qlz
theorem q0z : qv1 = qlz := qb _
def q3d {R : Type} : EntF Tryd.prog R := entB (nt := 10) (dec := decB) (enc := AV.bool) tabOk follows Tryd.func46 [.t 3] hdeB (.z) S33_ qlz (fun f v => f (v.i 1 0) (v.s 1 1) (v.i 1 2) (v.i 1 3) (v.l 1 4) (v.i 1 5) (v.i 1 6) (v.i 1 7) (v.i 1 8) (v.s 6 0) (v.i 6 1)) (by kernel_rfl) (by kernel_rfl) (by kernel_rfl) fun _ => (by kernel_rfl)
def S34_ : Shp := ⟨[(0, .st (lk qc)), (1, .cptr [(.i .i64)])], []⟩
def qhu (Ae : Int) (Af : List UInt8) (Ag Ah : Int) (A4 : List AV) (A5 A6 A7 A8 Ar : Int) : Option Bool :=
  (oB (qbh Ae Af Ag Ah A4 A5 A6 A7 A8 Ar) fun r1 => (some r1))
def qum := hull qhu
theorem qzq : qum = qhu := qb _
def q00 {R : Type} : EntF Tryd.prog R := entB (nt := 7) (dec := decB) (enc := AV.bool) tabOk follows Tryd.func48 [.t 3] hdeB (.s .z (.s (.r [(2, .c qb7.b)] []) .z)) S34_ qhu (fun f v => f (v.i 1 0) (v.s 1 1) (v.i 1 2) (v.i 1 3) (v.l 1 4) (v.i 1 5) (v.i 1 6) (v.i 1 7) (v.i 1 8) (v.i 6 0)) (by kernel_rfl) (by kernel_rfl) (by kernel_rfl) fun _ => (by kernel_rfl)
def qkx (v0 v1 : List UInt8) : Option Bool :=
  (bif ((v1 == ([46] : List UInt8)) || (v0 == v1)) then (some true) else (bif decide (([46] : List UInt8).length + v1.length ≤ 9223372036854775807) then (oB (qfy v0 (([46] : List UInt8) ++ v1)) fun r1 => (some r1)) else none))
def q01 := hull qkx
theorem q5z : q01 = qkx := qb _
def q6p {R : Type} : EntF Tryd.prog R := entB (nt := 18) (dec := decB) (enc := AV.bool) tabOk follows Tryd.func50 [.t 4] hdeB (.s .z (.s (.r [(3, .g 3), (11, .c qln.b)] []) .z)) S4_ qkx (fun f v => f (v.s 0 0) (v.s 4 0)) (by kernel_rfl) (by kernel_rfl) (by kernel_rfl) fun _ => (by kernel_rfl)
def qjj (v0 v1 : List UInt8) : Option Bool :=
  (oB (qcl v0) fun r1 => (bif r1 then (oB (qcl v1) fun r2 => (bif r2 then (oB (q01 v0 v1) fun r3 => (some r3)) else (some false))) else (some false)))
def qfr := hull qjj
theorem q3e : qfr = qjj := qb _
def qnw {R : Type} : EntF Tryd.prog R := entB (nt := 16) (dec := decB) (enc := AV.bool) tabOk follows Tryd.func20 [.t 4] hdeB (.s .z (.s (.r [(1, .c qcv.b), (4, .c qcv.b), (9, .c q6p.b)] []) .z)) S4_ qjj (fun f v => f (v.s 0 0) (v.s 4 0)) (by kernel_rfl) (by kernel_rfl) (by kernel_rfl) fun _ => (by kernel_rfl)
def S35_ : Shp := ⟨[(0, .st (lk qc)), (1, .cptr [.s])], []⟩
def qhv (Ae : Int) (Af : List UInt8) (Ag Ah : Int) (A4 : List AV) (A5 A6 A7 A8 : Int) (Ar : List UInt8) : Option Bool :=
  (oB (qfr Af Ar) fun r1 => (some (!r1)))
def qun := hull qhv
theorem qzr : qun = qhv := qb _
def q02 {R : Type} : EntF Tryd.prog R := entB (nt := 10) (dec := decB) (enc := AV.bool) tabOk follows Tryd.func49 [.t 3] hdeB (.s .z (.s (.r [(4, .c qnw.b)] []) .z)) S35_ qhv (fun f v => f (v.i 1 0) (v.s 1 1) (v.i 1 2) (v.i 1 3) (v.l 1 4) (v.i 1 5) (v.i 1 6) (v.i 1 7) (v.i 1 8) (v.s 6 0)) (by kernel_rfl) (by kernel_rfl) (by kernel_rfl) fun _ => (by kernel_rfl)
def ap0 : ApB Tryd.prog := (ApB.cons q02.b (ApB.cons q00.b (ApB.cons q3d.b (ApB.cons q3c.b (ApB.cons q3b.b (ApB.cons q0w.b (ApB.cons q0t.b (ApB.cons q5x.b (ApB.cons q5w.b (ApB.cons q5v.b (ApB.cons q5u.b (ApB.cons q5t.b (apN Tryd.prog)))))))))))))
def S36_ : Shp := ⟨[(0, .st (lk qc)), (1, .cptr [.fn])], []⟩
def qhw (Ae : Int) (Af : List UInt8) (Ag Ah : Int) (A4 : List AV) (A5 A6 A7 A8 : Int) (Ar : AV) : Option Bool :=
  (oB (ap0.ap Ar [(.agg [(.int .i64 Ae), (.str Af), (.int .i64 Ag), (.int .i64 Ah), (.sl 13 A4), (.int .i64 A5), (.int .i64 A6), (.int .i64 A7), (.int .i64 A8)])]) fun r1 => (some (!r1)))
def qup := hull qhw
theorem qzs : qup = qhw := qb _
def q03 {R : Type} : EntF Tryd.prog R := entB (nt := 8) (dec := decB) (enc := AV.bool) tabOk follows Tryd.func61 [.t 3] hdeB (.s .z (.s (.r [(2, .q ap0)] []) .z)) S36_ qhw (fun f v => f (v.i 1 0) (v.s 1 1) (v.i 1 2) (v.i 1 3) (v.l 1 4) (v.i 1 5) (v.i 1 6) (v.i 1 7) (v.i 1 8) (v.f 6 0)) (by kernel_rfl) (by kernel_rfl) (by kernel_rfl) fun _ => (by kernel_rfl)
def S37_ : Shp := ⟨[(0, .st (lk qc)), (1, .cptr [.fn]), (2, .cptr [(.i .i64)])], []⟩
def qhx (Ae : Int) (Af : List UInt8) (Ag Ah : Int) (A4 : List AV) (A5 A6 A7 A8 : Int) (Ar : AV) (Bg : Int) : Option Bool :=
  (oB (ap0.ap Ar [(.agg [(.int .i64 Ae), (.str Af), (.int .i64 Ag), (.int .i64 Ah), (.sl 13 A4), (.int .i64 A5), (.int .i64 A6), (.int .i64 A7), (.int .i64 A8)])]) fun r1 => (bif r1 then (some true) else (oB (qbh Ae Af Ag Ah A4 A5 A6 A7 A8 Bg) fun r2 => (some r2))))
def quq := hull qhx
theorem qzt : quq = qhx := qb _
def q04 {R : Type} : EntF Tryd.prog R := entB (nt := 13) (dec := decB) (enc := AV.bool) tabOk follows Tryd.func65 [.t 4] hdeB (.s .z (.s (.r [(2, .q ap0), (6, .c qb7.b)] []) .z)) S37_ qhx (fun f v => f (v.i 1 0) (v.s 1 1) (v.i 1 2) (v.i 1 3) (v.l 1 4) (v.i 1 5) (v.i 1 6) (v.i 1 7) (v.i 1 8) (v.f 6 0) (v.i 10 0)) (by kernel_rfl) (by kernel_rfl) (by kernel_rfl) fun _ => (by kernel_rfl)
def qin (Ae : Int) (Af : List UInt8) (Ag Ah : Int) (A4 : List AV) (A5 A6 A7 A8 : Int) (Ar : AV) : Option Bool :=
  (oB (ap0.ap Ar [(.agg [(.int .i64 Ae), (.str Af), (.int .i64 Ag), (.int .i64 Ah), (.sl 13 A4), (.int .i64 A5), (.int .i64 A6), (.int .i64 A7), (.int .i64 A8)])]) fun r1 => (some (!r1)))
def qv2 := hull qin
theorem q05 : qv2 = qin := qb _
def q3f {R : Type} : EntF Tryd.prog R := entB (nt := 8) (dec := decB) (enc := AV.bool) tabOk follows Tryd.func47 [.t 3] hdeB (.s .z (.s (.r [(2, .q ap0)] []) .z)) S36_ qin (fun f v => f (v.i 1 0) (v.s 1 1) (v.i 1 2) (v.i 1 3) (v.l 1 4) (v.i 1 5) (v.i 1 6) (v.i 1 7) (v.i 1 8) (v.f 6 0)) (by kernel_rfl) (by kernel_rfl) (by kernel_rfl) fun _ => (by kernel_rfl)
def S38_ : Shp := ⟨[(0, .st (lk qc)), (1, .cptr [.fn]), (2, .cptr [(.i .i64)]), (3, .cptr [(.i .i64)])], []⟩
def qfd (Ae : Int) (Af : List UInt8) (Ag Ah : Int) (A4 : List AV) (A5 A6 A7 A8 : Int) (Ar : AV) (Bg Bi : Int) : Option Bool :=
  (oB (ap0.ap Ar [(.agg [(.int .i64 Ae), (.str Af), (.int .i64 Ag), (.int .i64 Ah), (.sl 13 A4), (.int .i64 A5), (.int .i64 A6), (.int .i64 A7), (.int .i64 A8)])]) fun r1 => (bif r1 then (oB (qbh Ae Af Ag Ah A4 A5 A6 A7 A8 Bg) fun r2 => (some (r2 && (decide (A5 > Bi))))) else (some false)))
def qpa := hull qfd
theorem qu6 : qpa = qfd := qb _
def qv3 {R : Type} : EntF Tryd.prog R := entB (nt := 20) (dec := decB) (enc := AV.bool) tabOk follows Tryd.func59 [.t 5] hdeB (.s .z (.s (.r [(2, .q ap0), (6, .c qb7.b), (9, .g 4)] []) .z)) S38_ qfd (fun f v => f (v.i 1 0) (v.s 1 1) (v.i 1 2) (v.i 1 3) (v.l 1 4) (v.i 1 5) (v.i 1 6) (v.i 1 7) (v.i 1 8) (v.f 6 0) (v.i 10 0) (v.i 14 0)) (by kernel_rfl) (by kernel_rfl) (by kernel_rfl) fun _ => (by kernel_rfl)
def ap1 : ApB Tryd.prog := (ApB.cons qv3.b (ApB.cons q3f.b (ApB.cons q04.b (ApB.cons q03.b ap0))))
def S39_ : Shp := ⟨[(1, .one (.l .fn)), (7, .one (.l (.sl 9))), (8, .one (.l (.i .i64))), (9, .one (.l (.i .i64)))], []⟩
def S40_ : Shp := ⟨[(0, .one (.l (.sl 9))), (1, .one (.l .fn))], []⟩
def qfe  (K : Ex → Env → Mem → Option Int) := (fun (_ : Unit) => K (.exit 0) (qi []) (qh []))
def qbp  (v1 : AV) (v7 : List AV) (v8 v9 : Int) (next : Int → Option Int) (kx0 : Unit → Option Int) : Option Int :=
  (bif (decide (v9 < v8)) then (oB (ixB v7 v9) fun y1 => (bif fitC qc y1.cells then (oB (ap1.ap v1 [(.agg [(.int .i64 (gI y1.cells 0)), (.str (gS y1.cells 1)), (.int .i64 (gI y1.cells 2)), (.int .i64 (gI y1.cells 3)), (.sl 13 (gL y1.cells 4)), (.int .i64 (gI y1.cells 5)), (.int .i64 (gI y1.cells 6)), (.int .i64 (gI y1.cells 7)), (.int .i64 (gI y1.cells 8))])]) fun r2 => (bif r2 then (some v9) else (next (IntKind.i64.wrap (v9 + (1 : Int)))))) else none)) else (kx0 ()))
def qbq  (v1 : AV) (v7 : List AV) (v8 : Int) (kx0 : Unit → Option Int) : Nat → Int → Option Int
  | 0 => (fun _ => none)
  | n + 1 => (fun v9 => qbp v1 v7 v8 v9 (qbq v1 v7 v8 kx0 n) kx0)
def qg8 := hull (qbq)
theorem qlm : qg8 = qbq := qb _
def ql0 : SubB Tryd.prog (TIof Tryd.prog) 19 0 (kret [.t 4] (decI .i64)) := lpB tabOk follows Tryd.f28 37 (.s .z (.s (.s .z (.v [.sel [] []])) (.s (.b (.s (.r [(1, .p (.etac 12 qc))] []) (.s (.r [(2, .q ap1)] []) .z))) (.v [.sel [1, 7, 8, 9] []])))) S39_ (qbq) (fun f v K n => f (v.f 4 0) (v.l 28 0) (v.i 32 0) (qfe K) n) (fun v f K => qbp (v.f 4 0) (v.l 28 0) (v.i 32 0) (v.i 36 0) f (qfe K)) (fun f v => f (v.i 36 0)) (fun k v => (fun z0 => k (v.ui 36 0 z0))) (by kernel_rfl) (fun _ _ => (by kernel_rfl)) (fun _ _ _ => (by kernel_rfl)) (fun _ _ _ => (by kernel_rfl)) (fun _ _ => (by kernel_rfl)) (fun _ _ _ _ _ => (by kernel_rfl))
def qc7 (v0 : List AV) (v1 : AV) : Option Int :=
  (qg8 v1 v0 (v0.length : Int) (fun (_ : Unit) => (some (-1 : Int))) FU (0 : Int))
def qbj := hull qc7
theorem qnx : qbj = qc7 := qb _
def qb9 {R : Type} : EntF Tryd.prog R := entB (nt := 19) (dec := (decI .i64)) (enc := (AV.int .i64)) tabOk follows Tryd.func28 [.t 4] hdeI (.s .z (.s (.s .z (.b (.sub [.sel [1, 7, 8, 9] []] ql0 []))) .z)) S40_ qc7 (fun f v => f (v.l 0 0) (v.f 4 0)) (by kernel_rfl) (by kernel_rfl) (by kernel_rfl) fun _ => (by kernel_rfl)
def S41_ : Shp := ⟨[(0, .st [(.l (.i .i64)), (.l (.sl 9))]), (1, .one (.l (.i .i64))), (2, .one (.l (.i .i64))), (3, .one (.l .fn))], []⟩
def qgy (Ae : Int) (Af : List AV) (v1 v2 : Int) (v3 : AV) : Option Bool :=
  (oB (qbj Af (.func qhh [(.cptr [(.fv v3)]), (.cptr [(.int .i64 v2)]), (.cptr [(.int .i64 v1)])])) fun r1 => (some (decide (r1 ≥ (0 : Int)))))
def qgl := hull qgy
theorem qyg : qgl = qgy := qb _
def qpb {R : Type} : EntF Tryd.prog R := entB (nt := 14) (dec := decB) (enc := AV.bool) tabOk follows Tryd.func39 [.t 8] hdeB (.s .z (.s (.r [(2, .s (.cls 5)), (2, .s (.cls 6)), (2, .s (.cls 7)), (3, .c qb9.b)] []) .z)) S41_ qgy (fun f v => f (v.i 1 0) (v.l 1 1) (v.i 4 0) (v.i 8 0) (v.f 12 0)) (by kernel_rfl) (by kernel_rfl) (by kernel_rfl) fun _ => (by kernel_rfl)
def qet (l : List AV) : Option (List AV) := q2f 128 l
def qia {R : Type} (xs : List AV) (K : AV → Option R) : Option R := qt6 13 128 xs K
theorem qiy {R : Type} : qlj Tryd.prog 54 (qia (R := R)) := qbf2 (ρ := q0f 54 4 31 64) tabOk (qbcn follows "slices.Clone[[]ddi/api.Data,ddi/api.Data]" (by kernel_rfl) (by kernel_rfl) (by kernel_rfl) (by kernel_rfl) (by kernel_rfl) (by kernel_rfl) (by kernel_rfl) (by kernel_rfl)) (by kernel_rfl) (by decide) (by decide)
def S42_ : Shp := ⟨[(0, .st (lk qc))], []⟩
def qmq (Ae : Int) (Af : List UInt8) (Ag Ah : Int) (A4 : List AV) (A5 A6 A7 A8 : Int) : Option AV :=
  (oB (qet A4) fun r1 => (some (.agg [(.int .i64 Ae), (.str Af), (.int .i64 Ag), (.int .i64 Ah), (.sl 13 r1), (.int .i64 A5), (.int .i64 A6), (.int .i64 A7), (.int .i64 A8)])))
def qff := hull qmq
theorem q6q : qff = qmq := qb _
def qrk {R : Type} : EntF Tryd.prog R := entB (nt := 10) (dec := (decT [(.i .i64), .s, (.i .i64), (.i .i64), (.sl 13), (.i .i64), (.i .i64), (.i .i64), (.i .i64)])) (enc := (qd8 (.st [(.i .i64), .s, (.i .i64), (.i .i64), (.sl 13), (.i .i64), (.i .i64), (.i .i64), (.i .i64)]))) tabOk follows Tryd.func36 [(.cell 2 true 9)] hdeT (.s .z (.s (.r [(3, .k (eB qiy))] []) .z)) S42_ qmq (fun f v => f (v.i 1 0) (v.s 1 1) (v.i 1 2) (v.i 1 3) (v.l 1 4) (v.i 1 5) (v.i 1 6) (v.i 1 7) (v.i 1 8)) (by kernel_rfl) (by kernel_rfl) (by kernel_rfl) fun _ => (by kernel_rfl)
def S43_ : Shp := ⟨[(2, .one (.ptr 0 0)), (4, .one (.ptr 1 0)), (5, .one (.own 2)), (11, .one (.l (.sl 9))), (12, .one (.l (.i .i64))), (13, .one (.l (.i .i64)))], [.box true [(.l (.i .i64)), (.l (.sl 9))], .box true [(.l (.i .i64)), (.l .nil)], .arr true 9]⟩
def S44_ : Shp := ⟨[(0, .st [(.l (.i .i64)), (.l (.sl 9))]), (1, .one (.l (.sl 9)))], []⟩
def qix  (Aa : Int) (Ab : List AV) (Bj : Int) (K : Ex → Env → Mem → Option AV) := (fun z_a2 => K (.exit 0) (qi [(2, (.ptr 0 0)), (4, (.ptr 1 0)), (5, (.own 2 z_a2.length))]) (qh [(some (.box true [(.int .i64 Aa), (.sl 9 Ab)])), (some (.box true [(.int .i64 Bj), .nils])), (some (.arr true 9 z_a2))]))
def qc4  (v11 : List AV) (v12 v13 Aa : Int) (Ab : List AV) (Bj : Int) (a2 : List AV) (next : Int → (List AV) → Option AV) (kx0 : (List AV) → Option AV) : Option AV :=
  (bif (decide (v13 < v12)) then (oB (ixB v11 v13) fun y1 => (bif fitC qc y1.cells then (oB (qff (gI y1.cells 0) (gS y1.cells 1) (gI y1.cells 2) (gI y1.cells 3) (gL y1.cells 4) (gI y1.cells 5) (gI y1.cells 6) (gI y1.cells 7) (gI y1.cells 8)) fun r2 => (bif hd a2 a2.length then (bif hd ([(.agg [(.int .i64 (gI r2.cells 0)), (.str (gS r2.cells 1)), (.int .i64 (gI r2.cells 2)), (.int .i64 (gI r2.cells 3)), (.sl 13 (gL r2.cells 4)), (.int .i64 (gI r2.cells 5)), (.int .i64 (gI r2.cells 6)), (.int .i64 (gI r2.cells 7)), (.int .i64 (gI r2.cells 8))])] : List AV) (([(.agg [(.int .i64 (gI r2.cells 0)), (.str (gS r2.cells 1)), (.int .i64 (gI r2.cells 2)), (.int .i64 (gI r2.cells 3)), (.sl 13 (gL r2.cells 4)), (.int .i64 (gI r2.cells 5)), (.int .i64 (gI r2.cells 6)), (.int .i64 (gI r2.cells 7)), (.int .i64 (gI r2.cells 8))])] : List AV).length) then (bif decide ((a2.length + ([(.agg [(.int .i64 (gI r2.cells 0)), (.str (gS r2.cells 1)), (.int .i64 (gI r2.cells 2)), (.int .i64 (gI r2.cells 3)), (.sl 13 (gL r2.cells 4)), (.int .i64 (gI r2.cells 5)), (.int .i64 (gI r2.cells 6)), (.int .i64 (gI r2.cells 7)), (.int .i64 (gI r2.cells 8))])] : List AV).length) * 96 ≤ 140737488355328) then (next (IntKind.i64.wrap (v13 + (1 : Int))) (a2 ++ ([(.agg [(.int .i64 (gI r2.cells 0)), (.str (gS r2.cells 1)), (.int .i64 (gI r2.cells 2)), (.int .i64 (gI r2.cells 3)), (.sl 13 (gL r2.cells 4)), (.int .i64 (gI r2.cells 5)), (.int .i64 (gI r2.cells 6)), (.int .i64 (gI r2.cells 7)), (.int .i64 (gI r2.cells 8))])] : List AV))) else none) else none) else none)) else none)) else (kx0 a2))
def qcb  (v11 : List AV) (v12 Aa : Int) (Ab : List AV) (Bj : Int) (kx0 : (List AV) → Option AV) : Nat → Int → (List AV) → Option AV
  | 0 => (fun _ _ => none)
  | n + 1 => (fun v13 a2 => qc4 v11 v12 v13 Aa Ab Bj a2 (qcb v11 v12 Aa Ab Bj kx0 n) kx0)
def qlq := hull (qcb)
theorem qrl : qlq = qcb := qb _
def qry : SubB Tryd.prog (TIof Tryd.prog) 27 0 (kret [(.cell 4 true 2)] (decT [(.i .i64), (.fr true 9)])) := lpB tabOk follows Tryd.f35 75 (.s .z (.s (.s .z (.v [.sel [2, 4, 5] [0, 1, 2]])) (.s (.b (.s (.r [(0, .p (.etac 15 qc))] []) (.r [(2, .k qrk.b)] []))) (.v [.sel [2, 4, 5, 11, 12, 13] [0, 1, 2]])))) S43_ (qcb) (fun f v K n => f (v.l 44 0) (v.i 48 0) (v.i 3 0) (v.l 3 1) (v.i 7 0) (qix (v.i 3 0) (v.l 3 1) (v.i 7 0) K) n) (fun v f K => qc4 (v.l 44 0) (v.i 48 0) (v.i 52 0) (v.i 3 0) (v.l 3 1) (v.i 7 0) (v.r 2) f (qix (v.i 3 0) (v.l 3 1) (v.i 7 0) K)) (fun f v => f (v.i 52 0) (v.r 2)) (fun k v => (fun z0 z1 => k ((v.ui 52 0 z0).ur 2 z1))) (by kernel_rfl) (fun _ _ => (by kernel_rfl)) (fun _ _ _ => (by kernel_rfl)) (fun _ _ _ => (by kernel_rfl)) (fun _ _ => (by kernel_rfl)) (fun _ _ _ _ _ => (by kernel_rfl))
def qfg (Ae : Int) (Af v1 : List AV) : Option AV :=
  (bif decide (0 ≤ (0 : Int) ∧ (0 : Int) ≤ (v1.length : Int) ∧ (v1.length : Int) * 96 ≤ 281474976710656) then (bif (hd (List.replicate (0 : Int).toNat ((.agg [(.int .i64 (0 : Int)), (.str ([] : List UInt8)), (.int .i64 (0 : Int)), (.int .i64 (0 : Int)), .nils, (.int .i64 (0 : Int)), (.int .i64 (0 : Int)), (.int .i64 (0 : Int)), (.int .i64 (0 : Int))]) : AV)) ((List.replicate (0 : Int).toNat ((.agg [(.int .i64 (0 : Int)), (.str ([] : List UInt8)), (.int .i64 (0 : Int)), (.int .i64 (0 : Int)), .nils, (.int .i64 (0 : Int)), (.int .i64 (0 : Int)), (.int .i64 (0 : Int)), (.int .i64 (0 : Int))]) : AV)).length) && true) then (qlq v1 (v1.length : Int) Ae Af (0 : Int) (fun a2q1 => (bif hd a2q1 a2q1.length then (some (.agg [(.int .i64 Ae), (.fr true 9 a2q1)])) else none)) FU (0 : Int) (List.replicate (0 : Int).toNat ((.agg [(.int .i64 (0 : Int)), (.str ([] : List UInt8)), (.int .i64 (0 : Int)), (.int .i64 (0 : Int)), .nils, (.int .i64 (0 : Int)), (.int .i64 (0 : Int)), (.int .i64 (0 : Int)), (.int .i64 (0 : Int))]) : AV))) else none) else none)
def qbe := hull qfg
theorem qu7 : qbe = qfg := qb _
def qcg {R : Type} : EntF Tryd.prog R := entB (nt := 27) (dec := (decT [(.i .i64), (.fr true 9)])) (enc := (qd8 (.st [(.i .i64), (.fr true 9)]))) tabOk follows Tryd.func35 [(.cell 4 true 2)] hdeT (.s .z (.s .z (.s (.s .z (.b (.sub [.sel [2, 4, 5, 11, 12, 13] [0, 1, 2]] qry []))) .z))) S44_ qfg (fun f v => f (v.i 1 0) (v.l 1 1) (v.l 4 0)) (by kernel_rfl) (by kernel_rfl) (by kernel_rfl) fun _ => (by kernel_rfl)
def ql1 : Nat := 41
def S45_ : Shp := ⟨[(1, .one (.l .fn)), (5, .one (.own 0)), (8, .one (.l (.sl 9))), (9, .one (.l (.i .i64))), (10, .one (.l (.i .i64)))], [.arr true 9]⟩
def qfw  (K : Ex → Env → Mem → Option (List AV)) := (fun z_a0 => K (.exit 0) (qi [(5, (.own 0 z_a0.length))]) (qh [(some (.arr true 9 z_a0))]))
def qbv  (v1 : AV) (v8 : List AV) (v9 v10 : Int) (a0 : List AV) (next : Int → (List AV) → Option (List AV)) (kx0 : (List AV) → Option (List AV)) : Option (List AV) :=
  (bif (decide (v10 < v9)) then (oB (ixB v8 v10) fun y1 => (bif fitC qc y1.cells then (oB (ap1.ap v1 [(.agg [(.int .i64 (gI y1.cells 0)), (.str (gS y1.cells 1)), (.int .i64 (gI y1.cells 2)), (.int .i64 (gI y1.cells 3)), (.sl 13 (gL y1.cells 4)), (.int .i64 (gI y1.cells 5)), (.int .i64 (gI y1.cells 6)), (.int .i64 (gI y1.cells 7)), (.int .i64 (gI y1.cells 8))])]) fun r2 => (bif r2 then (bif hd a0 a0.length then (bif hd ([(.agg [(.int .i64 (gI y1.cells 0)), (.str (gS y1.cells 1)), (.int .i64 (gI y1.cells 2)), (.int .i64 (gI y1.cells 3)), (.sl 13 (gL y1.cells 4)), (.int .i64 (gI y1.cells 5)), (.int .i64 (gI y1.cells 6)), (.int .i64 (gI y1.cells 7)), (.int .i64 (gI y1.cells 8))])] : List AV) (([(.agg [(.int .i64 (gI y1.cells 0)), (.str (gS y1.cells 1)), (.int .i64 (gI y1.cells 2)), (.int .i64 (gI y1.cells 3)), (.sl 13 (gL y1.cells 4)), (.int .i64 (gI y1.cells 5)), (.int .i64 (gI y1.cells 6)), (.int .i64 (gI y1.cells 7)), (.int .i64 (gI y1.cells 8))])] : List AV).length) then (bif decide ((a0.length + ([(.agg [(.int .i64 (gI y1.cells 0)), (.str (gS y1.cells 1)), (.int .i64 (gI y1.cells 2)), (.int .i64 (gI y1.cells 3)), (.sl 13 (gL y1.cells 4)), (.int .i64 (gI y1.cells 5)), (.int .i64 (gI y1.cells 6)), (.int .i64 (gI y1.cells 7)), (.int .i64 (gI y1.cells 8))])] : List AV).length) * 96 ≤ 140737488355328) then (next (IntKind.i64.wrap (v10 + (1 : Int))) (a0 ++ ([(.agg [(.int .i64 (gI y1.cells 0)), (.str (gS y1.cells 1)), (.int .i64 (gI y1.cells 2)), (.int .i64 (gI y1.cells 3)), (.sl 13 (gL y1.cells 4)), (.int .i64 (gI y1.cells 5)), (.int .i64 (gI y1.cells 6)), (.int .i64 (gI y1.cells 7)), (.int .i64 (gI y1.cells 8))])] : List AV))) else none) else none) else none) else (next (IntKind.i64.wrap (v10 + (1 : Int))) a0))) else none)) else (kx0 a0))
def qbg  (v1 : AV) (v8 : List AV) (v9 : Int) (kx0 : (List AV) → Option (List AV)) : Nat → Int → (List AV) → Option (List AV)
  | 0 => (fun _ _ => none)
  | n + 1 => (fun v10 a0 => qbv v1 v8 v9 v10 a0 (qbg v1 v8 v9 kx0 n) kx0)
def qhy := hull (qbg)
theorem ql2 : qhy = qbg := qb _
def qm5 : SubB Tryd.prog (TIof Tryd.prog) 23 0 (kret [.t 4] (decF true 9)) := lpB tabOk follows Tryd.f40 75 (.s .z (.s (.s .z (.v [.sel [5] [0]])) (.s (.b (.s (.r [(0, .p (.etac 12 qc))] []) (.s (.r [(2, .q ap1)] []) .z))) (.v [.sel [1, 5, 8, 9, 10] [0]])))) S45_ (qbg) (fun f v K n => f (v.f 4 0) (v.l 32 0) (v.i 36 0) (qfw K) n) (fun v f K => qbv (v.f 4 0) (v.l 32 0) (v.i 36 0) (v.i 40 0) (v.r 0) f (qfw K)) (fun f v => f (v.i 40 0) (v.r 0)) (fun k v => (fun z0 z1 => k ((v.ui 40 0 z0).ur 0 z1))) (by kernel_rfl) (fun _ _ => (by kernel_rfl)) (fun _ _ _ => (by kernel_rfl)) (fun _ _ _ => (by kernel_rfl)) (fun _ _ => (by kernel_rfl)) (fun _ _ _ _ _ => (by kernel_rfl))
def qde (v0 : List AV) (v1 : AV) : Option (List AV) :=
  (bif (hd ([] : List AV) (([] : List AV).length) && true) then (qhy v1 v0 (v0.length : Int) (fun a0q1 => (bif hd a0q1 a0q1.length then (some a0q1) else none)) FU (0 : Int) ([] : List AV)) else none)
def qz := hull qde
theorem qof : qz = qde := qb _
def qbr {R : Type} : EntF Tryd.prog R := entB (nt := 23) (dec := (decF true 9)) (enc := (AV.fr true 9)) tabOk follows Tryd.func40 [.t 4] hdeF (.s .z (.s .z (.s (.s .z (.b (.sub [.own 5 9, .sel [1, 5, 8, 9, 10] [0]] qm5 []))) .z))) S40_ qde (fun f v => f (v.l 0 0) (v.f 4 0)) (by kernel_rfl) (by kernel_rfl) (by kernel_rfl) fun _ => (by kernel_rfl)
def qrm (v0 v1 : Int) : Option Int :=
  (some (if (4294967295 : Int) < (IntKind.i64.wrap (v1 + v0)) then (4294967295 : Int) else (IntKind.i64.wrap (v1 + v0))))
def qqk := hull qrm
theorem q6r : qqk = qrm := qb _
def qyw {R : Type} : EntF Tryd.prog R := entB (nt := 9) (dec := (decI .i64)) (enc := (AV.int .i64)) tabOk follows Tryd.func43 [.t 4] hdeI (.z) S16_ qrm (fun f v => f (v.i 0 0) (v.i 4 0)) (by kernel_rfl) (by kernel_rfl) (by kernel_rfl) fun _ => (by kernel_rfl)
def qeu : Nat := 60
def qju : Nat := 61
def qjv : Nat := 62
def q6s {R : Type} (vs : List AV) (m : Mem) (K : AV → Mem → Option R) : Option R := qq4 9 96 vs m K
theorem q6t {R : Type} : qm2 Tryd.prog 64 (q6s (R := R)) := qbcp (ρ := qxd 64 74 75 0 3 4 23 35) tabOk (qba2 follows "slices.Insert[[]ddi/cache.Entry,ddi/cache.Entry]" (by kernel_rfl) (by kernel_rfl) Tryd.func74 (by kernel_rfl) (by kernel_rfl) (by kernel_rfl) (by kernel_rfl) (by kernel_rfl) (by kernel_rfl) (by kernel_rfl) (by kernel_rfl) (by kernel_rfl) (by kernel_rfl) (by kernel_rfl) (by kernel_rfl) (by kernel_rfl) (by kernel_rfl) (by kernel_rfl) (by kernel_rfl) (by kernel_rfl)) (by kernel_rfl) (by kernel_rfl) (by decide) (by decide)
def qjw : Nat := 65
def q6u {R : Type} (vs : List AV) (m : Mem) (K : AV → Mem → Option R) : Option R := qq3 9 vs m K
theorem q6v {R : Type} : qm2 Tryd.prog 66 (q6u (R := R)) := qbco (ρ := qxc 66 0 3 4 23 35) tabOk (qba1 follows "slices.Delete[[]ddi/cache.Entry,ddi/cache.Entry]" (by kernel_rfl) (by kernel_rfl) (by kernel_rfl) (by kernel_rfl) (by kernel_rfl) (by kernel_rfl) (by kernel_rfl) (by kernel_rfl) (by kernel_rfl) (by kernel_rfl) (by kernel_rfl) (by kernel_rfl) (by kernel_rfl) (by kernel_rfl)) (by kernel_rfl) (by decide)
def qpc (x0 : Int) (x1 : List UInt8) (x2 x3 : Int) (x4 : List AV) (x5 x6 x7 x8 : Int) : List AV := [.int .i64 x0, .str x1, .int .i64 x2, .int .i64 x3, .sl 13 x4, .int .i64 x5, .int .i64 x6, .int .i64 x7, .int .i64 x8]
def S46_ : Shp := ⟨[(3, .one (.ptr 0 0)), (4, .cptr qc), (5, .one (.ptr 1 0)), (6, .one (.ptr 2 0)), (7, .cptr [.fn]), (8, .one (.own 3)), (9, .one (.l (.i .i64)))], [.box true [(.l (.i .i64)), (.l (.sl 9))], .box true [(.l (.i .i64))], .box true [(.l (.i .i64)), (.l .nil)], .arr true 9]⟩
def S47_ : Shp := ⟨[(3, .one (.ptr 0 0)), (5, .one (.ptr 1 0)), (6, .one (.ptr 2 0)), (7, .cptr [.fn]), (8, .one (.own 3))], [.box true [(.l (.i .i64)), (.l (.sl 9))], .box true [(.l (.i .i64))], .box true [(.l (.i .i64)), (.l .nil)], .arr true 9]⟩
def S48_ : Shp := ⟨[(3, .one (.ptr 0 0)), (6, .one (.ptr 1 0)), (7, .cptr [.fn]), (8, .one (.own 2)), (10, .one (.l (.i .i64))), (11, .one (.l (.i .i64))), (12, .one (.ptr 3 0)), (48, .one (.own 2)), (49, .one (.l (.i .i64))), (50, .one (.l (.i .i64)))], [.box true [(.l (.i .i64)), (.l (.sl 9))], .box true [(.l (.i .i64)), (.l .nil)], .arr true 9, .box true (lk qc)]⟩
def S49_ : Shp := ⟨[(3, .one (.ptr 0 0)), (6, .one (.ptr 1 0)), (7, .cptr [.fn]), (8, .one (.own 2)), (10, .one (.l (.i .i64))), (48, .one (.own 2)), (49, .one (.l (.i .i64))), (50, .one (.l (.i .i64)))], [.box true [(.l (.i .i64)), (.l (.sl 9))], .box true [(.l (.i .i64)), (.l .nil)], .arr true 9]⟩
def S50_ : Shp := ⟨[(3, .one (.ptr 0 0)), (6, .one (.ptr 1 0)), (7, .cptr [.fn]), (8, .one (.own 2))], [.box true [(.l (.i .i64)), (.l (.sl 9))], .box true [(.l (.i .i64)), (.l .nil)], .arr true 9]⟩
def S51_ : Shp := ⟨[(0, .st [(.l (.i .i64)), (.l (.sl 9))]), (1, .st (lk qc)), (2, .one (.l (.i .i64)))], []⟩
def qyh  (Bl : Int) (Bm : List UInt8) (Bn Bo : Int) (Bp : List AV) (Bq Br Bs Bt : Int) (Bu : AV) (Aa : Int) (Ab : List AV) (Bj Bv : Int) (a3 : List AV) (K : Ex → Env → Mem → Option AV) := (fun z_v9 => K .norm (qi [(3, (.ptr 0 0)), (4, .cptr (qpc Bl Bm Bn Bo Bp Bq Br Bs Bt)), (5, (.ptr 1 0)), (6, (.ptr 2 0)), (7, .cptr [(.fv Bu)]), (8, (.own 3 a3.length)), (9, (.int .i64 z_v9))]) (qh [(some (.box true [(.int .i64 Aa), (.sl 9 Ab)])), (some (.box true [(.int .i64 Bj)])), (some (.box true [(.int .i64 Bv), .nils])), (some (.arr true 9 a3))]))
def qgz  (Bl : Int) (Bm : List UInt8) (Bn Bo : Int) (Bp : List AV) (Bq Br Bs Bt : Int) (Bu : AV) (v9 Aa : Int) (Ab : List AV) (Bj Bv : Int) (a3 : List AV) (kn : Int → Option AV) : Option AV :=
  (bif (decide (v9 < (0 : Int))) then (kn (a3.length : Int)) else (kn v9))
def ql3 := hull (qgz)
theorem qyi : ql3 = qgz := qb _
def qzu : SubB Tryd.prog (TIof Tryd.prog) 83 0 (kret [(.cell 6 true 2)] (decT [(.i .i64), (.sl 9)])) := jnB tabOk follows Tryd.f42 47 (.s .z (.s (.v [.sel [3, 4, 5, 6, 7, 8, 9] [0, 1, 2, 3]]) (.v [.sel [3, 4, 5, 6, 7, 8, 9] [0, 1, 2, 3]]))) S46_ (qgz) (fun f v K => f (v.i 18 0) (v.s 18 1) (v.i 18 2) (v.i 18 3) (v.l 18 4) (v.i 18 5) (v.i 18 6) (v.i 18 7) (v.i 18 8) (v.f 30 0) (v.i 36 0) (v.i 3 0) (v.l 3 1) (v.i 7 0) (v.i 11 0) (v.r 3) (qyh (v.i 18 0) (v.s 18 1) (v.i 18 2) (v.i 18 3) (v.l 18 4) (v.i 18 5) (v.i 18 6) (v.i 18 7) (v.i 18 8) (v.f 30 0) (v.i 3 0) (v.l 3 1) (v.i 7 0) (v.i 11 0) (v.r 3) K)) (by kernel_rfl) (fun _ _ => (by kernel_rfl))
def qv4  (Bu : AV) (Aa : Int) (Ab : List AV) (Bv : Int) (K : Ex → Env → Mem → Option AV) := (fun z_a2 => K .norm (qi [(3, (.ptr 0 0)), (6, (.ptr 1 0)), (7, .cptr [(.fv Bu)]), (8, (.own 2 z_a2.length))]) (qh [(some (.box true [(.int .i64 Aa), (.sl 9 Ab)])), (some (.box true [(.int .i64 Bv), .nils])), (some (.arr true 9 z_a2))]))
def qf8  (Bu : AV) (Aa : Int) (Ab : List AV) (Bj Bv : Int) (a3 : List AV) (kn : (List AV) → Option AV) : Option AV :=
  (bif (decide ((a3.length : Int) > Aa)) then (bif hd a3 a3.length then (oB (qz a3 (.func qjw [(.cptr [(.fv Bu)]), (.cptr [(.int .i64 Bj)])])) fun r1 => (kn r1)) else none) else (kn a3))
def qhz := hull (qf8)
theorem qv5 : qhz = qf8 := qb _
def qyj : SubB Tryd.prog (TIof Tryd.prog) 83 0 (kret [(.cell 6 true 2)] (decT [(.i .i64), (.sl 9)])) := jnB tabOk follows Tryd.f42 191 (.s .z (.s (.r [(1, .s (.cls 5)), (2, .c qbr.b)] [.sel [3, 6, 7, 8] [0, 2, 4]]) (.v [.sel [3, 6, 7, 8] [0, 2, 3]]))) S47_ (qf8) (fun f v K => f (v.f 30 0) (v.i 3 0) (v.l 3 1) (v.i 7 0) (v.i 11 0) (v.r 3) (qv4 (v.f 30 0) (v.i 3 0) (v.l 3 1) (v.i 11 0) K)) (by kernel_rfl) (fun _ _ => (by kernel_rfl))
def qv6  (Bu : AV) (v10 v11 v49 v50 Aa : Int) (Ab : List AV) (Bj : Int) (a2 : List AV) (K : Ex → Env → Mem → Option AV) := (fun z_v72 => K .norm (qi [(3, (.ptr 0 0)), (6, (.ptr 1 0)), (7, .cptr [(.fv Bu)]), (8, (.own 2 a2.length)), (10, (.int .i64 v10)), (11, (.int .i64 v11)), (48, (.own 2 a2.length)), (49, (.int .i64 v49)), (50, (.int .i64 v50)), (72, (.bool z_v72))]) (qh [(some (.box true [(.int .i64 Aa), (.sl 9 Ab)])), (some (.box true [(.int .i64 Bj), .nils])), (some (.arr true 9 a2))]))
def qf9  (Bu : AV) (v10 v11 v49 v50 Aa : Int) (Ab : List AV) (Bj : Int) (a2 : List AV) (Bw : Int) (Bx : List UInt8) (By Bz : Int) (B0 : List AV) (B1 B2 B3 B4 : Int) (kn : Bool → Option AV) : Option AV :=
  (oB (ap1.ap Bu [(.agg [(.int .i64 Bw), (.str Bx), (.int .i64 By), (.int .i64 Bz), (.sl 13 B0), (.int .i64 B1), (.int .i64 B2), (.int .i64 B3), (.int .i64 B4)])]) fun r1 => (bif (!r1) then (bif (decide (v10 < (0 : Int))) then (kn true) else (bif hd a2 a2.length then (bif decide (0 ≤ v10 ∧ v10 < a2.length) then (bif hd a2 a2.length then (bif hd a2 a2.length then (oB (a2[v10.toNat]?) fun y2 => (oB (rdE y2 8 false 1) fun z3 => (bif fitV (.one (.i .i64)) z3 then (kn (decide (B4 < (aI z3)))) else none))) else none) else none) else none) else none)) else (kn false)))
def qql := hull (qf9)
theorem qv7 : qql = qf9 := qb _
def qyk : SubB Tryd.prog (TIof Tryd.prog) 83 0 (kret [(.cell 6 true 2)] (decT [(.i .i64), (.sl 9)])) := jnB tabOk follows Tryd.f42 10900607 (.d [] [(2, .q ap1), (14, .p (.eta 69 (.one (.i .i64))))] [] [.sel [3, 6, 7, 8, 10, 11, 48, 49, 50, 72] [0, 1, 2]]) S48_ (qf9) (fun f v K => f (v.f 30 0) (v.i 40 0) (v.i 44 0) (v.i 196 0) (v.i 200 0) (v.i 3 0) (v.l 3 1) (v.i 7 0) (v.r 2) (v.i 15 0) (v.s 15 1) (v.i 15 2) (v.i 15 3) (v.l 15 4) (v.i 15 5) (v.i 15 6) (v.i 15 7) (v.i 15 8) (qv6 (v.f 30 0) (v.i 40 0) (v.i 44 0) (v.i 196 0) (v.i 200 0) (v.i 3 0) (v.l 3 1) (v.i 7 0) (v.r 2) K)) (by kernel_rfl) (fun _ _ => (by kernel_rfl))
def qlr  (Bu : AV) (Aa : Int) (Ab : List AV) (Bj : Int) (a2 : List AV) (K : Ex → Env → Mem → Option AV) := (fun z_v10 => K (.exit 2) (qi [(3, (.ptr 0 0)), (6, (.ptr 1 0)), (7, .cptr [(.fv Bu)]), (8, (.own 2 a2.length)), (10, (.int .i64 z_v10))]) (qh [(some (.box true [(.int .i64 Aa), (.sl 9 Ab)])), (some (.box true [(.int .i64 Bj), .nils])), (some (.arr true 9 a2))]))
def qeg  (Bu : AV) (v10 v49 v50 Aa : Int) (Ab : List AV) (Bj : Int) (a2 : List AV) (next : Int → Int → Option AV) (kx2 : Int → Option AV) : Option AV :=
  (bif (decide (v50 < v49)) then (bif hd a2 a2.length then (bif decide (0 ≤ v50 ∧ v50 < a2.length) then (bif hd a2 a2.length then (oB (a2[v50.toNat]?) fun y1 => (oB (rdE y1 0 true 9) fun z2 => (bif fitV (.st qc) z2 then (bif (hd a2 (a2.length) && (hd a2 (a2.length) && true)) then (qql Bu v10 v50 v49 v50 Aa Ab Bj a2 (gI z2.cells 0) (gS z2.cells 1) (gI z2.cells 2) (gI z2.cells 3) (gL z2.cells 4) (gI z2.cells 5) (gI z2.cells 6) (gI z2.cells 7) (gI z2.cells 8) (fun v72q3 => (bif v72q3 then (next v50 (IntKind.i64.wrap (v50 + (1 : Int)))) else (next v10 (IntKind.i64.wrap (v50 + (1 : Int))))))) else none) else none))) else none) else none) else none) else (kx2 v10))
def qeh  (Bu : AV) (v49 Aa : Int) (Ab : List AV) (Bj : Int) (a2 : List AV) (kx2 : Int → Option AV) : Nat → Int → Int → Option AV
  | 0 => (fun _ _ => none)
  | n + 1 => (fun v10 v50 => qeg Bu v10 v49 v50 Aa Ab Bj a2 (qeh Bu v49 Aa Ab Bj a2 kx2 n) kx2)
def qky := hull (qeh)
theorem qv8 : qky = qeh := qb _
def qyl : SubB Tryd.prog (TIof Tryd.prog) 83 0 (kret [(.cell 6 true 2)] (decT [(.i .i64), (.sl 9)])) := lpB tabOk follows Tryd.f42 152703 (.s .z (.s (.s .z (.v [.sel [3, 6, 7, 8, 10] [0, 1, 2]])) (.s (.b (.s (.r [(2, .p (.eta 54 (.st qc)))] []) (.s (.sub [.sel [3, 6, 7, 8, 10, 11, 12, 48, 49, 50] [0, 1, 2, 3]] qyk []) .z))) (.v [.sel [3, 6, 7, 8, 10, 48, 49, 50] [0, 1, 2]])))) S49_ (qeh) (fun f v K n => f (v.f 30 0) (v.i 196 0) (v.i 3 0) (v.l 3 1) (v.i 7 0) (v.r 2) (qlr (v.f 30 0) (v.i 3 0) (v.l 3 1) (v.i 7 0) (v.r 2) K) n) (fun v f K => qeg (v.f 30 0) (v.i 40 0) (v.i 196 0) (v.i 200 0) (v.i 3 0) (v.l 3 1) (v.i 7 0) (v.r 2) f (qlr (v.f 30 0) (v.i 3 0) (v.l 3 1) (v.i 7 0) (v.r 2) K)) (fun f v => f (v.i 40 0) (v.i 200 0)) (fun k v => (fun z0 z1 => k ((v.ui 40 0 z0).ui 200 0 z1))) (by kernel_rfl) (fun _ _ => (by kernel_rfl)) (fun _ _ _ => (by kernel_rfl)) (fun _ _ _ => (by kernel_rfl)) (fun _ _ => (by kernel_rfl)) (fun _ _ _ _ _ => (by kernel_rfl))
def qls  (Aa : Int) (Ab : List AV) (Bj : Int) (K : Ex → Env → Mem → Option AV) := (fun z_a2 => K (.exit 0) (qi [(3, (.ptr 0 0)), (6, (.ptr 1 0)), (8, (.own 2 z_a2.length))]) (qh [(some (.box true [(.int .i64 Aa), (.sl 9 Ab)])), (some (.box true [(.int .i64 Bj), .nils])), (some (.arr true 9 z_a2))]))
def qdm  (Bu : AV) (Aa : Int) (Ab : List AV) (Bj : Int) (a2 : List AV) (next : (List AV) → Option AV) (kx0 : (List AV) → Option AV) : Option AV :=
  (bif ((decide ((a2.length : Int) > Aa)) && (decide ((a2.length : Int) > (1 : Int)))) then (bif (hd a2 (a2.length) && (hd a2 (a2.length) && true)) then (qky Bu (a2.length : Int) Aa Ab Bj a2 (fun v10q1 => (bif hd a2 a2.length then (oB (qsm a2 v10q1 (IntKind.i64.wrap (v10q1 + (1 : Int)))) fun r2 => (next r2)) else none)) FU (-1 : Int) (0 : Int)) else none) else (kx0 a2))
def qb5  (Bu : AV) (Aa : Int) (Ab : List AV) (Bj : Int) (kx0 : (List AV) → Option AV) : Nat → (List AV) → Option AV
  | 0 => (fun _ => none)
  | n + 1 => (fun a2 => qdm Bu Aa Ab Bj a2 (qb5 Bu Aa Ab Bj kx0 n) kx0)
def qqm := hull (qb5)
theorem qv9 : qqm = qb5 := qb _
def qym : SubB Tryd.prog (TIof Tryd.prog) 83 0 (kret [(.cell 6 true 2)] (decT [(.i .i64), (.sl 9)])) := lpB tabOk follows Tryd.f42 1151 (.s (.s (.r [(6, .g 3)] []) (.s .z (.v [.sel [3, 6, 8] [0, 1, 2]]))) (.b (.s .z (.s (.s .z (.b (.sub [.sel [3, 6, 7, 8, 10, 48, 49, 50] [0, 1, 2]] qyl []))) (.r [(4, .r (rB q6v))] [.sel [3, 6, 7, 8] [0, 1, 3]]))))) S50_ (qb5) (fun f v K n => f (v.f 30 0) (v.i 3 0) (v.l 3 1) (v.i 7 0) (qls (v.i 3 0) (v.l 3 1) (v.i 7 0) K) n) (fun v f K => qdm (v.f 30 0) (v.i 3 0) (v.l 3 1) (v.i 7 0) (v.r 2) f (qls (v.i 3 0) (v.l 3 1) (v.i 7 0) K)) (fun f v => f (v.r 2)) (fun k v => (fun z0 => k (v.ur 2 z0))) (by kernel_rfl) (fun _ _ => (by kernel_rfl)) (fun _ _ _ => (by kernel_rfl)) (fun _ _ _ => (by kernel_rfl)) (fun _ _ => (by kernel_rfl)) (fun _ _ _ _ _ => (by kernel_rfl))
def qjk (Ae : Int) (Af : List AV) (Ar : Int) (As : List UInt8) (At Au : Int) (Av : List AV) (Aw Ax Ay Az v2 : Int) : Option AV :=
  (oB (qz Af (.func qju [(.cptr [(.fv (.func qeu [(.cptr [(.int .i64 Ar), (.str As), (.int .i64 At), (.int .i64 Au), (.sl 13 Av), (.int .i64 Aw), (.int .i64 Ax), (.int .i64 Ay), (.int .i64 Az)])]))])])) fun r1 => (bif hd r1 r1.length then (oB (qbj r1 (.func qjv [(.cptr [(.int .i64 Ar), (.str As), (.int .i64 At), (.int .i64 Au), (.sl 13 Av), (.int .i64 Aw), (.int .i64 Ax), (.int .i64 Ay), (.int .i64 Az)])])) fun r2 => (bif (hd r1 (r1.length) && true) then (ql3 Ar As At Au Av Aw Ax Ay Az (.func qeu [(.cptr [(.int .i64 Ar), (.str As), (.int .i64 At), (.int .i64 Au), (.sl 13 Av), (.int .i64 Aw), (.int .i64 Ax), (.int .i64 Ay), (.int .i64 Az)])]) r2 Ae Af v2 (0 : Int) r1 (fun v9q3 => (bif hd r1 r1.length then (bif hd ([(.agg [(.int .i64 Ar), (.str As), (.int .i64 At), (.int .i64 Au), (.sl 13 Av), (.int .i64 Aw), (.int .i64 Ax), (.int .i64 Ay), (.int .i64 Az)])] : List AV) (([(.agg [(.int .i64 Ar), (.str As), (.int .i64 At), (.int .i64 Au), (.sl 13 Av), (.int .i64 Aw), (.int .i64 Ax), (.int .i64 Ay), (.int .i64 Az)])] : List AV).length) then (oB (qov 96 r1 v9q3 ([(.agg [(.int .i64 Ar), (.str As), (.int .i64 At), (.int .i64 Au), (.sl 13 Av), (.int .i64 Aw), (.int .i64 Ax), (.int .i64 Ay), (.int .i64 Az)])] : List AV)) fun r4 => (bif (hd r4 (r4.length) && true) then (qhz (.func qeu [(.cptr [(.int .i64 Ar), (.str As), (.int .i64 At), (.int .i64 Au), (.sl 13 Av), (.int .i64 Aw), (.int .i64 Ax), (.int .i64 Ay), (.int .i64 Az)])]) Ae Af v2 (0 : Int) r4 (fun a2q5 => (bif (hd a2q5 (a2q5.length) && true) then (qqm (.func qeu [(.cptr [(.int .i64 Ar), (.str As), (.int .i64 At), (.int .i64 Au), (.sl 13 Av), (.int .i64 Aw), (.int .i64 Ax), (.int .i64 Ay), (.int .i64 Az)])]) Ae Af (0 : Int) (fun a2q6 => (bif hd a2q6 a2q6.length then (oB (qbe Ae Af a2q6) fun r7 => (some (.agg [(.int .i64 (gI r7.cells 0)), (.sl 9 (gL r7.cells 1))]))) else none)) FU a2q5) else none))) else none)) else none) else none))) else none)) else none))
def qfs := hull qjk
theorem q3g : qfs = qjk := qb _
def qur {R : Type} : EntF Tryd.prog R := entB (nt := 83) (dec := (decT [(.i .i64), (.sl 9)])) (enc := (qd8 (.st [(.i .i64), (.sl 9)]))) tabOk follows Tryd.func42 [(.cell 6 true 2)] hdeT (.s .z (.s (.r [(0, .s (.cls 4))] []) (.s (.r [(2, .s (.cls 7)), (3, .c qbr.b)] []) (.s (.r [(2, .c qb9.b)] []) (.s (.sub [.sel [3, 4, 5, 6, 7, 8, 9] [0, 2, 3, 5]] qzu []) (.s (.r [(4, .r (rB q6t))] []) (.s (.sub [.sel [3, 5, 6, 7, 8] [0, 1, 2, 5]] qyj []) (.s (.b (.sub [.sel [3, 6, 7, 8] [0, 1, 2]] qym [])) (.s (.r [(2, .k qcg.b)] []) .z))))))))) S51_ qjk (fun f v => f (v.i 1 0) (v.l 1 1) (v.i 5 0) (v.s 5 1) (v.i 5 2) (v.i 5 3) (v.l 5 4) (v.i 5 5) (v.i 5 6) (v.i 5 7) (v.i 5 8) (v.i 8 0)) (by kernel_rfl) (by kernel_rfl) (by kernel_rfl) fun _ => (by kernel_rfl)
def qwa (x0 : List UInt8) (x1 x2 : Int) (x3 : List AV) : List AV := [.str x0, .int .i64 x1, .int .i64 x2, .sl 13 x3]
def S52_ : Shp := ⟨[(2, .one (.l (.i .i64))), (3, .one (.l (.i .i64))), (4, .one (.l (.i .i64))), (5, .one (.ptr 0 0)), (6, .cptr qdq), (10, .one (.ptr 1 0)), (11, .one (.l .fn))], [.box true [(.l (.i .i64)), (.l (.sl 9))], .box true [(.l (.i .i64)), (.l .nil)]]⟩
def S53_ : Shp := ⟨[(0, .st [(.l (.i .i64)), (.l (.sl 9))]), (1, .st (lk qdq)), (2, .one (.l (.i .i64))), (3, .one (.l (.i .i64))), (4, .one (.l (.i .i64)))], []⟩
def q06  (v2 v3 v4 : Int) (B5 : List UInt8) (B6 B7 : Int) (B8 : List AV) (Aa : Int) (Ab : List AV) (Bj : Int) (K : Ex → Env → Mem → Option AV) := (fun z_v31 => K .norm (qi [(2, (.int .i64 v2)), (3, (.int .i64 v3)), (4, (.int .i64 v4)), (5, (.ptr 0 0)), (6, .cptr (qwa B5 B6 B7 B8)), (10, (.ptr 1 0)), (31, (.bool z_v31))]) (qh [(some (.box true [(.int .i64 Aa), (.sl 9 Ab)])), (some (.box true [(.int .i64 Bj), .nils]))]))
def qio  (v2 v3 v4 : Int) (B5 : List UInt8) (B6 B7 : Int) (B8 : List AV) (v11 : AV) (Aa : Int) (Ab : List AV) (Bj : Int) (kn : Bool → Option AV) : Option AV :=
  (oB (qlx B5 B6 B7 B8) fun r1 => (bif (((!r1) || (decide (v4 < (0 : Int)))) || (decide (v4 > (4294967295 : Int)))) then (kn true) else (oB (qgl Aa Ab v2 v4 v11) fun r2 => (kn r2))))
def qpd := hull (qio)
theorem q07 : qpd = qio := qb _
def q3h : SubB Tryd.prog (TIof Tryd.prog) 55 0 (kret [(.cell 10 true 2)] (decT [(.i .i64), (.sl 9)])) := jnB tabOk follows Tryd.f15 19 (.r [(1, .c qzl.b), (4, .g 2), (8, .g 2), (16, .c qpb.b)] [.sel [2, 3, 4, 5, 6, 10, 31] [0, 1]]) S52_ (qio) (fun f v K => f (v.i 8 0) (v.i 12 0) (v.i 16 0) (v.s 26 0) (v.i 26 1) (v.i 26 2) (v.l 26 3) (v.f 44 0) (v.i 3 0) (v.l 3 1) (v.i 7 0) (q06 (v.i 8 0) (v.i 12 0) (v.i 16 0) (v.s 26 0) (v.i 26 1) (v.i 26 2) (v.l 26 3) (v.i 3 0) (v.l 3 1) (v.i 7 0) K)) (by kernel_rfl) (fun _ _ => (by kernel_rfl))
def qmr (Ae : Int) (Af : List AV) (Ar : List UInt8) (As At : Int) (Au : List AV) (v2 v3 v4 : Int) : Option AV :=
  (qpd v2 v3 v4 Ar As At Au (.func qij [(.cptr [(.str Ar), (.int .i64 As), (.int .i64 At), (.sl 13 Au)])]) Ae Af (0 : Int) (fun v31q1 => (bif v31q1 then (oB (qbe Ae Af Af) fun r2 => (some (.agg [(.int .i64 (gI r2.cells 0)), (.sl 9 (gL r2.cells 1))]))) else (oB (qz Af (.func ql1 [(.cptr [(.str Ar), (.int .i64 As), (.int .i64 At), (.sl 13 Au)])])) fun r3 => (oB (qqk At v4) fun r4 => (oB (qfs Ae r3 (0 : Int) Ar As At Au v2 v3 r4 v4 v4) fun r5 => (some (.agg [(.int .i64 (gI r5.cells 0)), (.sl 9 (gL r5.cells 1))]))))))))
def qfh := hull qmr
theorem q6w : qfh = qmr := qb _
def qms {R : Type} : EntF Tryd.prog R := entB (nt := 55) (dec := (decT [(.i .i64), (.sl 9)])) (enc := (qd8 (.st [(.i .i64), (.sl 9)]))) tabOk follows Tryd.func15 [(.cell 10 true 2)] hdeT (.s .z (.s (.r [(0, .s (.cls 6))] []) (.s (.s (.sub [.sel [2, 3, 4, 5, 6, 10, 11] [0, 2]] q3h []) (.s (.s (.r [(3, .k qcg.b)] []) .z) .z)) (.s (.d [] [(5, .c qbr.b)] [] []) (.s (.d [] [(7, .c qyw.b)] [(0, .k qur.b)] []) .z))))) S53_ qmr (fun f v => f (v.i 1 0) (v.l 1 1) (v.s 5 0) (v.i 5 1) (v.i 5 2) (v.l 5 3) (v.i 8 0) (v.i 12 0) (v.i 16 0)) (by kernel_rfl) (by kernel_rfl) (by kernel_rfl) fun _ => (by kernel_rfl)
def ql4 : Nat := 29
def ql5 : Nat := 32
def ql6 : Nat := 33
def S54_ : Shp := ⟨[(3, .one (.ptr 0 0)), (4, .cptr [.s, (.i .i64)]), (5, .cptr [(.i .i64)]), (6, .one (.ptr 1 0)), (7, .one (.ptr 2 0)), (9, .one (.l (.i .i64)))], [.box true [(.l (.i .i64)), (.l (.sl 9))], .box true [(.l (.i .i64)), (.l .nil)], .box true [(.l (.i .i64)), (.l .s), (.l (.i .i64)), (.l (.i .i64)), (.l .nil), (.l (.i .i64)), (.l (.i .i64)), (.l (.i .i64)), (.l (.i .i64))]]⟩
def S55_ : Shp := ⟨[(0, .st [(.l (.i .i64)), (.l (.sl 9))]), (1, .st [(.l .s), (.l (.i .i64))]), (2, .one (.l (.i .i64)))], []⟩
def qny : AV → Option (AV × AV × Bool) := decN [(.st [(.i .i64), (.sl 9)]), (.st [(.i .i64), .s, (.i .i64), (.i .i64), (.sl 13), (.i .i64), (.i .i64), (.i .i64), (.i .i64)]), (.one .b)] fun z => ((gC (tpL z) 0), (gC (tpL z) 1), aB (gC (tpL z) 2))
def q08  (Bl : List UInt8) (Bm B9 Aa : Int) (Ab : List AV) (Bj Bv : Int) (Ca : List UInt8) (Cb Cc Cd Ce Cf Cg : Int) (K : Ex → Env → Mem → Option (AV × AV × Bool)) := (fun z_v9 => K .norm (qi [(3, (.ptr 0 0)), (4, .cptr [(.str Bl), (.int .i64 Bm)]), (5, .cptr [(.int .i64 B9)]), (6, (.ptr 1 0)), (7, (.ptr 2 0)), (9, (.int .i64 z_v9))]) (qh [(some (.box true [(.int .i64 Aa), (.sl 9 Ab)])), (some (.box true [(.int .i64 Bj), .nils])), (some (.box true [(.int .i64 Bv), (.str Ca), (.int .i64 Cb), (.int .i64 Cc), .nils, (.int .i64 Cd), (.int .i64 Ce), (.int .i64 Cf), (.int .i64 Cg)]))]))
def qip  (Bl : List UInt8) (Bm B9 v9 Aa : Int) (Ab : List AV) (Bj Bv : Int) (Ca : List UInt8) (Cb Cc Cd Ce Cf Cg : Int) (kn : Int → Option (AV × AV × Bool)) : Option (AV × AV × Bool) :=
  (bif (decide (v9 < (0 : Int))) then (oB (qbj Ab (.func ql5 [(.cptr [(.int .i64 B9)]), (.cptr [(.str Bl), (.int .i64 Bm)])])) fun r1 => (kn r1)) else (kn v9))
def qkz := hull (qip)
theorem q09 : qkz = qip := qb _
def q3i : SubB Tryd.prog (TIof Tryd.prog) 57 0 (kret [(.cell 6 true 2), (.cell 7 true 9), .t 8] qny) := jnB tabOk follows Tryd.f12 11 (.s .z (.s (.r [(3, .c qb9.b)] [.sel [3, 4, 5, 6, 7, 9] [0, 1, 2]]) (.v [.sel [3, 4, 5, 6, 7, 9] [0, 1, 2]]))) S54_ (qip) (fun f v K => f (v.s 18 0) (v.i 18 1) (v.i 22 0) (v.i 36 0) (v.i 3 0) (v.l 3 1) (v.i 7 0) (v.i 11 0) (v.s 11 1) (v.i 11 2) (v.i 11 3) (v.i 11 5) (v.i 11 6) (v.i 11 7) (v.i 11 8) (q08 (v.s 18 0) (v.i 18 1) (v.i 22 0) (v.i 3 0) (v.l 3 1) (v.i 7 0) (v.i 11 0) (v.s 11 1) (v.i 11 2) (v.i 11 3) (v.i 11 5) (v.i 11 6) (v.i 11 7) (v.i 11 8) K)) (by kernel_rfl) (fun _ _ => (by kernel_rfl))
def qzv  (B9 Aa : Int) (Ab : List AV) (Bj Bv : Int) (Ca : List UInt8) (Cb Cc Cd Ce Cf Cg : Int) (K : Ex → Env → Mem → Option (AV × AV × Bool)) := (fun z_v9 => K .norm (qi [(3, (.ptr 0 0)), (5, .cptr [(.int .i64 B9)]), (6, (.ptr 1 0)), (7, (.ptr 2 0)), (9, (.int .i64 z_v9))]) (qh [(some (.box true [(.int .i64 Aa), (.sl 9 Ab)])), (some (.box true [(.int .i64 Bj), .nils])), (some (.box true [(.int .i64 Bv), (.str Ca), (.int .i64 Cb), (.int .i64 Cc), .nils, (.int .i64 Cd), (.int .i64 Ce), (.int .i64 Cf), (.int .i64 Cg)]))]))
def qh0  (Bl : List UInt8) (Bm B9 v9 Aa : Int) (Ab : List AV) (Bj Bv : Int) (Ca : List UInt8) (Cb Cc Cd Ce Cf Cg : Int) (kn : Int → Option (AV × AV × Bool)) : Option (AV × AV × Bool) :=
  (bif (decide (v9 < (0 : Int))) then (oB (qbj Ab (.func ql6 [(.cptr [(.int .i64 B9)]), (.cptr [(.str Bl), (.int .i64 Bm)])])) fun r1 => (kn r1)) else (kn v9))
def qjl := hull (qh0)
theorem qzw : qjl = qh0 := qb _
def q1a : SubB Tryd.prog (TIof Tryd.prog) 57 0 (kret [(.cell 6 true 2), (.cell 7 true 9), .t 8] qny) := jnB tabOk follows Tryd.f12 23 (.s .z (.s (.r [(3, .c qb9.b)] [.sel [3, 5, 6, 7, 9] [0, 1, 2]]) (.v [.sel [3, 5, 6, 7, 9] [0, 1, 2]]))) S54_ (qh0) (fun f v K => f (v.s 18 0) (v.i 18 1) (v.i 22 0) (v.i 36 0) (v.i 3 0) (v.l 3 1) (v.i 7 0) (v.i 11 0) (v.s 11 1) (v.i 11 2) (v.i 11 3) (v.i 11 5) (v.i 11 6) (v.i 11 7) (v.i 11 8) (qzv (v.i 22 0) (v.i 3 0) (v.l 3 1) (v.i 7 0) (v.i 11 0) (v.s 11 1) (v.i 11 2) (v.i 11 3) (v.i 11 5) (v.i 11 6) (v.i 11 7) (v.i 11 8) K)) (by kernel_rfl) (fun _ _ => (by kernel_rfl))
def qmt (Ae : Int) (Af : List AV) (Ar : List UInt8) (As v2 : Int) : Option (AV × AV × Bool) :=
  (oB (qbj Af (.func ql4 [(.cptr [(.int .i64 v2)]), (.cptr [(.str Ar), (.int .i64 As)])])) fun r1 => (qkz Ar As v2 r1 Ae Af (0 : Int) (0 : Int) ([] : List UInt8) (0 : Int) (0 : Int) (0 : Int) (0 : Int) (0 : Int) (0 : Int) (fun v9q2 => (qjl Ar As v2 v9q2 Ae Af (0 : Int) (0 : Int) ([] : List UInt8) (0 : Int) (0 : Int) (0 : Int) (0 : Int) (0 : Int) (0 : Int) (fun v9q3 => (oB (qbe Ae Af Af) fun r4 => (bif (decide (v9q3 < (0 : Int))) then (bif hd (gL r4.cells 1) ((gL r4.cells 1).length) then (some ((.agg [(.int .i64 (gI r4.cells 0)), (.sl 9 (gL r4.cells 1))]), (.agg [(.int .i64 (0 : Int)), (.str ([] : List UInt8)), (.int .i64 (0 : Int)), (.int .i64 (0 : Int)), (.sl 13 ([] : List AV)), (.int .i64 (0 : Int)), (.int .i64 (0 : Int)), (.int .i64 (0 : Int)), (.int .i64 (0 : Int))]), false)) else none) else (bif hd (gL r4.cells 1) ((gL r4.cells 1).length) then (bif decide (0 ≤ v9q3 ∧ v9q3 < ((gL r4.cells 1).length)) then (bif hd (gL r4.cells 1) ((gL r4.cells 1).length) then (bif hd (gL r4.cells 1) ((gL r4.cells 1).length) then (oB ((gL r4.cells 1)[v9q3.toNat]?) fun y5 => (oB (putE y5 8 1 [(.int .i64 v2)]) fun z6 => (bif hd ((gL r4.cells 1).set v9q3.toNat z6) ((gL r4.cells 1).length) then (bif decide (0 ≤ v9q3 ∧ v9q3 < ((gL r4.cells 1).length)) then (bif hd ((gL r4.cells 1).set v9q3.toNat z6) ((gL r4.cells 1).length) then (oB (((gL r4.cells 1).set v9q3.toNat z6)[v9q3.toNat]?) fun y7 => (oB (rdE y7 0 true 9) fun z8 => (bif fitV (.st qc) z8 then (oB (qff (gI z8.cells 0) (gS z8.cells 1) (gI z8.cells 2) (gI z8.cells 3) (gL z8.cells 4) (gI z8.cells 5) (gI z8.cells 6) (gI z8.cells 7) (gI z8.cells 8)) fun r9 => (bif hd ((gL r4.cells 1).set v9q3.toNat z6) ((gL r4.cells 1).length) then (some ((.agg [(.int .i64 (gI r4.cells 0)), (.sl 9 ((gL r4.cells 1).set v9q3.toNat z6))]), (.agg [(.int .i64 (gI r9.cells 0)), (.str (gS r9.cells 1)), (.int .i64 (gI r9.cells 2)), (.int .i64 (IntKind.i64.wrap ((gI r9.cells 7) - (if (0 : Int) > v2 then (0 : Int) else v2)))), (.sl 13 (gL r9.cells 4)), (.int .i64 (gI r9.cells 5)), (.int .i64 (gI r9.cells 6)), (.int .i64 (gI r9.cells 7)), (.int .i64 (gI r9.cells 8))]), true)) else none)) else none))) else none) else none) else none))) else none) else none) else none) else none))))))))
def qfi := hull qmt
theorem q6x : qfi = qmt := qb _
def qha {R : Type} : EntF Tryd.prog R := entB (nt := 57) (dec := qny) (enc := (fun r => .tup [qd8 (.st [(.i .i64), (.sl 9)]) r.1, qd8 (.st [(.i .i64), .s, (.i .i64), (.i .i64), (.sl 13), (.i .i64), (.i .i64), (.i .i64), (.i .i64)]) r.2.1, .bool r.2.2])) tabOk follows Tryd.func12 [(.cell 6 true 2), (.cell 7 true 9), .t 8] (hdeN fun _ => rfl) (.s .z (.s (.r [(2, .s (.cls 4)), (2, .s (.cls 5)), (3, .c qb9.b)] []) (.s (.sub [.sel [3, 4, 5, 6, 7, 9] [0, 3, 4]] q3i []) (.s (.sub [.sel [3, 4, 5, 6, 7, 9] [0, 1, 2]] q1a []) (.s (.r [(3, .c qcg.b)] []) (.s (.s .z (.s (.s .z (.v [.snapb 1, .nilc 2 4 13])) .z)) (.s .z (.s (.r [(4, .p (.eta 46 (.st qc))), (5, .k qrk.b)] []) (.s .z (.s .z (.v [.snapb 1]))))))))))) S55_ qmt (fun f v => f (v.i 1 0) (v.l 1 1) (v.s 5 0) (v.i 5 1) (v.i 8 0)) (by kernel_rfl) (by kernel_rfl) (by kernel_rfl) fun _ => (by kernel_rfl)
def qqn : Nat := 44
def qqo : Nat := 45
def qk0 : Nat := 46
def qh1 : Nat := 47
def S56_ : Shp := ⟨[(2, .one (.l .b)), (3, .one (.l (.i .i64))), (4, .one (.l (.i .i64))), (5, .one (.l (.i .i64))), (6, .one (.l (.i .i64))), (7, .one (.ptr 0 0)), (8, .one (.ptr 1 0)), (14, .one (.ptr 2 0))], [.box true [(.l (.i .i64)), (.l (.sl 9))], .box true [(.l .s), (.l (.i .i64))], .box true [(.l (.i .i64)), (.l .nil)]]⟩
def S57_ : Shp := ⟨[(2, .one (.l .b)), (4, .one (.l (.i .i64))), (6, .one (.l (.i .i64))), (7, .one (.ptr 0 0)), (8, .cptr [.s, (.i .i64)]), (14, .one (.ptr 1 0)), (15, .one (.ptr 2 0)), (16, .one (.l .fn)), (17, .one (.ptr 3 0))], [.box true [(.l (.i .i64)), (.l (.sl 9))], .box true [(.l (.i .i64)), (.l .nil)], .box true [(.l (.i .i64)), (.l .s), (.l (.i .i64)), (.l (.i .i64)), (.l .nil), (.l (.i .i64)), (.l (.i .i64)), (.l (.i .i64)), (.l (.i .i64))], .box true [(.l .fn)]]⟩
def S58_ : Shp := ⟨[(0, .st [(.l (.i .i64)), (.l (.sl 9))]), (1, .st [(.l .s), (.l (.i .i64))]), (2, .one (.l .b)), (3, .one (.l (.i .i64))), (4, .one (.l (.i .i64))), (5, .one (.l (.i .i64))), (6, .one (.l (.i .i64)))], []⟩
def qzx  (v2 : Bool) (v3 v4 v5 v6 Aa : Int) (Ab : List AV) (Bj : List UInt8) (Ch Bv : Int) (K : Ex → Env → Mem → Option AV) := (fun z_v47 => K .norm (qi [(2, (.bool v2)), (3, (.int .i64 v3)), (4, (.int .i64 v4)), (5, (.int .i64 v5)), (6, (.int .i64 v6)), (7, (.ptr 0 0)), (8, (.ptr 1 0)), (14, (.ptr 2 0)), (47, (.bool z_v47))]) (qh [(some (.box true [(.int .i64 Aa), (.sl 9 Ab)])), (some (.box true [(.str Bj), (.int .i64 Ch)])), (some (.box true [(.int .i64 Bv), .nils]))]))
def qh2  (v2 : Bool) (v3 v4 v5 v6 Aa : Int) (Ab : List AV) (Bj : List UInt8) (Ch Bv : Int) (kn : Bool → Option AV) : Option AV :=
  (oB (qcl Bj) fun r1 => (bif (((((!r1) || (decide (v3 < (1 : Int)))) || (decide (v3 > (2147483647 : Int)))) || (decide (v6 < (0 : Int)))) || (decide (v6 > (4294967295 : Int)))) then (kn true) else (bif (!v2) then (kn (decide (Ch < (1 : Int)))) else (kn false))))
def qnz := hull (qh2)
theorem qzy : qnz = qh2 := qb _
def q1b : SubB Tryd.prog (TIof Tryd.prog) 93 0 (kret [(.cell 14 true 2)] (decT [(.i .i64), (.sl 9)])) := jnB tabOk follows Tryd.f16 9 (.r [(2, .c qcv.b), (5, .g 2), (9, .g 2), (13, .g 2), (17, .g 2)] [.sel [2, 3, 4, 5, 6, 7, 8, 14, 47] [0, 1, 2]]) S56_ (qh2) (fun f v K => f (v.b 8 0) (v.i 12 0) (v.i 16 0) (v.i 20 0) (v.i 24 0) (v.i 3 0) (v.l 3 1) (v.s 7 0) (v.i 7 1) (v.i 11 0) (qzx (v.b 8 0) (v.i 12 0) (v.i 16 0) (v.i 20 0) (v.i 24 0) (v.i 3 0) (v.l 3 1) (v.s 7 0) (v.i 7 1) (v.i 11 0) K)) (by kernel_rfl) (fun _ _ => (by kernel_rfl))
def qyn  (v4 v6 Aa : Int) (Ab : List AV) (Bj : Int) (Ca : List UInt8) (Cc Cd Ce Cf Cg : Int) (K : Ex → Env → Mem → Option AV) := (fun z_v16 z_b2_0 z_b2_2 z_b3_0 => K .norm (qi [(4, (.int .i64 v4)), (6, (.int .i64 v6)), (7, (.ptr 0 0)), (14, (.ptr 1 0)), (15, (.ptr 2 0)), (16, (.fv z_v16)), (17, (.ptr 3 0))]) (qh [(some (.box true [(.int .i64 Aa), (.sl 9 Ab)])), (some (.box true [(.int .i64 Bj), .nils])), (some (.box true [(.int .i64 z_b2_0), (.str Ca), (.int .i64 z_b2_2), (.int .i64 Cc), .nils, (.int .i64 Cd), (.int .i64 Ce), (.int .i64 Cf), (.int .i64 Cg)])), (some (.box true [(.fv z_b3_0)]))]))
def qg0  (v2 : Bool) (v4 v6 : Int) (Ci : List UInt8) (Cj : Int) (v16 : AV) (Aa : Int) (Ab : List AV) (Bj Bv : Int) (Ca : List UInt8) (Cb Cc Cd Ce Cf Cg : Int) (Bw : AV) (kn : AV → Int → Int → AV → Option AV) : Option AV :=
  (bif v2 then (kn (.func qk0 [(.cptr [(.str Ci), (.int .i64 Cj)])]) (2 : Int) (0 : Int) (.func qk0 [(.cptr [(.str Ci), (.int .i64 Cj)])])) else (kn v16 Bv Cb Bw))
def qrz := hull (qg0)
theorem qyo : qrz = qg0 := qb _
def qzz : SubB Tryd.prog (TIof Tryd.prog) 93 0 (kret [(.cell 14 true 2)] (decT [(.i .i64), (.sl 9)])) := jnB tabOk follows Tryd.f16 95 (.s .z (.s (.s .z (.s .z (.v [.sel [4, 6, 7, 14, 15, 16, 17] [0, 1, 2, 3]]))) (.v [.sel [4, 6, 7, 14, 15, 16, 17] [0, 1, 2, 3]]))) S57_ (qg0) (fun f v K => f (v.b 8 0) (v.i 16 0) (v.i 24 0) (v.s 34 0) (v.i 34 1) (v.f 64 0) (v.i 3 0) (v.l 3 1) (v.i 7 0) (v.i 11 0) (v.s 11 1) (v.i 11 2) (v.i 11 3) (v.i 11 5) (v.i 11 6) (v.i 11 7) (v.i 11 8) (v.f 15 0) (qyn (v.i 16 0) (v.i 24 0) (v.i 3 0) (v.l 3 1) (v.i 7 0) (v.s 11 1) (v.i 11 3) (v.i 11 5) (v.i 11 6) (v.i 11 7) (v.i 11 8) K)) (by kernel_rfl) (fun _ _ => (by kernel_rfl))
def qk1 (Ae : Int) (Af : List AV) (Ar : List UInt8) (As : Int) (v2 : Bool) (v3 v4 v5 v6 : Int) : Option AV :=
  (qnz v2 v3 v4 v5 v6 Ae Af Ar As (0 : Int) (fun v47q1 => (bif v47q1 then (oB (qbe Ae Af Af) fun r2 => (some (.agg [(.int .i64 (gI r2.cells 0)), (.sl 9 (gL r2.cells 1))]))) else (oB (qqk v3 v6) fun r3 => (qrz v2 v4 v6 Ar As (.func qqn [(.cptr [(.str Ar), (.int .i64 As)])]) Ae Af (0 : Int) (1 : Int) Ar As v3 v4 v5 r3 v6 (.func qqo [(.cptr [(.str Ar), (.int .i64 As)])]) (fun v16q4 b2_0q5 b2_2q6 b3_0q7 => (oB (qgl Ae Af v4 v6 v16q4) fun r8 => (bif r8 then (oB (qbe Ae Af Af) fun r9 => (some (.agg [(.int .i64 (gI r9.cells 0)), (.sl 9 (gL r9.cells 1))]))) else (oB (qz Af (.func qh1 [(.cptr [(.fv b3_0q7)])])) fun r10 => (oB (qfs Ae r10 b2_0q5 Ar b2_2q6 v3 ([] : List AV) v4 v5 r3 v6 v6) fun r11 => (some (.agg [(.int .i64 (gI r11.cells 0)), (.sl 9 (gL r11.cells 1))]))))))))))))
def qk2 := hull qk1
theorem q50 : qk2 = qk1 := qb _
def qwb {R : Type} : EntF Tryd.prog R := entB (nt := 93) (dec := (decT [(.i .i64), (.sl 9)])) (enc := (qd8 (.st [(.i .i64), (.sl 9)]))) tabOk follows Tryd.func16 [(.cell 14 true 2)] hdeT (.s .z (.s (.s (.sub [.sel [2, 3, 4, 5, 6, 7, 8, 14] [0, 1, 2]] q1b []) (.s (.s (.r [(3, .k qcg.b)] []) .z) .z)) (.s (.d [] [(10, .c qyw.b)] [] []) (.s (.r [(0, .s (.cls 8))] []) (.s .z (.s (.sub [.sel [2, 4, 6, 7, 8, 14, 15, 16, 17] [0, 2, 3, 4]] qzz []) (.s (.s (.r [(4, .c qpb.b)] []) (.s (.s (.r [(3, .k qcg.b)] []) .z) .z)) (.s (.dv [.cls 17] [] [(5, .c qbr.b)] [] []) (.s (.r [(3, .k qur.b)] []) .z))))))))) S58_ qk1 (fun f v => f (v.i 1 0) (v.l 1 1) (v.s 5 0) (v.i 5 1) (v.b 8 0) (v.i 12 0) (v.i 16 0) (v.i 20 0) (v.i 24 0)) (by kernel_rfl) (by kernel_rfl) (by kernel_rfl) fun _ => (by kernel_rfl)
def S59_ : Shp := ⟨[(1, .one (.l .s)), (2, .one (.l (.i .i64))), (3, .one (.ptr 0 0)), (6, .one (.ptr 1 0)), (8, .one (.l (.i .i64))), (9, .one (.l (.i .i64))), (10, .one (.l (.i .i64))), (11, .one (.ptr 2 0)), (15, .one (.l (.sl 9))), (16, .one (.l (.i .i64))), (17, .one (.l (.i .i64)))], [.box true [(.l (.i .i64)), (.l (.sl 9))], .box true [(.l .s), (.l (.i .i64)), (.l (.i .i64)), (.l .nil)], .box true (lk qc)]⟩
def S60_ : Shp := ⟨[(1, .one (.l .s)), (2, .one (.l (.i .i64))), (3, .one (.ptr 0 0)), (6, .one (.ptr 1 0)), (8, .one (.l (.i .i64))), (9, .one (.l (.i .i64))), (15, .one (.l (.sl 9))), (16, .one (.l (.i .i64))), (17, .one (.l (.i .i64)))], [.box true [(.l (.i .i64)), (.l (.sl 9))], .box true [(.l .s), (.l (.i .i64)), (.l (.i .i64)), (.l .nil)]]⟩
def S61_ : Shp := ⟨[(0, .st [(.l (.i .i64)), (.l (.sl 9))]), (1, .one (.l .s)), (2, .one (.l (.i .i64)))], []⟩
def qiz : AV → Option (AV × Bool) := decN [(.st [.s, (.i .i64), (.i .i64), (.sl 13)]), (.one .b)] fun z => ((gC (tpL z) 0), aB (gC (tpL z) 1))
def qs6  (v1 : List UInt8) (v2 v8 v9 v10 : Int) (v15 : List AV) (v16 v17 Aa : Int) (Ab : List AV) (Bj : List UInt8) (Ch Ck Bv : Int) (Ca : List UInt8) (Cb Cc : Int) (Cl : List AV) (Cd Ce Cf Cg : Int) (K : Ex → Env → Mem → Option (AV × Bool)) := (fun z_v44 => K .norm (qi [(1, (.str v1)), (2, (.int .i64 v2)), (3, (.ptr 0 0)), (6, (.ptr 1 0)), (8, (.int .i64 v8)), (9, (.int .i64 v9)), (10, (.int .i64 v10)), (11, (.ptr 2 0)), (15, (.sl 9 v15)), (16, (.int .i64 v16)), (17, (.int .i64 v17)), (44, (.bool z_v44))]) (qh [(some (.box true [(.int .i64 Aa), (.sl 9 Ab)])), (some (.box true [(.str Bj), (.int .i64 Ch), (.int .i64 Ck), .nils])), (some (.box true (qpc Bv Ca Cb Cc Cl Cd Ce Cf Cg)))]))
def qhl  (v1 : List UInt8) (v2 v8 v9 v10 : Int) (v15 : List AV) (v16 v17 Aa : Int) (Ab : List AV) (Bj : List UInt8) (Ch Ck Bv : Int) (Ca : List UInt8) (Cb Cc : Int) (Cl : List AV) (Cd Ce Cf Cg : Int) (kn : Bool → Option (AV × Bool)) : Option (AV × Bool) :=
  (bif ((Bv != (0 : Int)) || (Cb != (2 : Int))) then (kn true) else (oB (qbh Bv Ca Cb Cc Cl Cd Ce Cf Cg v2) fun r1 => (bif (!r1) then (kn true) else (oB (qfr v1 Ca) fun r2 => (kn (!r2))))))
def qi0 := hull (qhl)
theorem qs7 : qi0 = qhl := qb _
def qu8 : SubB Tryd.prog (TIof Tryd.prog) 74 0 (kret [(.cell 6 true 4), .t 7] qiz) := jnB tabOk follows Tryd.f18 9419 (.r [(4, .g 4), (12, .c qb7.b), (20, .c qnw.b)] [.sel [1, 2, 3, 6, 8, 9, 10, 11, 15, 16, 17, 44] [0, 1, 2]]) S59_ (qhl) (fun f v K => f (v.s 4 0) (v.i 8 0) (v.i 32 0) (v.i 36 0) (v.i 40 0) (v.l 60 0) (v.i 64 0) (v.i 68 0) (v.i 3 0) (v.l 3 1) (v.s 7 0) (v.i 7 1) (v.i 7 2) (v.i 11 0) (v.s 11 1) (v.i 11 2) (v.i 11 3) (v.l 11 4) (v.i 11 5) (v.i 11 6) (v.i 11 7) (v.i 11 8) (qs6 (v.s 4 0) (v.i 8 0) (v.i 32 0) (v.i 36 0) (v.i 40 0) (v.l 60 0) (v.i 64 0) (v.i 68 0) (v.i 3 0) (v.l 3 1) (v.s 7 0) (v.i 7 1) (v.i 7 2) (v.i 11 0) (v.s 11 1) (v.i 11 2) (v.i 11 3) (v.l 11 4) (v.i 11 5) (v.i 11 6) (v.i 11 7) (v.i 11 8) K)) (by kernel_rfl) (fun _ _ => (by kernel_rfl))
def qk3  (v2 Aa : Int) (Ab : List AV) (Bj : List UInt8) (Ch Ck : Int) (K : Ex → Env → Mem → Option (AV × Bool)) := (fun z_v8 => K (.exit 0) (qi [(2, (.int .i64 v2)), (3, (.ptr 0 0)), (6, (.ptr 1 0)), (8, (.int .i64 z_v8))]) (qh [(some (.box true [(.int .i64 Aa), (.sl 9 Ab)])), (some (.box true [(.str Bj), (.int .i64 Ch), (.int .i64 Ck), .nils]))]))
def qea  (v1 : List UInt8) (v2 v8 v9 : Int) (v15 : List AV) (v16 v17 Aa : Int) (Ab : List AV) (Bj : List UInt8) (Ch Ck : Int) (next : Int → Int → Int → Option (AV × Bool)) (kx0 : Int → Option (AV × Bool)) : Option (AV × Bool) :=
  (bif (decide (v17 < v16)) then (oB (ixB v15 v17) fun y1 => (bif fitC qc y1.cells then (qi0 v1 v2 v8 v9 v17 v15 v16 v17 Aa Ab Bj Ch Ck (gI y1.cells 0) (gS y1.cells 1) (gI y1.cells 2) (gI y1.cells 3) (gL y1.cells 4) (gI y1.cells 5) (gI y1.cells 6) (gI y1.cells 7) (gI y1.cells 8) (fun v44q2 => (bif v44q2 then (next v8 v9 (IntKind.i64.wrap (v17 + (1 : Int)))) else (oB (qgk (gS y1.cells 1)) fun r3 => (bif (decide ((r3.length : Int) > v9)) then (next v17 (r3.length : Int) (IntKind.i64.wrap (v17 + (1 : Int)))) else (next v8 v9 (IntKind.i64.wrap (v17 + (1 : Int))))))))) else none)) else (kx0 v8))
def qeb  (v1 : List UInt8) (v2 : Int) (v15 : List AV) (v16 Aa : Int) (Ab : List AV) (Bj : List UInt8) (Ch Ck : Int) (kx0 : Int → Option (AV × Bool)) : Nat → Int → Int → Int → Option (AV × Bool)
  | 0 => (fun _ _ _ => none)
  | n + 1 => (fun v8 v9 v17 => qea v1 v2 v8 v9 v15 v16 v17 Aa Ab Bj Ch Ck (qeb v1 v2 v15 v16 Aa Ab Bj Ch Ck kx0 n) kx0)
def qpe := hull (qeb)
theorem qu9 : qpe = qeb := qb _
def qwc : SubB Tryd.prog (TIof Tryd.prog) 74 0 (kret [(.cell 6 true 4), .t 7] qiz) := lpB tabOk follows Tryd.f18 75 (.s .z (.s (.s .z (.v [.sel [2, 3, 6, 8] [0, 1]])) (.s (.b (.s (.r [(1, .p (.etac 20 qc))] []) (.s (.s (.sub [.sel [1, 2, 3, 6, 8, 9, 10, 11, 15, 16, 17] [0, 1, 2]] qu8 []) .z) (.s (.r [(3, .k qly.b)] []) .z)))) (.v [.sel [1, 2, 3, 6, 8, 9, 15, 16, 17] [0, 1]])))) S60_ (qeb) (fun f v K n => f (v.s 4 0) (v.i 8 0) (v.l 60 0) (v.i 64 0) (v.i 3 0) (v.l 3 1) (v.s 7 0) (v.i 7 1) (v.i 7 2) (qk3 (v.i 8 0) (v.i 3 0) (v.l 3 1) (v.s 7 0) (v.i 7 1) (v.i 7 2) K) n) (fun v f K => qea (v.s 4 0) (v.i 8 0) (v.i 32 0) (v.i 36 0) (v.l 60 0) (v.i 64 0) (v.i 68 0) (v.i 3 0) (v.l 3 1) (v.s 7 0) (v.i 7 1) (v.i 7 2) f (qk3 (v.i 8 0) (v.i 3 0) (v.l 3 1) (v.s 7 0) (v.i 7 1) (v.i 7 2) K)) (fun f v => f (v.i 32 0) (v.i 36 0) (v.i 68 0)) (fun k v => (fun z0 z1 z2 => k (((v.ui 32 0 z0).ui 36 0 z1).ui 68 0 z2))) (by kernel_rfl) (fun _ _ => (by kernel_rfl)) (fun _ _ _ => (by kernel_rfl)) (fun _ _ _ => (by kernel_rfl)) (fun _ _ => (by kernel_rfl)) (fun _ _ _ _ _ => (by kernel_rfl))
def qh3 (Ae : Int) (Af : List AV) (v1 : List UInt8) (v2 : Int) : Option (AV × Bool) :=
  (qpe v1 v2 Af (Af.length : Int) Ae Af ([] : List UInt8) (0 : Int) (0 : Int) (fun v8q1 => (bif (decide (v8q1 < (0 : Int))) then (some ((.agg [(.str ([] : List UInt8)), (.int .i64 (0 : Int)), (.int .i64 (0 : Int)), (.sl 13 ([] : List AV))]), false)) else (oB (ixB Af v8q1) fun y2 => (bif fitC qc y2.cells then (oB (qff (gI y2.cells 0) (gS y2.cells 1) (gI y2.cells 2) (gI y2.cells 3) (gL y2.cells 4) (gI y2.cells 5) (gI y2.cells 6) (gI y2.cells 7) (gI y2.cells 8)) fun r3 => (some ((.agg [(.str (gS r3.cells 1)), (.int .i64 (gI r3.cells 2)), (.int .i64 (IntKind.i64.wrap ((gI r3.cells 7) - (if (0 : Int) > v2 then (0 : Int) else v2)))), (.sl 13 (gL r3.cells 4))]), true))) else none)))) FU (-1 : Int) (-1 : Int) (0 : Int))
def qe4 := hull qh3
theorem qz0 : qe4 = qh3 := qb _
def qk4 {R : Type} : EntF Tryd.prog R := entB (nt := 74) (dec := qiz) (enc := (fun r => .tup [qd8 (.st [.s, (.i .i64), (.i .i64), (.sl 13)]) r.1, .bool r.2])) tabOk follows Tryd.func18 [(.cell 6 true 4), .t 7] (hdeN fun _ => rfl) (.s .z (.s .z (.s (.s .z (.b (.sub [.sel [1, 2, 3, 6, 8, 9, 15, 16, 17] [0, 1]] qwc []))) (.s (.s .z (.s (.s .z (.v [.nilc 1 3 13])) .z)) (.s (.r [(3, .p (.etac 62 qc)), (5, .k qrk.b)] []) .z))))) S61_ qh3 (fun f v => f (v.i 1 0) (v.l 1 1) (v.s 4 0) (v.i 8 0)) (by kernel_rfl) (by kernel_rfl) (by kernel_rfl) fun _ => (by kernel_rfl)
def qjx : Nat := 49
def S62_ : Shp := ⟨[(0, .st [(.l (.i .i64)), (.l (.sl 9))]), (1, .one (.l .s))], []⟩
def qjm (Ae : Int) (Af : List AV) (v1 : List UInt8) : Option AV :=
  (oB (qz Af (.func qjx [(.cptr [(.str v1)])])) fun r1 => (oB (qbe Ae Af r1) fun r2 => (some (.agg [(.int .i64 (gI r2.cells 0)), (.sl 9 (gL r2.cells 1))]))))
def qc9 := hull qjm
theorem q3j : qc9 = qjm := qb _
def qn0 {R : Type} : EntF Tryd.prog R := entB (nt := 11) (dec := (decT [(.i .i64), (.sl 9)])) (enc := (qd8 (.st [(.i .i64), (.sl 9)]))) tabOk follows Tryd.func19 [(.cell 4 true 2)] hdeT (.s .z (.s (.dv [.cls 3] [] [(4, .c qbr.b)] [(0, .k qcg.b)] []) .z)) S62_ qjm (fun f v => f (v.i 1 0) (v.l 1 1) (v.s 4 0)) (by kernel_rfl) (by kernel_rfl) (by kernel_rfl) fun _ => (by kernel_rfl)
def qjy : Nat := 48
def S63_ : Shp := ⟨[(0, .st [(.l (.i .i64)), (.l (.sl 9))]), (1, .one (.l (.i .i64)))], []⟩
def qjn (Ae : Int) (Af : List AV) (v1 : Int) : Option AV :=
  (oB (qz Af (.func qjy [(.cptr [(.int .i64 v1)])])) fun r1 => (oB (qbe Ae Af r1) fun r2 => (some (.agg [(.int .i64 (gI r2.cells 0)), (.sl 9 (gL r2.cells 1))]))))
def qen := hull qjn
theorem q3k : qen = qjn := qb _
def qn1 {R : Type} : EntF Tryd.prog R := entB (nt := 11) (dec := (decT [(.i .i64), (.sl 9)])) (enc := (qd8 (.st [(.i .i64), (.sl 9)]))) tabOk follows Tryd.func17 [(.cell 4 true 2)] hdeT (.s .z (.s (.dv [.cls 3] [] [(4, .c qbr.b)] [(0, .k qcg.b)] []) .z)) S63_ qjn (fun f v => f (v.i 1 0) (v.l 1 1) (v.i 4 0)) (by kernel_rfl) (by kernel_rfl) (by kernel_rfl) fun _ => (by kernel_rfl)
def S64_ : Shp := ⟨[(1, .one (.ptr 0 0)), (2, .one (.l (.i .i64))), (4, .one (.l (.i .i64))), (6, .one (.ptr 1 0)), (7, .one (.l .b)), (10, .one (.l .b))], [.box true [(.l (.i .i64)), (.l (.sl 9))], .box true (lk qc)]⟩
def qr0  (Aa : Int) (Ab : List AV) (K : Ex → Env → Mem → Option Bool) := (fun z_v73 => K .norm (qi [(1, (.ptr 0 0)), (73, (.bool z_v73))]) (qh [(some (.box true [(.int .i64 Aa), (.sl 9 Ab)]))]))
def qej  (v2 v4 : Int) (v7 v10 : Bool) (Aa : Int) (Ab : List AV) (Bj : Int) (Ch : List UInt8) (Ck Cm : Int) (Cn : List AV) (Co Cp Cq Cr : Int) (kn : Bool → Option Bool) : Option Bool :=
  (bif (v2 != (0 : Int)) then (kn true) else (bif (v4 != (1 : Int)) then (kn true) else (bif (!v7) then (kn true) else (bif (Cm != (20 : Int)) then (kn true) else (bif (Co != (5 : Int)) then (kn true) else (bif v10 then (kn true) else (oB (qkl ([97, 46, 101, 120, 97, 109, 112, 108, 101, 46] : List UInt8) (9 : Int)) fun r1 => (oB (qfh Aa Ab (gS r1.cells 0) (gI r1.cells 1) (gI r1.cells 2) (gL r1.cells 3) (3 : Int) (0 : Int) (100 : Int)) fun r2 => (kn (((gL r2.cells 1).length : Int) != (1 : Int)))))))))))
def qm6 := hull (qej)
theorem qr1 : qm6 = qej := qb _
def qs8 : SubB Tryd.prog (TIof Tryd.prog) 133 0 (kret [.t 0] decB) := jnB tabOk follows Tryd.f8 319 (.d [] [(26, .c qrr.b)] [(0, .k qms.b)] [.sel [1, 73] [0]]) S64_ (qej) (fun f v K => f (v.i 8 0) (v.i 16 0) (v.b 28 0) (v.b 40 0) (v.i 3 0) (v.l 3 1) (v.i 7 0) (v.s 7 1) (v.i 7 2) (v.i 7 3) (v.l 7 4) (v.i 7 5) (v.i 7 6) (v.i 7 7) (v.i 7 8) (qr0 (v.i 3 0) (v.l 3 1) K)) (by kernel_rfl) (fun _ _ => (by kernel_rfl))
def qg1 : Option Bool :=
  (oB (qj2 (2 : Int)) fun r1 => (oB (qj2 (0 : Int)) fun r2 => (oB (qkl ([97, 46, 101, 120, 97, 109, 112, 108, 101, 46] : List UInt8) (60 : Int)) fun r3 => (oB (qfh (gI r1.1.cells 0) ([] : List AV) (gS r3.cells 0) (gI r3.cells 1) (gI r3.cells 2) (gL r3.cells 3) (5 : Int) (0 : Int) (100 : Int)) fun r4 => (oB (qfi (gI r4.cells 0) (gL r4.cells 1) ([97, 46, 101, 120, 97, 109, 112, 108, 101, 46] : List UInt8) (1 : Int) (140 : Int)) fun r5 => (oB (qfi (gI r4.cells 0) (gL r4.cells 1) ([97, 46, 101, 120, 97, 109, 112, 108, 101, 46] : List UInt8) (1 : Int) (160 : Int)) fun r6 => (qm6 r1.2 r2.2 r5.2.2 r6.2.2 (gI r4.cells 0) (gL r4.cells 1) (gI r5.2.1.cells 0) (gS r5.2.1.cells 1) (gI r5.2.1.cells 2) (gI r5.2.1.cells 3) (gL r5.2.1.cells 4) (gI r5.2.1.cells 5) (gI r5.2.1.cells 6) (gI r5.2.1.cells 7) (gI r5.2.1.cells 8) (fun v73q7 => (bif v73q7 then (some false) else (oB (qk2 (gI r4.cells 0) (gL r4.cells 1) ([98, 46] : List UInt8) (0 : Int) true (30 : Int) (5 : Int) (0 : Int) (100 : Int)) fun r8 => (oB (qfi (gI r8.cells 0) (gL r8.cells 1) ([98, 46] : List UInt8) (2 : Int) (100 : Int)) fun r9 => (bif hd ([(.agg [(.bool false), (.int .u64 (0 : Int)), (.int .u64 (0 : Int)), (.str ([97, 46] : List UInt8)), (.str ([] : List UInt8)), (.str ([] : List UInt8)), (.int .i64 (0 : Int)), (.int .i64 (0 : Int)), (.int .i64 (0 : Int)), (.int .i64 (0 : Int)), (.int .i64 (0 : Int)), (.int .i64 (0 : Int)), (.int .u64 (0 : Int))])] : List AV) (([(.agg [(.bool false), (.int .u64 (0 : Int)), (.int .u64 (0 : Int)), (.str ([97, 46] : List UInt8)), (.str ([] : List UInt8)), (.str ([] : List UInt8)), (.int .i64 (0 : Int)), (.int .i64 (0 : Int)), (.int .i64 (0 : Int)), (.int .i64 (0 : Int)), (.int .i64 (0 : Int)), (.int .i64 (0 : Int)), (.int .u64 (0 : Int))])] : List AV).length) then (oB (qfh (gI r8.cells 0) (gL r8.cells 1) ([101, 120, 97, 109, 112, 108, 101, 46] : List UInt8) (2 : Int) (60 : Int) ([(.agg [(.bool false), (.int .u64 (0 : Int)), (.int .u64 (0 : Int)), (.str ([97, 46] : List UInt8)), (.str ([] : List UInt8)), (.str ([] : List UInt8)), (.int .i64 (0 : Int)), (.int .i64 (0 : Int)), (.int .i64 (0 : Int)), (.int .i64 (0 : Int)), (.int .i64 (0 : Int)), (.int .i64 (0 : Int)), (.int .u64 (0 : Int))])] : List AV) (5 : Int) (0 : Int) (100 : Int)) fun r10 => (oB (qe4 (gI r10.cells 0) (gL r10.cells 1) ([97, 46, 101, 120, 97, 109, 112, 108, 101, 46] : List UInt8) (110 : Int)) fun r11 => (bif (((((r9.2.2 && ((gI r9.2.1.cells 0) == (2 : Int))) && (((gL r8.cells 1).length : Int) == (2 : Int))) && r11.2) && ((gS r11.1.cells 0) == ([101, 120, 97, 109, 112, 108, 101, 46] : List UInt8))) && ((gI r11.1.cells 2) == (50 : Int))) then (oB (qc9 (gI r8.cells 0) (gL r8.cells 1) ([46] : List UInt8)) fun r12 => (bif (((gL r12.cells 1).length : Int) == (0 : Int)) then (oB (qen (gI r8.cells 0) (gL r8.cells 1) (130 : Int)) fun r13 => (some (((gL r13.cells 1).length : Int) == (1 : Int)))) else (some false))) else (some false)))) else none))))))))))))
def qd1 := hull qg1
theorem qyp : qd1 = qg1 := qb _
def qz1 {R : Type} : EntF Tryd.prog R := entB (nt := 133) (dec := decB) (enc := AV.bool) tabOk follows Tryd.func8 [.t 0] hdeB (.s .z (.s (.r [(0, .c qre.b)] []) (.s (.r [(0, .c qre.b)] []) (.s (.d [] [(1, .c qrr.b)] [(0, .k qms.b)] []) (.s (.r [(2, .k qha.b)] []) (.s (.r [(2, .k qha.b)] []) (.s (.s (.sub [.sel [1, 2, 4, 6, 7, 10] [0, 3]] qs8 []) .z) (.s (.r [(2, .k qwb.b)] []) (.s (.r [(2, .k qha.b)] []) (.s .z (.s (.r [(2, .k qms.b), (3, .k qk4.b)] []) (.s (.r [(2, .g 3), (7, .g 4), (13, .g 1), (16, .g 3), (21, .g 3), (27, .k qn0.b), (34, .k qn1.b)] []) .z)))))))))))) (⟨[], []⟩ : Shp) qg1 (fun f v => f) (by kernel_rfl) (by kernel_rfl) (by kernel_rfl) fun _ => (by kernel_rfl)
def ql7 : List LT := [(.i .i64), .s, (.i .i64), (.i .i64), .op, .s, (.i .i64), .b, (.i .i64), (.i .i64), (.i .i64)]
def S65_ : Shp := ⟨[(1, .one (.ptr 0 0)), (2, .one (.ptr 1 0)), (3, .one (.own 2)), (4, .one (.l (.i .i64)))], [.box true (lk qdq), .box true [(.l .s), (.l (.i .i64)), (.l (.i .i64)), (.l .nil)], .arr true 13]⟩
def qi3  (Aa : List UInt8) (Ab Ac : Int) (Ad : List AV) (Bj : List UInt8) (Ch Ck : Int) (K : Ex → Env → Mem → Option AV) := (fun z_a2 => K (.exit 0) (qi [(1, (.ptr 0 0)), (2, (.ptr 1 0)), (3, (.own 2 z_a2.length))]) (qh [(some (.box true (qwa Aa Ab Ac Ad))), (some (.box true [(.str Bj), (.int .i64 Ch), (.int .i64 Ck), .nils])), (some (.arr true 13 z_a2))]))
def qdf  (v4 : Int) (Aa : List UInt8) (Ab Ac : Int) (Ad : List AV) (Bj : List UInt8) (Ch Ck : Int) (a2 : List AV) (next : Int → (List AV) → Option AV) (kx0 : (List AV) → Option AV) : Option AV :=
  (bif ((decide (v4 < (Ad.length : Int))) && (decide (v4 < (10 : Int)))) then (oB (ixB Ad v4) fun y1 => (bif fitC qbn y1.cells then (oB (cutI (gS y1.cells 3) none (some (if (300 : Int) < ((gS y1.cells 3).length : Int) then (300 : Int) else ((gS y1.cells 3).length : Int)))) fun s2 => (oB (cutI (gS y1.cells 4) none (some (if (300 : Int) < ((gS y1.cells 4).length : Int) then (300 : Int) else ((gS y1.cells 4).length : Int)))) fun s3 => (oB (cutI (gS y1.cells 5) none (some (if (300 : Int) < ((gS y1.cells 5).length : Int) then (300 : Int) else ((gS y1.cells 5).length : Int)))) fun s4 => (bif hd a2 a2.length then (bif hd ([(.agg [(.bool (gB y1.cells 0)), (.int .u64 (gI y1.cells 1)), (.int .u64 (gI y1.cells 2)), (.str s2), (.str s3), (.str s4), (.int .i64 (gI y1.cells 6)), (.int .i64 (gI y1.cells 7)), (.int .i64 (gI y1.cells 8)), (.int .i64 (gI y1.cells 9)), (.int .i64 (gI y1.cells 10)), (.int .i64 (gI y1.cells 11)), (.int .u64 (gI y1.cells 12))])] : List AV) (([(.agg [(.bool (gB y1.cells 0)), (.int .u64 (gI y1.cells 1)), (.int .u64 (gI y1.cells 2)), (.str s2), (.str s3), (.str s4), (.int .i64 (gI y1.cells 6)), (.int .i64 (gI y1.cells 7)), (.int .i64 (gI y1.cells 8)), (.int .i64 (gI y1.cells 9)), (.int .i64 (gI y1.cells 10)), (.int .i64 (gI y1.cells 11)), (.int .u64 (gI y1.cells 12))])] : List AV).length) then (bif decide ((a2.length + ([(.agg [(.bool (gB y1.cells 0)), (.int .u64 (gI y1.cells 1)), (.int .u64 (gI y1.cells 2)), (.str s2), (.str s3), (.str s4), (.int .i64 (gI y1.cells 6)), (.int .i64 (gI y1.cells 7)), (.int .i64 (gI y1.cells 8)), (.int .i64 (gI y1.cells 9)), (.int .i64 (gI y1.cells 10)), (.int .i64 (gI y1.cells 11)), (.int .u64 (gI y1.cells 12))])] : List AV).length) * 128 ≤ 140737488355328) then (next (IntKind.i64.wrap (v4 + (1 : Int))) (a2 ++ ([(.agg [(.bool (gB y1.cells 0)), (.int .u64 (gI y1.cells 1)), (.int .u64 (gI y1.cells 2)), (.str s2), (.str s3), (.str s4), (.int .i64 (gI y1.cells 6)), (.int .i64 (gI y1.cells 7)), (.int .i64 (gI y1.cells 8)), (.int .i64 (gI y1.cells 9)), (.int .i64 (gI y1.cells 10)), (.int .i64 (gI y1.cells 11)), (.int .u64 (gI y1.cells 12))])] : List AV))) else none) else none) else none)))) else none)) else (kx0 a2))
def qcn  (Aa : List UInt8) (Ab Ac : Int) (Ad : List AV) (Bj : List UInt8) (Ch Ck : Int) (kx0 : (List AV) → Option AV) : Nat → Int → (List AV) → Option AV
  | 0 => (fun _ _ => none)
  | n + 1 => (fun v4 a2 => qdf v4 Aa Ab Ac Ad Bj Ch Ck a2 (qcn Aa Ab Ac Ad Bj Ch Ck kx0 n) kx0)
def qm7 := hull (qcn)
theorem qr2 : qm7 = qcn := qb _
def qs9 : SubB Tryd.prog (TIof Tryd.prog) 61 0 (kret [(.cell 2 true 4)] (decT [.s, (.i .i64), (.i .i64), (.fr true 13)])) := lpB tabOk follows Tryd.f13 151 (.s (.s (.r [(6, .g 2)] []) (.s .z (.v [.sel [1, 2, 3] [0, 1, 2]]))) (.s (.b (.s (.r [(3, .p (.etac 28 qbn))] []) .z)) (.v [.sel [1, 2, 3, 4] [0, 1, 2]]))) S65_ (qcn) (fun f v K n => f (v.s 3 0) (v.i 3 1) (v.i 3 2) (v.l 3 3) (v.s 7 0) (v.i 7 1) (v.i 7 2) (qi3 (v.s 3 0) (v.i 3 1) (v.i 3 2) (v.l 3 3) (v.s 7 0) (v.i 7 1) (v.i 7 2) K) n) (fun v f K => qdf (v.i 16 0) (v.s 3 0) (v.i 3 1) (v.i 3 2) (v.l 3 3) (v.s 7 0) (v.i 7 1) (v.i 7 2) (v.r 2) f (qi3 (v.s 3 0) (v.i 3 1) (v.i 3 2) (v.l 3 3) (v.s 7 0) (v.i 7 1) (v.i 7 2) K)) (fun f v => f (v.i 16 0) (v.r 2)) (fun k v => (fun z0 z1 => k ((v.ui 16 0 z0).ur 2 z1))) (by kernel_rfl) (fun _ _ => (by kernel_rfl)) (fun _ _ _ => (by kernel_rfl)) (fun _ _ _ => (by kernel_rfl)) (fun _ _ => (by kernel_rfl)) (fun _ _ _ _ _ => (by kernel_rfl))
def qg2 (Ae : List UInt8) (Af Ag : Int) (Ah : List AV) : Option AV :=
  (oB (cutI Ae none (some (if (300 : Int) < (Ae.length : Int) then (300 : Int) else (Ae.length : Int)))) fun s1 => (bif (hd ([] : List AV) (([] : List AV).length) && true) then (qm7 s1 Af Ag Ah ([] : List UInt8) (0 : Int) (0 : Int) (fun a2q2 => (bif hd a2q2 a2q2.length then (some (.agg [(.str s1), (.int .i64 Af), (.int .i64 Ag), (.fr true 13 a2q2)])) else none)) FU (0 : Int) ([] : List AV)) else none))
def ql8 := hull qg2
theorem qyq : ql8 = qg2 := qb _
def qz2 {R : Type} : EntF Tryd.prog R := entB (nt := 61) (dec := (decT [.s, (.i .i64), (.i .i64), (.fr true 13)])) (enc := (qd8 (.st [.s, (.i .i64), (.i .i64), (.fr true 13)]))) tabOk follows Tryd.func13 [(.cell 2 true 4)] hdeT (.s .z (.s .z (.s .z (.s (.s .z (.b (.sub [.own 3 13, .sel [1, 2, 3, 4] [0, 1, 2]] qs9 []))) .z)))) S3_ qg2 (fun f v => f (v.s 1 0) (v.i 1 1) (v.i 1 2) (v.l 1 3)) (by kernel_rfl) (by kernel_rfl) (by kernel_rfl) fun _ => (by kernel_rfl)
def qep : List LT := [(.i .i64), .s, (.i .i64), (.i .i64), (.sl 13), .s, (.i .i64), .b, (.i .i64), (.i .i64), (.i .i64)]
def S66_ : Shp := ⟨[(0, .st [(.l (.i .i64)), (.l (.sl 9))]), (1, .st (lk qep))], []⟩
def qiq (Ae : Int) (Af : List AV) (Ar : Int) (As : List UInt8) (At Au : Int) (Av : List AV) (Aw : List UInt8) (Ax : Int) (Ay : Bool) (Az A0 A1 : Int) : Option AV :=
  (oB (ql8 As At Au Av) fun r1 => (oB (cutI Aw none (some (if (300 : Int) < (Aw.length : Int) then (300 : Int) else (Aw.length : Int)))) fun s2 => (bif (Ar == (0 : Int)) then (oB (qfh Ae Af (gS r1.cells 0) (gI r1.cells 1) (gI r1.cells 2) (gL r1.cells 3) Az A0 A1) fun r3 => (some (.agg [(.int .i64 (gI r3.cells 0)), (.sl 9 (gL r3.cells 1))]))) else (bif (Ar == (1 : Int)) then (oB (qk2 Ae Af s2 Ax Ay (gI r1.cells 2) Az A0 A1) fun r4 => (some (.agg [(.int .i64 (gI r4.cells 0)), (.sl 9 (gL r4.cells 1))]))) else (bif (Ar == (2 : Int)) then (oB (qfi Ae Af s2 Ax A1) fun r5 => (some (.agg [(.int .i64 (gI r5.1.cells 0)), (.sl 9 (gL r5.1.cells 1))]))) else (bif (Ar == (4 : Int)) then (oB (qc9 Ae Af s2) fun r6 => (some (.agg [(.int .i64 (gI r6.cells 0)), (.sl 9 (gL r6.cells 1))]))) else (bif (Ar == (5 : Int)) then (oB (qen Ae Af A1) fun r7 => (some (.agg [(.int .i64 (gI r7.cells 0)), (.sl 9 (gL r7.cells 1))]))) else (some (.agg [(.int .i64 Ae), (.sl 9 Af)])))))))))
def qk5 := hull qiq
theorem q1c : qk5 = qiq := qb _
def q3l {R : Type} : EntF Tryd.prog R := entB (nt := 80) (dec := (decT [(.i .i64), (.sl 9)])) (enc := (qd8 (.st [(.i .i64), (.sl 9)]))) tabOk follows Tryd.func22 [(.cell 4 true 2)] hdeT (.s .z (.s (.r [(2, .k qz2.b)] []) (.s .z (.s .z (.s (.s .z (.b (.s .z (.s (.s (.r [(8, .k qms.b)] []) .z) (.s .z (.s (.s (.r [(12, .k qwb.b)] []) .z) (.s .z (.s (.s (.r [(4, .k qha.b)] []) .z) (.s .z (.s (.s (.r [(2, .k qn0.b)] []) .z) (.s .z (.s (.s (.r [(3, .k qn1.b)] []) .z) .z)))))))))))) .z))))) S66_ qiq (fun f v => f (v.i 1 0) (v.l 1 1) (v.i 5 0) (v.s 5 1) (v.i 5 2) (v.i 5 3) (v.l 5 4) (v.s 5 5) (v.i 5 6) (v.b 5 7) (v.i 5 8) (v.i 5 9) (v.i 5 10)) (by kernel_rfl) (by kernel_rfl) (by kernel_rfl) fun _ => (by kernel_rfl)
def S67_ : Shp := ⟨[(1, .one (.l (.sl 11))), (4, .one (.ptr 0 0)), (5, .one (.ptr 1 0)), (7, .one (.l (.i .i64)))], [.box true [(.l (.i .i64)), (.l .nil)], .box true [(.l (.i .i64)), (.l (.sl 9))]]⟩
def S68_ : Shp := ⟨[(0, .one (.l (.i .i64))), (1, .one (.l (.sl 11)))], []⟩
def qk6  (Aa : Int) (K : Ex → Env → Mem → Option AV) := (fun z_b1_0 z_b1_1 => K (.exit 0) (qi [(4, (.ptr 0 0)), (5, (.ptr 1 0))]) (qh [(some (.box true [(.int .i64 Aa), .nils])), (some (.box true [(.int .i64 z_b1_0), (.sl 9 z_b1_1)]))]))
def qc5  (v1 : List AV) (v7 Aa Bj : Int) (Ch : List AV) (next : Int → Int → (List AV) → Option AV) (kx0 : Int → (List AV) → Option AV) : Option AV :=
  (bif ((decide (v7 < (v1.length : Int))) && (decide (v7 < (30 : Int)))) then (oB (ixB v1 v7) fun y1 => (bif fitC ql7 y1.cells then (bif fitV (.st qep) (.agg [(.int .i64 (gI y1.cells 0)), (.str (gS y1.cells 1)), (.int .i64 (gI y1.cells 2)), (.int .i64 (gI y1.cells 3)), (gC y1.cells 4), (.str (gS y1.cells 5)), (.int .i64 (gI y1.cells 6)), (.bool (gB y1.cells 7)), (.int .i64 (gI y1.cells 8)), (.int .i64 (gI y1.cells 9)), (.int .i64 (gI y1.cells 10))]) then (oB (qk5 Bj Ch (gI y1.cells 0) (gS y1.cells 1) (gI y1.cells 2) (gI y1.cells 3) (aL (gC y1.cells 4)) (gS y1.cells 5) (gI y1.cells 6) (gB y1.cells 7) (gI y1.cells 8) (gI y1.cells 9) (gI y1.cells 10)) fun r2 => (next (IntKind.i64.wrap (v7 + (1 : Int))) (gI r2.cells 0) (gL r2.cells 1))) else none) else none)) else (kx0 Bj Ch))
def qc6  (v1 : List AV) (Aa : Int) (kx0 : Int → (List AV) → Option AV) : Nat → Int → Int → (List AV) → Option AV
  | 0 => (fun _ _ _ => none)
  | n + 1 => (fun v7 Bj Ch => qc5 v1 v7 Aa Bj Ch (qc6 v1 Aa kx0 n) kx0)
def qpf := hull (qc6)
theorem qva : qpf = qc6 := qb _
def qwd : SubB Tryd.prog (TIof Tryd.prog) 30 0 (kret [(.cell 4 true 2)] (decT [(.i .i64), (.sl 9)])) := lpB tabOk follows Tryd.f9 75 (.s (.s (.r [(5, .g 2)] []) (.s .z (.v [.sel [4, 5] [0, 1]]))) (.s (.b (.d [] [(3, .e 26 ql7)] [(0, .s (.eta 27 (.st qep))), (0, .k q3l.b)] [])) (.v [.sel [1, 4, 5, 7] [0, 1]]))) S67_ (qc6) (fun f v K n => f (v.l 4 0) (v.i 3 0) (qk6 (v.i 3 0) K) n) (fun v f K => qc5 (v.l 4 0) (v.i 28 0) (v.i 3 0) (v.i 7 0) (v.l 7 1) f (qk6 (v.i 3 0) K)) (fun f v => f (v.i 28 0) (v.i 7 0) (v.l 7 1)) (fun k v => (fun z0 z1 z2 => k (((v.ui 28 0 z0).ui 7 0 z1).ul 7 1 z2))) (by kernel_rfl) (fun _ _ => (by kernel_rfl)) (fun _ _ _ => (by kernel_rfl)) (fun _ _ _ => (by kernel_rfl)) (fun _ _ => (by kernel_rfl)) (fun _ _ _ _ _ => (by kernel_rfl))
def qh4 (v0 : Int) (v1 : List AV) : Option AV :=
  (oB (qj2 v0) fun r1 => (qpf v1 (0 : Int) (fun b1_0q2 b1_1q3 => (some (.agg [(.int .i64 b1_0q2), (.sl 9 b1_1q3)]))) FU (0 : Int) (gI r1.1.cells 0) ([] : List AV)))
def qn2 := hull qh4
theorem qz3 : qn2 = qh4 := qb _
def q1d {R : Type} : EntF Tryd.prog R := entB (nt := 30) (dec := (decT [(.i .i64), (.sl 9)])) (enc := (qd8 (.st [(.i .i64), (.sl 9)]))) tabOk follows Tryd.func9 [(.cell 4 true 2)] hdeT (.s .z (.s (.r [(1, .c qre.b)] []) (.s (.s .z (.b (.sub [.nilc 1 1 9, .sel [1, 4, 5, 7] [0, 1]] qwd []))) .z))) S68_ qh4 (fun f v => f (v.i 0 0) (v.l 4 0)) (by kernel_rfl) (by kernel_rfl) (by kernel_rfl) fun _ => (by kernel_rfl)
def S72_ : Shp := ⟨[(2, .one (.ptr 0 0)), (3, .one (.ptr 1 0)), (36, .one (.l (.i .i64))), (37, .one (.l (.i .i64)))], [.box true (lk qdq), .box true (lk qdq)]⟩
def S73_ : Shp := ⟨[(0, .st (lk qdq)), (1, .st (lk qdq))], []⟩
def qj8  (K : Ex → Env → Mem → Option Bool) := (fun (_ : Unit) => K (.exit 0) (qi []) (qh []))
def qdz  (v36 v37 : Int) (Aa : List UInt8) (Ab Ac : Int) (Ad : List AV) (Bj : List UInt8) (Ch Ck : Int) (Cm : List AV) (next : Int → Option Bool) (kx0 : Unit → Option Bool) : Option Bool :=
  (bif (decide (v37 < v36)) then (oB (ixB Ad v37) fun y1 => (bif fitC qbn y1.cells then (oB (ixB Cm v37) fun y2 => (bif fitC qbn y2.cells then (bif (!(((gB y1.cells 0) == (gB y2.cells 0)) && (((gI y1.cells 1) == (gI y2.cells 1)) && (((gI y1.cells 2) == (gI y2.cells 2)) && (((gS y1.cells 3) == (gS y2.cells 3)) && (((gS y1.cells 4) == (gS y2.cells 4)) && (((gS y1.cells 5) == (gS y2.cells 5)) && (((gI y1.cells 6) == (gI y2.cells 6)) && (((gI y1.cells 7) == (gI y2.cells 7)) && (((gI y1.cells 8) == (gI y2.cells 8)) && (((gI y1.cells 9) == (gI y2.cells 9)) && (((gI y1.cells 10) == (gI y2.cells 10)) && (((gI y1.cells 11) == (gI y2.cells 11)) && (((gI y1.cells 12) == (gI y2.cells 12)) && true)))))))))))))) then (some false) else (next (IntKind.i64.wrap (v37 + (1 : Int))))) else none)) else none)) else (kx0 ()))
def qd0  (v36 : Int) (Aa : List UInt8) (Ab Ac : Int) (Ad : List AV) (Bj : List UInt8) (Ch Ck : Int) (Cm : List AV) (kx0 : Unit → Option Bool) : Nat → Int → Option Bool
  | 0 => (fun _ => none)
  | n + 1 => (fun v37 => qdz v36 v37 Aa Ab Ac Ad Bj Ch Ck Cm (qd0 v36 Aa Ab Ac Ad Bj Ch Ck Cm kx0 n) kx0)
def qoe := hull (qd0)
theorem qta : qoe = qd0 := qb _
def qvb : SubB Tryd.prog (TIof Tryd.prog) 52 0 (kret [.t 4] decB) := lpB tabOk follows Tryd.f14 75 (.s .z (.s (.s .z (.v [.sel [] []])) (.s (.b (.s .z (.s (.d [] [(3, .e 43 qbn), (8, .e 48 qbn)] [] []) .z))) (.v [.sel [2, 3, 36, 37] [0, 1]])))) S72_ (qd0) (fun f v K n => f (v.i 144 0) (v.s 3 0) (v.i 3 1) (v.i 3 2) (v.l 3 3) (v.s 7 0) (v.i 7 1) (v.i 7 2) (v.l 7 3) (qj8 K) n) (fun v f K => qdz (v.i 144 0) (v.i 148 0) (v.s 3 0) (v.i 3 1) (v.i 3 2) (v.l 3 3) (v.s 7 0) (v.i 7 1) (v.i 7 2) (v.l 7 3) f (qj8 K)) (fun f v => f (v.i 148 0)) (fun k v => (fun z0 => k (v.ui 148 0 z0))) (by kernel_rfl) (fun _ _ => (by kernel_rfl)) (fun _ _ _ => (by kernel_rfl)) (fun _ _ _ => (by kernel_rfl)) (fun _ _ => (by kernel_rfl)) (fun _ _ _ _ _ => (by kernel_rfl))
def qh5 (Ae : List UInt8) (Af Ag : Int) (Ah : List AV) (Ar : List UInt8) (As At : Int) (Au : List AV) : Option Bool :=
  (bif ((((!(Ae == Ar)) || (Af != As)) || (Ag != At)) || ((Ah.length : Int) != (Au.length : Int))) then (some false) else (qoe (Ah.length : Int) Ae Af Ag Ah Ar As At Au (fun (_ : Unit) => (some true)) FU (0 : Int)))
def qe5 := hull qh5
theorem qz4 : qe5 = qh5 := qb _
def qk7 {R : Type} : EntF Tryd.prog R := entB (nt := 52) (dec := decB) (enc := AV.bool) tabOk follows Tryd.func14 [.t 4] hdeB (.s .z (.s (.s (.r [(6, .g 5), (13, .g 5), (20, .g 7)] []) .z) (.s (.s .z (.b (.sub [.sel [2, 3, 36, 37] [0, 1]] qvb []))) .z))) S73_ qh5 (fun f v => f (v.s 1 0) (v.i 1 1) (v.i 1 2) (v.l 1 3) (v.s 5 0) (v.i 5 1) (v.i 5 2) (v.l 5 3)) (by kernel_rfl) (by kernel_rfl) (by kernel_rfl) fun _ => (by kernel_rfl)
def qjo : List LT := [(.i .i64), .s, (.i .i64), (.i .i64), .op, (.i .i64), (.i .i64), (.i .i64), (.i .i64)]
def S83_ : Shp := ⟨[(2, .one (.l (.i .i64))), (4, .one (.ptr 0 0)), (7, .one (.ptr 1 0)), (8, .one (.l .s)), (9, .one (.ptr 2 0)), (10, .one (.l (.i .i64)))], [.box true [(.l .s), (.l (.i .i64))], .box true [(.l (.i .i64)), (.l (.sl 9))], .box true [(.l (.i .i64)), (.l (.sl 9))]]⟩
def S84_ : Shp := ⟨[(4, .one (.ptr 0 0)), (7, .one (.ptr 1 0)), (8, .one (.l .s)), (9, .one (.ptr 2 0)), (14, .one (.ptr 3 0)), (15, .one (.l .b)), (17, .one (.ptr 4 0)), (18, .one (.l .b)), (19, .one (.ptr 5 0)), (20, .one (.l .b)), (21, .one (.ptr 6 0)), (22, .one (.l .b)), (49, .one (.own 7)), (50, .one (.l (.i .i64))), (51, .one (.l (.i .i64)))], [.box true [(.l .s), (.l (.i .i64))], .box true [(.l (.i .i64)), (.l (.sl 9))], .box true [(.l (.i .i64)), (.l (.sl 9))], .box true (lk qc), .box true (lk qc), .box true (lk qdq), .box true (lk qdq), .arr true 1]⟩
def S85_ : Shp := ⟨[(4, .one (.ptr 0 0)), (7, .one (.ptr 1 0)), (8, .one (.l .s)), (9, .one (.ptr 2 0)), (49, .one (.own 3)), (50, .one (.l (.i .i64))), (51, .one (.l (.i .i64)))], [.box true [(.l .s), (.l (.i .i64))], .box true [(.l (.i .i64)), (.l (.sl 9))], .box true [(.l (.i .i64)), (.l (.sl 9))], .arr true 1]⟩
def S86_ : Shp := ⟨[(8, .one (.l .s)), (23, .one (.ptr 0 0)), (24, .one (.l (.i .i64))), (26, .one (.ptr 1 0)), (126, .one (.l (.sl 9))), (127, .one (.l (.i .i64))), (128, .one (.l (.i .i64)))], [.box true [(.l (.i .i64)), (.l (.sl 9))], .box true (lk qc)]⟩
def S87_ : Shp := ⟨[(8, .one (.l .s)), (23, .one (.ptr 0 0)), (24, .one (.l (.i .i64))), (126, .one (.l (.sl 9))), (127, .one (.l (.i .i64))), (128, .one (.l (.i .i64)))], [.box true [(.l (.i .i64)), (.l (.sl 9))]]⟩
def S88_ : Shp := ⟨[(0, .one (.l (.sl 11))), (1, .st [(.l .s), (.l (.i .i64))]), (2, .one (.l (.i .i64)))], []⟩
def qm8  (v2 : Int) (v8 Aa : List UInt8) (Ab Bj : Int) (Ch : List AV) (Bv : Int) (Ca : List AV) (K : Ex → Env → Mem → Option Bool) := (fun z_v10 => K .norm (qi [(2, (.int .i64 v2)), (4, (.ptr 0 0)), (7, (.ptr 1 0)), (8, (.str v8)), (9, (.ptr 2 0)), (10, (.int .i64 z_v10))]) (qh [(some (.box true [(.str Aa), (.int .i64 Ab)])), (some (.box true [(.int .i64 Bj), (.sl 9 Ch)])), (some (.box true [(.int .i64 Bv), (.sl 9 Ca)]))]))
def qcw  (v2 : Int) (v8 : List UInt8) (v10 : Int) (Aa : List UInt8) (Ab Bj : Int) (Ch : List AV) (Bv : Int) (Ca : List AV) (kn : Int → Option Bool) : Option Bool :=
  (bif (decide (v2 < (1099511627776 : Int))) then (kn (IntKind.i64.wrap ((if (0 : Int) > v2 then (0 : Int) else v2) + (7 : Int)))) else (kn v10))
def qib := hull (qcw)
theorem qm9 : qib = qcw := qb _
def qn3 : SubB Tryd.prog (TIof Tryd.prog) 176 0 (kret [.t 6] decB) := jnB tabOk follows Tryd.f6 191 (.s .z (.s (.v [.sel [2, 4, 7, 8, 9, 10] [0, 1, 2]]) (.v [.sel [2, 4, 7, 8, 9, 10] [0, 1, 2]]))) S83_ (qcw) (fun f v K => f (v.i 8 0) (v.s 32 0) (v.i 40 0) (v.s 3 0) (v.i 3 1) (v.i 7 0) (v.l 7 1) (v.i 11 0) (v.l 11 1) (qm8 (v.i 8 0) (v.s 32 0) (v.s 3 0) (v.i 3 1) (v.i 7 0) (v.l 7 1) (v.i 11 0) (v.l 11 1) K)) (by kernel_rfl) (fun _ _ => (by kernel_rfl))
def qna  (v8 : List UInt8) (v50 v51 : Int) (Aa : List UInt8) (Ab Bj : Int) (Ch : List AV) (Bv : Int) (Ca a7 : List AV) (K : Ex → Env → Mem → Option Bool) := (fun z_v120 => K .norm (qi [(4, (.ptr 0 0)), (7, (.ptr 1 0)), (8, (.str v8)), (9, (.ptr 2 0)), (49, (.own 3 a7.length)), (50, (.int .i64 v50)), (51, (.int .i64 v51)), (120, (.bool z_v120))]) (qh [(some (.box true [(.str Aa), (.int .i64 Ab)])), (some (.box true [(.int .i64 Bj), (.sl 9 Ch)])), (some (.box true [(.int .i64 Bv), (.sl 9 Ca)])), (some (.arr true 1 a7))]))
def qcx  (v8 : List UInt8) (v15 v18 v20 v22 : Bool) (v50 v51 : Int) (Aa : List UInt8) (Ab Bj : Int) (Ch : List AV) (Bv : Int) (Ca : List AV) (Bw : Int) (Bx : List UInt8) (By Bz : Int) (B0 : List AV) (B1 B2 B3 B4 Cs : Int) (Ct : List UInt8) (Cu Cw : Int) (Cx : List AV) (Cy Cz C0 C1 : Int) (C2 : List UInt8) (C3 C4 : Int) (C5 : List AV) (C6 : List UInt8) (C7 C8 : Int) (C9 a7 : List AV) (kn : Bool → Option Bool) : Option Bool :=
  (bif ((!((v15 == v18) && true)) || (Bw != Cs)) then (kn true) else (oB (qe5 Bx By Bz B0 Ct Cu Cw Cx) fun r1 => (bif (((!r1) || (B3 != C0)) || (!((v20 == v22) && true))) then (kn true) else (oB (qe5 C2 C3 C4 C5 C6 C7 C8 C9) fun r2 => (kn (!r2))))))
def qdg := hull (qcx)
theorem qnb : qdg = qcx := qb _
def qn4 : SubB Tryd.prog (TIof Tryd.prog) 176 0 (kret [.t 6] decB) := jnB tabOk follows Tryd.f6 3119487 (.r [(4, .g 5), (15, .c qk7.b), (19, .g 5), (26, .g 3), (33, .c qk7.b)] [.sel [4, 7, 8, 9, 49, 50, 51, 120] [0, 1, 2, 7]]) S84_ (qcx) (fun f v K => f (v.s 32 0) (v.b 60 0) (v.b 72 0) (v.b 80 0) (v.b 88 0) (v.i 200 0) (v.i 204 0) (v.s 3 0) (v.i 3 1) (v.i 7 0) (v.l 7 1) (v.i 11 0) (v.l 11 1) (v.i 15 0) (v.s 15 1) (v.i 15 2) (v.i 15 3) (v.l 15 4) (v.i 15 5) (v.i 15 6) (v.i 15 7) (v.i 15 8) (v.i 19 0) (v.s 19 1) (v.i 19 2) (v.i 19 3) (v.l 19 4) (v.i 19 5) (v.i 19 6) (v.i 19 7) (v.i 19 8) (v.s 23 0) (v.i 23 1) (v.i 23 2) (v.l 23 3) (v.s 27 0) (v.i 27 1) (v.i 27 2) (v.l 27 3) (v.r 7) (qna (v.s 32 0) (v.i 200 0) (v.i 204 0) (v.s 3 0) (v.i 3 1) (v.i 7 0) (v.l 7 1) (v.i 11 0) (v.l 11 1) (v.r 7) K)) (by kernel_rfl) (fun _ _ => (by kernel_rfl))
def qgm  (v8 : List UInt8) (Bj : Int) (Ch : List AV) (K : Ex → Env → Mem → Option Bool) := (fun (_ : Unit) => K (.exit 0) (qi [(7, (.ptr 0 0)), (8, (.str v8))]) (qh [(some (.box true [(.int .i64 Bj), (.sl 9 Ch)]))]))
def qbz  (v8 : List UInt8) (v50 v51 : Int) (Aa : List UInt8) (Ab Bj : Int) (Ch : List AV) (Bv : Int) (Ca a3 : List AV) (next : Int → Option Bool) (kx0 : Unit → Option Bool) : Option Bool :=
  (bif (decide (v51 < v50)) then (bif hd a3 a3.length then (bif decide (0 ≤ v51 ∧ v51 < a3.length) then (bif hd a3 a3.length then (oB (a3[v51.toNat]?) fun y1 => (oB (rdE y1 0 false 1) fun z2 => (bif fitV (.one (.i .i64)) z2 then (oB (qfi Bj Ch Aa Ab (aI z2)) fun r3 => (oB (qfi Bv Ca Aa Ab (aI z2)) fun r4 => (oB (qe4 Bj Ch v8 (aI z2)) fun r5 => (oB (qe4 Bv Ca v8 (aI z2)) fun r6 => (bif (hd a3 (a3.length) && true) then (qdg v8 r3.2.2 r4.2.2 r5.2 r6.2 v50 v51 Aa Ab Bj Ch Bv Ca (gI r3.2.1.cells 0) (gS r3.2.1.cells 1) (gI r3.2.1.cells 2) (gI r3.2.1.cells 3) (gL r3.2.1.cells 4) (gI r3.2.1.cells 5) (gI r3.2.1.cells 6) (gI r3.2.1.cells 7) (gI r3.2.1.cells 8) (gI r4.2.1.cells 0) (gS r4.2.1.cells 1) (gI r4.2.1.cells 2) (gI r4.2.1.cells 3) (gL r4.2.1.cells 4) (gI r4.2.1.cells 5) (gI r4.2.1.cells 6) (gI r4.2.1.cells 7) (gI r4.2.1.cells 8) (gS r5.1.cells 0) (gI r5.1.cells 1) (gI r5.1.cells 2) (gL r5.1.cells 3) (gS r6.1.cells 0) (gI r6.1.cells 1) (gI r6.1.cells 2) (gL r6.1.cells 3) a3 (fun v120q7 => (bif v120q7 then (some false) else (next (IntKind.i64.wrap (v51 + (1 : Int))))))) else none))))) else none))) else none) else none) else none) else (kx0 ()))
def qb0  (v8 : List UInt8) (v50 : Int) (Aa : List UInt8) (Ab Bj : Int) (Ch : List AV) (Bv : Int) (Ca a3 : List AV) (kx0 : Unit → Option Bool) : Nat → Int → Option Bool
  | 0 => (fun _ => none)
  | n + 1 => (fun v51 => qbz v8 v50 v51 Aa Ab Bj Ch Bv Ca a3 (qb0 v8 v50 Aa Ab Bj Ch Bv Ca a3 kx0 n) kx0)
def qdh := hull (qb0)
theorem qnc : qdh = qb0 := qb _
def qn5 : SubB Tryd.prog (TIof Tryd.prog) 176 0 (kret [.t 6] decB) := lpB tabOk follows Tryd.f6 2431 (.s .z (.s (.s .z (.v [.sel [7, 8] [1]])) (.s (.b (.s (.r [(1, .p (.eta 54 (.one (.i .i64))))] []) (.s (.r [(3, .k qha.b)] []) (.s (.r [(3, .k qha.b)] []) (.s (.r [(3, .k qk4.b)] []) (.s (.r [(3, .k qk4.b)] []) (.s (.sub [.sel [4, 7, 8, 9, 14, 15, 17, 18, 19, 20, 21, 22, 49, 50, 51] [0, 1, 2, 5, 7, 8, 9, 3]] qn4 []) .z))))))) (.v [.sel [4, 7, 8, 9, 49, 50, 51] [0, 1, 2, 3]])))) S85_ (qb0) (fun f v K n => f (v.s 32 0) (v.i 200 0) (v.s 3 0) (v.i 3 1) (v.i 7 0) (v.l 7 1) (v.i 11 0) (v.l 11 1) (v.r 3) (qgm (v.s 32 0) (v.i 7 0) (v.l 7 1) K) n) (fun v f K => qbz (v.s 32 0) (v.i 200 0) (v.i 204 0) (v.s 3 0) (v.i 3 1) (v.i 7 0) (v.l 7 1) (v.i 11 0) (v.l 11 1) (v.r 3) f (qgm (v.s 32 0) (v.i 7 0) (v.l 7 1) K)) (fun f v => f (v.i 204 0)) (fun k v => (fun z0 => k (v.ui 204 0 z0))) (by kernel_rfl) (fun _ _ => (by kernel_rfl)) (fun _ _ _ => (by kernel_rfl)) (fun _ _ _ => (by kernel_rfl)) (fun _ _ => (by kernel_rfl)) (fun _ _ _ _ _ => (by kernel_rfl))
def qnd  (v8 : List UInt8) (v24 : Int) (v126 : List AV) (v127 v128 Aa : Int) (Ab : List AV) (K : Ex → Env → Mem → Option Bool) := (fun z_v164 => K .norm (qi [(8, (.str v8)), (23, (.ptr 0 0)), (24, (.int .i64 v24)), (126, (.sl 9 v126)), (127, (.int .i64 v127)), (128, (.int .i64 v128)), (164, (.bool z_v164))]) (qh [(some (.box true [(.int .i64 Aa), (.sl 9 Ab)]))]))
def qcy  (v8 : List UInt8) (v24 : Int) (v126 : List AV) (v127 v128 Aa : Int) (Ab : List AV) (Bj : Int) (Ch : List UInt8) (Ck Cm : Int) (Cn : List AV) (Co Cp Cq Cr : Int) (kn : Bool → Option Bool) : Option Bool :=
  (bif (decide (v24 ≥ (Ab.length : Int))) then (kn true) else (oB (ixB Ab v24) fun y1 => (bif fitC qjo y1.cells then (qnk (qh [(some (.box true [(.int .i64 Aa), (.sl 9 Ab)])), (some (.box true [(.int .i64 Bj), (.str Ch), (.int .i64 Ck), (.int .i64 Cm), (.sl 13 Cn), (.int .i64 Co), (.int .i64 Cp), (.int .i64 Cq), (.int .i64 Cr)]))]) (gC y1.cells 4) fun z2 => (chk (fitS S73_ (qem [(.agg [(.str (gS y1.cells 1)), (.int .i64 (gI y1.cells 2)), (.int .i64 (gI y1.cells 3)), z2]), (.agg [(.str Ch), (.int .i64 Ck), (.int .i64 Cm), (.sl 13 Cn)])]) Mem.none) (oB (qe5 (gS y1.cells 1) (gI y1.cells 2) (gI y1.cells 3) (aL z2) Ch Ck Cm Cn) fun r3 => (bif (!r3) then (kn true) else (oB (ixB Ab v24) fun y4 => (bif fitC qjo y4.cells then (kn ((gI y4.cells 7) != Cq)) else none)))))) else none)))
def qev := hull (qcy)
theorem qne : qev = qcy := qb _
def qn6 : SubB Tryd.prog (TIof Tryd.prog) 176 0 (kret [.t 6] decB) := jnB tabOk follows Tryd.f6 5032959 (.d [] [(9, .e 146 qjo), (14, .c qk7.b), (21, .e 158 qjo)] [] [.sel [8, 23, 24, 126, 127, 128, 164] [0]]) S86_ (qcy) (fun f v K => f (v.s 32 0) (v.i 96 0) (v.l 504 0) (v.i 508 0) (v.i 512 0) (v.i 3 0) (v.l 3 1) (v.i 7 0) (v.s 7 1) (v.i 7 2) (v.i 7 3) (v.l 7 4) (v.i 7 5) (v.i 7 6) (v.i 7 7) (v.i 7 8) (qnd (v.s 32 0) (v.i 96 0) (v.l 504 0) (v.i 508 0) (v.i 512 0) (v.i 3 0) (v.l 3 1) K)) (by kernel_rfl) (fun _ _ => (by kernel_rfl))
def qgn  (Aa : Int) (Ab : List AV) (K : Ex → Env → Mem → Option Bool) := (fun z_v24 => K (.exit 2) (qi [(23, (.ptr 0 0)), (24, (.int .i64 z_v24))]) (qh [(some (.box true [(.int .i64 Aa), (.sl 9 Ab)]))]))
def qb1  (v8 : List UInt8) (v24 : Int) (v126 : List AV) (v127 v128 Aa : Int) (Ab : List AV) (next : Int → Int → Option Bool) (kx2 : Int → Option Bool) : Option Bool :=
  (bif (decide (v128 < v127)) then (oB (ixB v126 v128) fun y1 => (bif fitC qc y1.cells then (oB (qfr (gS y1.cells 1) v8) fun r2 => (bif r2 then (next v24 (IntKind.i64.wrap (v128 + (1 : Int)))) else (qev v8 v24 v126 v127 v128 Aa Ab (gI y1.cells 0) (gS y1.cells 1) (gI y1.cells 2) (gI y1.cells 3) (gL y1.cells 4) (gI y1.cells 5) (gI y1.cells 6) (gI y1.cells 7) (gI y1.cells 8) (fun v164q3 => (bif v164q3 then (some false) else (next (IntKind.i64.wrap (v24 + (1 : Int))) (IntKind.i64.wrap (v128 + (1 : Int))))))))) else none)) else (kx2 v24))
def qb2  (v8 : List UInt8) (v126 : List AV) (v127 Aa : Int) (Ab : List AV) (kx2 : Int → Option Bool) : Nat → Int → Int → Option Bool
  | 0 => (fun _ _ => none)
  | n + 1 => (fun v24 v128 => qb1 v8 v24 v126 v127 v128 Aa Ab (qb2 v8 v126 v127 Aa Ab kx2 n) kx2)
def qch := hull (qb2)
theorem qnf : qch = qb2 := qb _
def qn7 : SubB Tryd.prog (TIof Tryd.prog) 176 0 (kret [.t 6] decB) := lpB tabOk follows Tryd.f6 19455 (.s .z (.s (.s .z (.v [.sel [23, 24] [0]])) (.s (.b (.s (.r [(0, .p (.etac 130 qc))] []) (.s (.s (.r [(4, .c qnw.b)] []) .z) (.s (.s (.sub [.sel [8, 23, 24, 26, 126, 127, 128] [0, 1]] qn6 []) .z) .z)))) (.v [.sel [8, 23, 24, 126, 127, 128] [0]])))) S87_ (qb2) (fun f v K n => f (v.s 32 0) (v.l 504 0) (v.i 508 0) (v.i 3 0) (v.l 3 1) (qgn (v.i 3 0) (v.l 3 1) K) n) (fun v f K => qb1 (v.s 32 0) (v.i 96 0) (v.l 504 0) (v.i 508 0) (v.i 512 0) (v.i 3 0) (v.l 3 1) f (qgn (v.i 3 0) (v.l 3 1) K)) (fun f v => f (v.i 96 0) (v.i 512 0)) (fun k v => (fun z0 z1 => k ((v.ui 96 0 z0).ui 512 0 z1))) (by kernel_rfl) (fun _ _ => (by kernel_rfl)) (fun _ _ _ => (by kernel_rfl)) (fun _ _ _ => (by kernel_rfl)) (fun _ _ => (by kernel_rfl)) (fun _ _ _ _ _ => (by kernel_rfl))
def qd6 (v0 : List AV) (Ar : List UInt8) (As v2 : Int) : Option Bool :=
  (oB (qn2 (20 : Int) v0) fun r1 => (oB (cutI Ar none (some (if (300 : Int) < (Ar.length : Int) then (300 : Int) else (Ar.length : Int)))) fun s2 => (oB (qen (gI r1.cells 0) (gL r1.cells 1) v2) fun r3 => (qib v2 s2 v2 s2 As (gI r1.cells 0) (gL r1.cells 1) (gI r3.cells 0) (gL r3.cells 1) (fun v10q4 => (bif (hd ([(.int .i64 v2), (.int .i64 v10q4)] : List AV) (([(.int .i64 v2), (.int .i64 v10q4)] : List AV).length) && true) then (qdh s2 ((([(.int .i64 v2), (.int .i64 v10q4)] : List AV).length) : Int) s2 As (gI r1.cells 0) (gL r1.cells 1) (gI r3.cells 0) (gL r3.cells 1) ([(.int .i64 v2), (.int .i64 v10q4)] : List AV) (fun (_ : Unit) => (oB (qc9 (gI r1.cells 0) (gL r1.cells 1) s2) fun r5 => (qch s2 (gL r1.cells 1) ((gL r1.cells 1).length : Int) (gI r5.cells 0) (gL r5.cells 1) (fun v24q6 => (bif (v24q6 == ((gL r5.cells 1).length : Int)) then (oB (qd1) fun r7 => (some r7)) else (some false))) FU (0 : Int) (0 : Int)))) FU (0 : Int)) else none))))))
def qek := hull qd6
theorem qp9 : qek = qd6 := qb _
def qrn {R : Type} : EntF Tryd.prog R := entB (nt := 176) (dec := decB) (enc := AV.bool) tabOk follows Tryd.func6 [.t 6] hdeB (.s .z (.s (.r [(1, .k q1d.b)] []) (.s .z (.s .z (.s (.r [(2, .k qn1.b)] []) (.s .z (.s (.sub [.sel [2, 4, 7, 8, 9, 10] [0, 1, 2]] qn3 []) (.s (.s .z (.b (.sub [.sel [4, 7, 8, 9, 49, 50, 51] [0, 1, 2, 3]] qn5 []))) (.s (.r [(2, .k qn0.b)] []) (.s .z (.s (.s .z (.b (.sub [.sel [8, 23, 24, 126, 127, 128] [1]] qn7 []))) (.s (.r [(6, .c qz1.b)] []) .z)))))))))))) S88_ qd6 (fun f v => f (v.l 0 0) (v.s 5 0) (v.i 5 1) (v.i 8 0)) (by kernel_rfl) (by kernel_rfl) (by kernel_rfl) fun _ => (by kernel_rfl)
end
end Go.Proofs.YtmficjbenbhneaaDoor.Dn
