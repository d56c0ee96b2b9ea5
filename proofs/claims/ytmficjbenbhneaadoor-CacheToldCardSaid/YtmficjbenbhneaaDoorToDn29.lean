import Derived.Test.YtmficjbenbhneaaDoorProg
import Derived.Test.YtmficjbenbhneaaDoorToLibD
set_option linter.all false
namespace Go.Proofs.YtmficjbenbhneaaDoor.Dn
open Go Go.Pev
set_option linter.unusedVariables false
set_option linter.unusedSimpArgs false
set_option maxRecDepth 100000
set_option maxHeartbeats 4000000
theorem zT : True := True.intro
theorem zA {a b : Prop} (x : a) (y : b) : a ∧ b := ⟨x, y⟩
theorem tabOk : Tab.ok (TIof Tryd.prog) Tryd.prog := fun _ _ h => h
theorem follows : Tryd.prog.follows .mixedOrders = true := by kernel_rfl
def S0_ : Shp := ⟨[(0, .one (.l (.i .i64)))], []⟩
def q5i : AV → Option (AV × Int) := decN [(.st [(.i .i64), .nil]), (.one (.i .i64))] fun z => ((gC (tpL z) 0), aI (gC (tpL z) 1))
noncomputable section
def qiz (v0 : Int) : Option (AV × Int) :=
  (bif ((decide (v0 < (1 : Int))) || (decide (v0 > (256 : Int)))) then (some ((.agg [(.int .i64 (0 : Int)), .nils]), (1 : Int))) else (some ((.agg [(.int .i64 v0), .nils]), (0 : Int))))
def qh4 := hull qiz
theorem qva : qh4 = qiz := qb _
def qmk {R : Type} : EntF Tryd.prog R := entB (nt := 13) (dec := q5i) (enc := (fun r => .tup [qd4 (.st [(.i .i64), .nil]) r.1, .int .i64 r.2])) tabOk follows Tryd.func7 [(.cell 2 true 2), .t 3] (hdeN fun _ => rfl) (.s .z (.s (.s (.r [(3, .g 2)] []) .z) .z)) S0_ qiz (fun f v => f (v.i 0 0)) (by kernel_rfl) (by kernel_rfl) (by kernel_rfl) fun _ => (by kernel_rfl)
def S1_ : Shp := ⟨[(0, .one (.l .s)), (1, .one (.l (.i .i64)))], []⟩
def qls (v0 : List UInt8) (v1 : Int) : Option AV :=
  (bif hd ([(.agg [(.bool false), (.int .u64 (0 : Int)), (.int .u64 (1 : Int)), (.str ([] : List UInt8)), (.str ([] : List UInt8)), (.str ([] : List UInt8)), (.int .i64 (0 : Int)), (.int .i64 (0 : Int)), (.int .i64 (0 : Int)), (.int .i64 (0 : Int)), (.int .i64 (0 : Int)), (.int .i64 (0 : Int)), (.int .u64 (0 : Int))])] : List AV) (([(.agg [(.bool false), (.int .u64 (0 : Int)), (.int .u64 (1 : Int)), (.str ([] : List UInt8)), (.str ([] : List UInt8)), (.str ([] : List UInt8)), (.int .i64 (0 : Int)), (.int .i64 (0 : Int)), (.int .i64 (0 : Int)), (.int .i64 (0 : Int)), (.int .i64 (0 : Int)), (.int .i64 (0 : Int)), (.int .u64 (0 : Int))])] : List AV).length) then (some (.agg [(.str v0), (.int .i64 (1 : Int)), (.int .i64 v1), (.fr true 13 ([(.agg [(.bool false), (.int .u64 (0 : Int)), (.int .u64 (1 : Int)), (.str ([] : List UInt8)), (.str ([] : List UInt8)), (.str ([] : List UInt8)), (.int .i64 (0 : Int)), (.int .i64 (0 : Int)), (.int .i64 (0 : Int)), (.int .i64 (0 : Int)), (.int .i64 (0 : Int)), (.int .i64 (0 : Int)), (.int .u64 (0 : Int))])] : List AV))])) else none)
def qkm := hull qls
theorem q0i : qkm = qls := qb _
def qrn {R : Type} : EntF Tryd.prog R := entB (nt := 11) (dec := (decT [.s, (.i .i64), (.i .i64), (.fr true 13)])) (enc := (qd4 (.st [.s, (.i .i64), (.i .i64), (.fr true 13)]))) tabOk follows Tryd.func21 [(.cell 4 true 4)] hdeT (.z) S1_ qls (fun f v => f (v.s 0 0) (v.i 4 0)) (by kernel_rfl) (by kernel_rfl) (by kernel_rfl) fun _ => (by kernel_rfl)
def qif : Nat := 37
def qbp : List LT := [.b, (.i .u64), (.i .u64), .s, .s, .s, (.i .i64), (.i .i64), (.i .i64), (.i .i64), (.i .i64), (.i .i64), (.i .u64)]
def qdm : List LT := [.s, (.i .i64), (.i .i64), (.sl 13)]
def S2_ : Shp := ⟨[(1, .one (.ptr 0 0)), (3, .one (.own 1)), (7, .one (.l (.sl 13))), (8, .one (.l (.i .i64))), (9, .one (.l (.i .i64)))], [.box true (lk qdm), .arr true 16]⟩
def S3_ : Shp := ⟨[(0, .st (lk qdm))], []⟩
def qkn  (K : Ex → Env → Mem → Option (List AV)) := (fun z_a0 => K (.exit 0) (qh [(3, (.own 0 z_a0.length))]) (qi [(some (.arr true 16 z_a0))]))
def qd5  (v7 : List AV) (v8 v9 : Int) (Aa : List UInt8) (Ab Ac : Int) (Ad a1 : List AV) (next : Int → (List AV) → Option (List AV)) (kx0 : (List AV) → Option (List AV)) : Option (List AV) :=
  (bif (decide (v9 < v8)) then (oB (ixB v7 v9) fun y1 => (bif fitC qbp y1.cells then (bif hd a1 a1.length then (bif hd ([(.agg [(.str Aa), (.int .i64 Ab), (.int .i64 Ac), (.bool (gB y1.cells 0)), (.int .u64 (gI y1.cells 1)), (.int .u64 (gI y1.cells 2)), (.str (gS y1.cells 3)), (.str (gS y1.cells 4)), (.str (gS y1.cells 5)), (.int .i64 (gI y1.cells 6)), (.int .i64 (gI y1.cells 7)), (.int .i64 (gI y1.cells 8)), (.int .i64 (gI y1.cells 9)), (.int .i64 (gI y1.cells 10)), (.int .i64 (gI y1.cells 11)), (.int .u64 (gI y1.cells 12))])] : List AV) (([(.agg [(.str Aa), (.int .i64 Ab), (.int .i64 Ac), (.bool (gB y1.cells 0)), (.int .u64 (gI y1.cells 1)), (.int .u64 (gI y1.cells 2)), (.str (gS y1.cells 3)), (.str (gS y1.cells 4)), (.str (gS y1.cells 5)), (.int .i64 (gI y1.cells 6)), (.int .i64 (gI y1.cells 7)), (.int .i64 (gI y1.cells 8)), (.int .i64 (gI y1.cells 9)), (.int .i64 (gI y1.cells 10)), (.int .i64 (gI y1.cells 11)), (.int .u64 (gI y1.cells 12))])] : List AV).length) then (bif decide ((a1.length + ([(.agg [(.str Aa), (.int .i64 Ab), (.int .i64 Ac), (.bool (gB y1.cells 0)), (.int .u64 (gI y1.cells 1)), (.int .u64 (gI y1.cells 2)), (.str (gS y1.cells 3)), (.str (gS y1.cells 4)), (.str (gS y1.cells 5)), (.int .i64 (gI y1.cells 6)), (.int .i64 (gI y1.cells 7)), (.int .i64 (gI y1.cells 8)), (.int .i64 (gI y1.cells 9)), (.int .i64 (gI y1.cells 10)), (.int .i64 (gI y1.cells 11)), (.int .u64 (gI y1.cells 12))])] : List AV).length) * 160 ≤ 140737488355328) then (next (IntKind.i64.wrap (v9 + (1 : Int))) (a1 ++ ([(.agg [(.str Aa), (.int .i64 Ab), (.int .i64 Ac), (.bool (gB y1.cells 0)), (.int .u64 (gI y1.cells 1)), (.int .u64 (gI y1.cells 2)), (.str (gS y1.cells 3)), (.str (gS y1.cells 4)), (.str (gS y1.cells 5)), (.int .i64 (gI y1.cells 6)), (.int .i64 (gI y1.cells 7)), (.int .i64 (gI y1.cells 8)), (.int .i64 (gI y1.cells 9)), (.int .i64 (gI y1.cells 10)), (.int .i64 (gI y1.cells 11)), (.int .u64 (gI y1.cells 12))])] : List AV))) else none) else none) else none) else none)) else (kx0 a1))
def qc0  (v7 : List AV) (v8 : Int) (Aa : List UInt8) (Ab Ac : Int) (Ad : List AV) (kx0 : (List AV) → Option (List AV)) : Nat → Int → (List AV) → Option (List AV)
  | 0 => (fun _ _ => none)
  | n + 1 => (fun v9 a1 => qd5 v7 v8 v9 Aa Ab Ac Ad a1 (qc0 v7 v8 Aa Ab Ac Ad kx0 n) kx0)
def qor := hull (qc0)
theorem qux : qor = qc0 := qb _
def qvb : SubB Tryd.prog (TIof Tryd.prog) 26 0 (kret [.t 2] (decF true 16)) := lpB tabOk follows Tryd.f56 75 (.s .z (.s (.s .z (.v [.sel [3] [1]])) (.s (.b (.s (.r [(0, .p (.etac 11 qbp))] []) .z)) (.v [.sel [1, 3, 7, 8, 9] [0, 1]])))) S2_ (qc0) (fun f v K n => f (v.l 28 0) (v.i 32 0) (v.s 3 0) (v.i 3 1) (v.i 3 2) (v.l 3 3) (qkn K) n) (fun v f K => qd5 (v.l 28 0) (v.i 32 0) (v.i 36 0) (v.s 3 0) (v.i 3 1) (v.i 3 2) (v.l 3 3) (v.r 1) f (qkn K)) (fun f v => f (v.i 36 0) (v.r 1)) (fun k v => (fun z0 z1 => k ((v.ui 36 0 z0).ur 1 z1))) (by kernel_rfl) (fun _ _ => (by kernel_rfl)) (fun _ _ _ => (by kernel_rfl)) (fun _ _ _ => (by kernel_rfl)) (fun _ _ => (by kernel_rfl)) (fun _ _ _ _ _ => (by kernel_rfl))
def qhi (Ae : List UInt8) (Af Ag : Int) (Ah : List AV) : Option (List AV) :=
  (bif (hd ([] : List AV) (([] : List AV).length) && true) then (qor Ah (Ah.length : Int) Ae Af Ag Ah (fun a0q1 => (bif hd a0q1 a0q1.length then (some a0q1) else none)) FU (0 : Int) ([] : List AV)) else none)
def qnh := hull qhi
theorem qze : qnh = qhi := qb _
def q0j {R : Type} : EntF Tryd.prog R := entB (nt := 26) (dec := (decF true 16)) (enc := (AV.fr true 16)) tabOk follows Tryd.func56 [.t 2] hdeF (.s .z (.s .z (.s (.s .z (.b (.sub [.own 3 16, .sel [1, 3, 7, 8, 9] [0, 1]] qvb []))) .z))) S3_ qhi (fun f v => f (v.s 1 0) (v.i 1 1) (v.i 1 2) (v.l 1 3)) (by kernel_rfl) (by kernel_rfl) (by kernel_rfl) fun _ => (by kernel_rfl)
def qko : List LT := [.s, (.i .i64), (.i .i64), .b, (.i .u64), (.i .u64), .s, .s, .s, (.i .i64), (.i .i64), (.i .i64), (.i .i64), (.i .i64), (.i .i64), (.i .u64)]
def S4_ : Shp := ⟨[(0, .one (.l .s)), (1, .one (.l .s))], []⟩
def qdp (v0 v1 : List UInt8) : Option Bool :=
  (bif (decide ((v0.length : Int) ≥ (v1.length : Int))) then (oB (cutI v0 (some (IntKind.i64.wrap ((v0.length : Int) - (v1.length : Int)))) none) fun s1 => (some (s1 == v1))) else (some false))
def qj4 := hull qdp
theorem qos : qj4 = qdp := qb _
def qpz {R : Type} : EntF Tryd.prog R := entB (nt := 21) (dec := decB) (enc := AV.bool) tabOk follows Tryd.func51 [.t 4] hdeB (.z) S4_ qdp (fun f v => f (v.s 0 0) (v.s 4 0)) (by kernel_rfl) (by kernel_rfl) (by kernel_rfl) fun _ => (by kernel_rfl)
def qep (v0 v1 : List UInt8) : Option Bool :=
  (oB (qj4 v0 v1) fun r1 => (some r1))
def qfq := hull qep
theorem qst : qfq = qep := qb _
def qlm {R : Type} : EntF Tryd.prog R := entB (nt := 8) (dec := decB) (enc := AV.bool) tabOk follows Tryd.func23 [.t 4] hdeB (.s .z (.s (.r [(2, .c qpz.b)] []) .z)) S4_ qep (fun f v => f (v.s 0 0) (v.s 4 0)) (by kernel_rfl) (by kernel_rfl) (by kernel_rfl) fun _ => (by kernel_rfl)
theorem q6g {R : Type} : qet Tryd.prog 78 (qmf (R := R)) := q87 Tryd.func78 (by kernel_rfl) (by kernel_rfl) (by kernel_rfl) (by kernel_rfl)
theorem q6h {R : Type} : qet Tryd.prog 97 (qmg (R := R)) := q88 Tryd.func97 (by kernel_rfl) (by kernel_rfl) (by kernel_rfl) (by kernel_rfl)
def S5_ : Shp := ⟨[(0, .one (.l .s)), (1, .one (.l (.i .u8)))], []⟩
def qdq (v0 : List UInt8) (v1 : Int) : Option Int :=
  (oB (qoc v0 v1) fun r1 => (some r1))
def qj5 := hull qdq
theorem qot : qj5 = qdq := qb _
def qp0 {R : Type} : EntF Tryd.prog R := entB (nt := 8) (dec := (decI .i64)) (enc := (AV.int .i64)) tabOk follows Tryd.func90 [.t 4] hdeI (.s .z (.s (.r [(2, .c (eK q6h))] []) .z)) S5_ qdq (fun f v => f (v.s 0 0) (v.i 4 0)) (by kernel_rfl) (by kernel_rfl) (by kernel_rfl) fun _ => (by kernel_rfl)
def qeq (v0 v1 : List UInt8) : Option Int :=
  (bif (((v1.length : Int) == (0 : Int)) || (v1 == v0)) then (some (0 : Int)) else (bif ((v1.length : Int) == (1 : Int)) then (oB (ixB v1 (0 : Int)) fun c1 => (oB (qj5 v0 (c1.toNat : Int)) fun r2 => (some r2))) else (bif (decide ((v1.length : Int) ≥ (v0.length : Int))) then (some (-1 : Int)) else none)))
def qnp := hull qeq
theorem qsu : qnp = qeq := qb _
def quy {R : Type} : EntF Tryd.prog R := entB (nt := 143) (dec := (decI .i64)) (enc := (AV.int .i64)) tabOk follows Tryd.func79 [.t 4] hdeI (.s .z (.s .z (.s (.b (.s (.r [(3, .g 3)] []) (.s .z (.s .z (.s (.s (.r [(3, .c qp0.b)] []) .z) .z))))) (.s .z (.s .z (.s .z (.s .z (.s .z (.s (.b .x) .z))))))))) S4_ qeq (fun f v => f (v.s 0 0) (v.s 4 0)) (by kernel_rfl) (by kernel_rfl) (by kernel_rfl) fun _ => (by kernel_rfl)
def qhj (v0 v1 : List UInt8) : Option Int :=
  (oB (qnp v0 v1) fun r1 => (some r1))
def qi7 := hull qhj
theorem qzf : qi7 = qhj := qb _
def qp6 {R : Type} : EntF Tryd.prog R := entB (nt := 8) (dec := (decI .i64)) (enc := (AV.int .i64)) tabOk follows Tryd.func69 [.t 4] hdeI (.s .z (.s (.r [(2, .c quy.b)] []) .z)) S4_ qhj (fun f v => f (v.s 0 0) (v.s 4 0)) (by kernel_rfl) (by kernel_rfl) (by kernel_rfl) fun _ => (by kernel_rfl)
def S6_ : Shp := ⟨[(0, .one (.l .s)), (1, .one (.l .s)), (5, .one (.l (.i .i64)))], []⟩
def qln  (v0 v1 : List UInt8) (v5 : Int) (next : (List UInt8) → Int → Option Int) : Option Int :=
  (oB (qi7 v0 v1) fun r1 => (bif (r1 == (-1 : Int)) then (some v5) else (oB (cutI v0 (some (IntKind.i64.wrap (r1 + (v1.length : Int)))) none) fun s2 => (next s2 (IntKind.i64.wrap (v5 + (1 : Int)))))))
def qhc  (v1 : List UInt8) : Nat → (List UInt8) → Int → Option Int
  | 0 => (fun _ _ => none)
  | n + 1 => (fun v0 v5 => qln v0 v1 v5 (qhc v1 n))
def qx1 := hull (qhc)
def quz : SubB Tryd.prog (TIof Tryd.prog) 34 0 (kret [.t 4] (decI .i64)) := lpB tabOk follows Tryd.f68 79 (.b (.s (.r [(2, .c qp6.b)] []) (.s .z (.s .z (.v [.sel [0, 1, 5] []]))))) S6_ (qhc) (fun f v K n => f (v.s 4 0) n) (fun v f K => qln (v.s 0 0) (v.s 4 0) (v.i 20 0) f) (fun f v => f (v.s 0 0) (v.i 20 0)) (fun k v => (fun z0 z1 => k ((v.us 0 0 z0).ui 20 0 z1))) (by kernel_rfl) (fun _ _ => (by kernel_rfl)) (fun _ _ _ => (by kernel_rfl)) (fun _ _ _ => (by kernel_rfl)) (fun _ _ => (by kernel_rfl)) (fun _ _ _ _ _ => (by kernel_rfl))
def qhk (v0 v1 : List UInt8) : Option Int :=
  (bif ((v1.length : Int) == (0 : Int)) then none else (bif ((v1.length : Int) == (1 : Int)) then (oB (ixB v1 (0 : Int)) fun c1 => (oB (qob v0 (c1.toNat : Int)) fun r2 => (some r2))) else (qx1 v1 FU v0 (0 : Int))))
def qni := hull qhk
theorem qzg : qni = qhk := qb _
def q0k {R : Type} : EntF Tryd.prog R := entB (nt := 34) (dec := (decI .i64)) (enc := (AV.int .i64)) tabOk follows Tryd.func68 [.t 4] hdeI (.s .z (.s (.s .z (.s (.s (.r [(1, .c (eK (qbco (f := 76))))] []) .z) .z)) (.s (.s .z (.s (.s (.r [(3, .c (eK q6g))] []) .z) .z)) (.s .z (.b (.sub [.sel [0, 1, 5] []] quz [])))))) S4_ qhk (fun f v => f (v.s 0 0) (v.s 4 0)) (by kernel_rfl) (by kernel_rfl) (by kernel_rfl) fun _ => (by kernel_rfl)
def S7_ : Shp := ⟨[(0, .one (.l .s)), (1, .one (.l .s)), (2, .one (.l (.i .i64))), (3, .one (.l (.i .i64)))], []⟩
def S8_ : Shp := ⟨[(0, .one (.l .s)), (1, .one (.l .s)), (2, .one (.l (.i .i64))), (3, .one (.l (.i .i64))), (9, .one (.own 0)), (10, .one (.l (.i .i64)))], [.arr true 1]⟩
def qp1  (v0 v1 : List UInt8) (v2 : Int) (K : Ex → Env → Mem → Option (List AV)) := (fun z_v3 => K .norm (qh [(0, (.str v0)), (1, (.str v1)), (2, (.int .i64 v2)), (3, (.int .i64 z_v3))]) (qi []))
def qd0  (v0 v1 : List UInt8) (v2 v3 : Int) (kn : Int → Option (List AV)) : Option (List AV) :=
  (bif (decide (v3 < (0 : Int))) then (oB (qni v0 v1) fun r1 => (kn (IntKind.i64.wrap (r1 + (1 : Int))))) else (kn v3))
def qkp := hull (qd0)
theorem qp2 : qkp = qd0 := qb _
def qrc : SubB Tryd.prog (TIof Tryd.prog) 66 0 (kret [.t 8] (decX (.one (.sl 1)) fun z => aL z)) := jnB tabOk follows Tryd.f52 23 (.s .z (.s (.r [(2, .c q0k.b)] [.sel [0, 1, 2, 3] []]) (.v [.sel [0, 1, 2, 3] []]))) S7_ (qd0) (fun f v K => f (v.s 0 0) (v.s 4 0) (v.i 8 0) (v.i 12 0) (qp1 (v.s 0 0) (v.s 4 0) (v.i 8 0) K)) (by kernel_rfl) (fun _ _ => (by kernel_rfl))
def qh5  (K : Ex → Env → Mem → Option (List AV)) := (fun z_v0 z_v10 z_a0 => K (.exit 0) (qh [(0, (.str z_v0)), (9, (.own 0 z_a0.length)), (10, (.int .i64 z_v10))]) (qi [(some (.arr true 1 z_a0))]))
def qcs  (v0 v1 : List UInt8) (v2 v3 v10 : Int) (a0 : List AV) (next : (List UInt8) → Int → (List AV) → Option (List AV)) (kx0 : (List UInt8) → Int → (List AV) → Option (List AV)) : Option (List AV) :=
  (bif (decide (v10 < v3)) then (oB (qi7 v0 v1) fun r1 => (bif (decide (r1 < (0 : Int))) then (kx0 v0 v10 a0) else (oB (cutI v0 none (some (IntKind.i64.wrap (r1 + v2)))) fun s2 => (bif hd a0 a0.length then (bif decide (0 ≤ v10 ∧ v10 < a0.length) then (bif hd a0 a0.length then (oB (a0[v10.toNat]?) fun y3 => (oB (putE y3 0 1 [(.str s2)]) fun z4 => (oB (cutI v0 (some (IntKind.i64.wrap (r1 + (v1.length : Int)))) none) fun s5 => (bif hd (a0.set v10.toNat z4) a0.length then (next s5 (IntKind.i64.wrap (v10 + (1 : Int))) (a0.set v10.toNat z4)) else none)))) else none) else none) else none)))) else (kx0 v0 v10 a0))
def qbo  (v1 : List UInt8) (v2 v3 : Int) (kx0 : (List UInt8) → Int → (List AV) → Option (List AV)) : Nat → (List UInt8) → Int → (List AV) → Option (List AV)
  | 0 => (fun _ _ _ => none)
  | n + 1 => (fun v0 v10 a0 => qcs v0 v1 v2 v3 v10 a0 (qbo v1 v2 v3 kx0 n) kx0)
def qkq := hull (qbo)
theorem qp3 : qkq = qbo := qb _
def qrd : SubB Tryd.prog (TIof Tryd.prog) 66 0 (kret [.t 8] (decX (.one (.sl 1)) fun z => aL z)) := lpB tabOk follows Tryd.f52 2303 (.s (.s .z (.s .z (.v [.sel [0, 9, 10] [0]]))) (.b (.s (.r [(2, .c qp6.b)] []) (.s (.s .z (.s (.v [.sel [0, 9, 10] [0]]) .z)) (.s .z (.s .z (.v [.hd 9, .sel [0, 1, 2, 3, 9, 10] [0]]))))))) S8_ (qbo) (fun f v K n => f (v.s 4 0) (v.i 8 0) (v.i 12 0) (qh5 K) n) (fun v f K => qcs (v.s 0 0) (v.s 4 0) (v.i 8 0) (v.i 12 0) (v.i 40 0) (v.r 0) f (qh5 K)) (fun f v => f (v.s 0 0) (v.i 40 0) (v.r 0)) (fun k v => (fun z0 z1 z2 => k (((v.us 0 0 z0).ui 40 0 z1).ur 0 z2))) (by kernel_rfl) (fun _ _ => (by kernel_rfl)) (fun _ _ _ => (by kernel_rfl)) (fun _ _ _ => (by kernel_rfl)) (fun _ _ => (by kernel_rfl)) (fun _ _ _ _ _ => (by kernel_rfl))
def qey (v0 v1 : List UInt8) (v2 v3 : Int) : Option (List AV) :=
  (bif (v3 == (0 : Int)) then (some ([] : List AV)) else (bif (v1 == ([] : List UInt8)) then none else (qkp v0 v1 v2 v3 (fun v3q1 => (bif decide (0 ≤ (if (IntKind.i64.wrap ((v0.length : Int) + (1 : Int))) < v3q1 then (IntKind.i64.wrap ((v0.length : Int) + (1 : Int))) else v3q1) ∧ (if (IntKind.i64.wrap ((v0.length : Int) + (1 : Int))) < v3q1 then (IntKind.i64.wrap ((v0.length : Int) + (1 : Int))) else v3q1) ≤ (if (IntKind.i64.wrap ((v0.length : Int) + (1 : Int))) < v3q1 then (IntKind.i64.wrap ((v0.length : Int) + (1 : Int))) else v3q1) ∧ (if (IntKind.i64.wrap ((v0.length : Int) + (1 : Int))) < v3q1 then (IntKind.i64.wrap ((v0.length : Int) + (1 : Int))) else v3q1) * 16 ≤ 281474976710656) then (bif (hd (List.replicate (if (IntKind.i64.wrap ((v0.length : Int) + (1 : Int))) < v3q1 then (IntKind.i64.wrap ((v0.length : Int) + (1 : Int))) else v3q1).toNat ((.str ([] : List UInt8)) : AV)) ((List.replicate (if (IntKind.i64.wrap ((v0.length : Int) + (1 : Int))) < v3q1 then (IntKind.i64.wrap ((v0.length : Int) + (1 : Int))) else v3q1).toNat ((.str ([] : List UInt8)) : AV)).length) && true) then (qkq v1 v2 (IntKind.i64.wrap ((if (IntKind.i64.wrap ((v0.length : Int) + (1 : Int))) < v3q1 then (IntKind.i64.wrap ((v0.length : Int) + (1 : Int))) else v3q1) - (1 : Int))) (fun v0q2 v10q3 a0q4 => (bif hd a0q4 a0q4.length then (bif decide (0 ≤ v10q3 ∧ v10q3 < a0q4.length) then (bif hd a0q4 a0q4.length then (oB (a0q4[v10q3.toNat]?) fun y5 => (oB (putE y5 0 1 [(.str v0q2)]) fun z6 => (bif hd (a0q4.set v10q3.toNat z6) a0q4.length then (oB (cutI (a0q4.set v10q3.toNat z6) none (some (IntKind.i64.wrap (v10q3 + (1 : Int))))) fun s7 => (some s7)) else none))) else none) else none) else none)) FU v0 (0 : Int) (List.replicate (if (IntKind.i64.wrap ((v0.length : Int) + (1 : Int))) < v3q1 then (IntKind.i64.wrap ((v0.length : Int) + (1 : Int))) else v3q1).toNat ((.str ([] : List UInt8)) : AV))) else none) else none)))))
def qou := hull qey
theorem qu0 : qou = qey := qb _
def qvc {R : Type} : EntF Tryd.prog R := entB (nt := 66) (dec := (decX (.one (.sl 1)) fun z => aL z)) (enc := (fun r => .sl 1 r)) tabOk follows Tryd.func52 [.t 8] (hdeX fun _ => rfl) (.s .z (.s (.s .z (.s (.s .z (.v [.eta 8 (.one (.sl 1))])) .z)) (.s (.s .z (.s (.s (.r [(2, .c (eK (qbco (f := 67))))] []) .z) .z)) (.s (.sub [.sel [0, 1, 2, 3] []] qrc []) (.s .z (.s .z (.s .z (.s .z (.s (.b (.sub [.sel [0, 1, 2, 3, 9, 10] [0]] qrd [])) .z))))))))) S7_ qey (fun f v => f (v.s 0 0) (v.s 4 0) (v.i 8 0) (v.i 12 0)) (by kernel_rfl) (by kernel_rfl) (by kernel_rfl) fun _ => (by kernel_rfl)
def qhl (v0 v1 : List UInt8) : Option (List AV) :=
  (oB (qou v0 v1 (0 : Int) (-1 : Int)) fun r1 => (some r1))
def qi8 := hull qhl
theorem qzh : qi8 = qhl := qb _
def qp7 {R : Type} : EntF Tryd.prog R := entB (nt := 8) (dec := (decX (.one (.sl 1)) fun z => aL z)) (enc := (fun r => .sl 1 r)) tabOk follows Tryd.func24 [.t 4] (hdeX fun _ => rfl) (.s .z (.s (.r [(2, .k qvc.b)] []) .z)) S4_ qhl (fun f v => f (v.s 0 0) (v.s 4 0)) (by kernel_rfl) (by kernel_rfl) (by kernel_rfl) fun _ => (by kernel_rfl)
def S9_ : Shp := ⟨[(0, .one (.l .s)), (4, .one (.l (.i .u8))), (13, .one (.l (.i .i64))), (14, .one (.l (.i .i64)))], []⟩
def S10_ : Shp := ⟨[(0, .one (.l .s)), (13, .one (.l (.i .i64))), (14, .one (.l (.i .i64)))], []⟩
def S11_ : Shp := ⟨[(0, .one (.l .s))], []⟩
def qro  (v0 : List UInt8) (v13 v14 : Int) (K : Ex → Env → Mem → Option Bool) := (fun z_v41 => K .norm (qh [(0, (.str v0)), (13, (.int .i64 v13)), (14, (.int .i64 v14)), (41, (.bool z_v41))]) (qi []))
def qee  (v0 : List UInt8) (v4 v13 v14 : Int) (kn : Bool → Option Bool) : Option Bool :=
  (bif ((decide (v4 < (97 : Int))) || (decide (v4 > (122 : Int)))) then (bif (decide (v4 < (48 : Int))) then (kn ((v4 != (45 : Int)) && (v4 != (95 : Int)))) else (kn (((decide (v4 > (57 : Int))) && (v4 != (45 : Int))) && (v4 != (95 : Int))))) else (kn false))
def qh6 := hull (qee)
theorem qrp : qh6 = qee := qb _
def qsv : SubB Tryd.prog (TIof Tryd.prog) 43 0 (kret [.t 2] decB) := jnB tabOk follows Tryd.f25 11467 (.r [(3, .g 2), (15, .g 2), (19, .g 2)] [.sel [0, 13, 14, 41] []]) S9_ (qee) (fun f v K => f (v.s 0 0) (v.i 16 0) (v.i 52 0) (v.i 56 0) (qro (v.s 0 0) (v.i 52 0) (v.i 56 0) K)) (by kernel_rfl) (fun _ _ => (by kernel_rfl))
def qi0  (K : Ex → Env → Mem → Option Bool) := (fun (_ : Unit) => K (.exit 0) (qh []) (qi []))
def qc7  (v0 : List UInt8) (v13 v14 : Int) (next : Int → Option Bool) (kx0 : Unit → Option Bool) : Option Bool :=
  (bif (decide (v14 < v13)) then (oB (ixB v0 v14) fun c1 => (qh6 v0 (c1.toNat : Int) v13 v14 (fun v41q2 => (bif v41q2 then (some false) else (next (IntKind.i64.wrap (v14 + (1 : Int)))))))) else (kx0 ()))
def qc8  (v0 : List UInt8) (v13 : Int) (kx0 : Unit → Option Bool) : Nat → Int → Option Bool
  | 0 => (fun _ => none)
  | n + 1 => (fun v14 => qc7 v0 v13 v14 (qc8 v0 v13 kx0 n) kx0)
def qm2 := hull (qc8)
theorem qrq : qm2 = qc8 := qb _
def qsw : SubB Tryd.prog (TIof Tryd.prog) 43 0 (kret [.t 2] decB) := lpB tabOk follows Tryd.f25 75 (.s .z (.s (.s .z (.v [.sel [] []])) (.s (.b (.s .z (.s .z (.s (.sub [.sel [0, 4, 13, 14] []] qsv []) .z)))) (.v [.sel [0, 13, 14] []])))) S10_ (qc8) (fun f v K n => f (v.s 0 0) (v.i 52 0) (qi0 K) n) (fun v f K => qc7 (v.s 0 0) (v.i 52 0) (v.i 56 0) f (qi0 K)) (fun f v => f (v.i 56 0)) (fun k v => (fun z0 => k (v.ui 56 0 z0))) (by kernel_rfl) (fun _ _ => (by kernel_rfl)) (fun _ _ _ => (by kernel_rfl)) (fun _ _ _ => (by kernel_rfl)) (fun _ _ => (by kernel_rfl)) (fun _ _ _ _ _ => (by kernel_rfl))
def qgm (v0 : List UInt8) : Option Bool :=
  (bif ((v0 == ([] : List UInt8)) || (decide ((v0.length : Int) > (63 : Int)))) then (some false) else (qm2 v0 (v0.length : Int) (fun (_ : Unit) => (some true)) FU (0 : Int)))
def qlt := hull qgm
theorem qx2 : qlt = qgm := qb _
def qzi {R : Type} : EntF Tryd.prog R := entB (nt := 43) (dec := decB) (enc := AV.bool) tabOk follows Tryd.func25 [.t 2] hdeB (.s .z (.s (.s (.r [(3, .g 3)] []) .z) (.s (.s .z (.b (.sub [.sel [0, 13, 14] []] qsw []))) .z))) S11_ qgm (fun f v => f (v.s 0 0)) (by kernel_rfl) (by kernel_rfl) (by kernel_rfl) fun _ => (by kernel_rfl)
def S12_ : Shp := ⟨[(3, .one (.l (.i .i64))), (4, .one (.l .s)), (20, .one (.l (.sl 1))), (21, .one (.l (.i .i64))), (22, .one (.l (.i .i64)))], []⟩
def S13_ : Shp := ⟨[(20, .one (.l (.sl 1))), (21, .one (.l (.i .i64))), (22, .one (.l (.i .i64)))], []⟩
def qvd  (v0 : List UInt8) (K : Ex → Env → Mem → Option Bool) := (fun z_v14 => K .norm (qh [(0, (.str v0)), (14, (.bool z_v14))]) (qi []))
def qfr  (v0 : List UInt8) (kn : Bool → Option Bool) : Option Bool :=
  (bif (decide ((v0.length : Int) ≥ (255 : Int))) then (kn true) else (oB (qfq v0 ([46] : List UInt8)) fun r1 => (kn (!r1))))
def qp8 := hull (qfr)
theorem qve : qp8 = qfr := qb _
def qx3 : SubB Tryd.prog (TIof Tryd.prog) 39 0 (kret [.t 2] decB) := jnB tabOk follows Tryd.f10 19 (.r [(5, .c qlm.b)] [.sel [0, 14] []]) S11_ (qfr) (fun f v K => f (v.s 0 0) (qvd (v.s 0 0) K)) (by kernel_rfl) (fun _ _ => (by kernel_rfl))
def qvf  (v20 : List AV) (v21 v22 : Int) (K : Ex → Env → Mem → Option Bool) := (fun z_v37 => K .norm (qh [(20, (.sl 1 v20)), (21, (.int .i64 v21)), (22, (.int .i64 v22)), (37, (.bool z_v37))]) (qi []))
def qfs  (v3 : Int) (v4 : List UInt8) (v20 : List AV) (v21 v22 : Int) (kn : Bool → Option Bool) : Option Bool :=
  (oB (qlt v4) fun r1 => (bif (!r1) then (bif (decide (v3 > (0 : Int))) then (kn true) else (kn (!(v4 == ([42] : List UInt8))))) else (kn false)))
def qp9 := hull (qfs)
theorem qvg : qp9 = qfs := qb _
def qx4 : SubB Tryd.prog (TIof Tryd.prog) 39 0 (kret [.t 2] decB) := jnB tabOk follows Tryd.f10 10647 (.r [(1, .c qzi.b)] [.sel [20, 21, 22, 37] []]) S12_ (qfs) (fun f v K => f (v.i 12 0) (v.s 16 0) (v.l 80 0) (v.i 84 0) (v.i 88 0) (qvf (v.l 80 0) (v.i 84 0) (v.i 88 0) K)) (by kernel_rfl) (fun _ _ => (by kernel_rfl))
def qlo  (K : Ex → Env → Mem → Option Bool) := (fun (_ : Unit) => K (.exit 0) (qh []) (qi []))
def qea  (v20 : List AV) (v21 v22 : Int) (next : Int → Option Bool) (kx0 : Unit → Option Bool) : Option Bool :=
  (bif (decide (v22 < v21)) then (oB (ixB v20 v22) fun y1 => (bif fitC [.s] y1.cells then (qp9 v22 (gS y1.cells 0) v20 v21 v22 (fun v37q2 => (bif v37q2 then (some false) else (next (IntKind.i64.wrap (v22 + (1 : Int))))))) else none)) else (kx0 ()))
def qeb  (v20 : List AV) (v21 : Int) (kx0 : Unit → Option Bool) : Nat → Int → Option Bool
  | 0 => (fun _ => none)
  | n + 1 => (fun v22 => qea v20 v21 v22 (qeb v20 v21 kx0 n) kx0)
def qkr := hull (qeb)
theorem qvh : qkr = qeb := qb _
def qx5 : SubB Tryd.prog (TIof Tryd.prog) 39 0 (kret [.t 2] decB) := lpB tabOk follows Tryd.f10 151 (.s .z (.s (.s .z (.v [.sel [] []])) (.s (.b (.s (.r [(1, .p (.etac 25 [.s]))] []) (.s (.sub [.sel [3, 4, 20, 21, 22] []] qx4 []) .z))) (.v [.sel [20, 21, 22] []])))) S13_ (qeb) (fun f v K n => f (v.l 80 0) (v.i 84 0) (qlo K) n) (fun v f K => qea (v.l 80 0) (v.i 84 0) (v.i 88 0) f (qlo K)) (fun f v => f (v.i 88 0)) (fun k v => (fun z0 => k (v.ui 88 0 z0))) (by kernel_rfl) (fun _ _ => (by kernel_rfl)) (fun _ _ _ => (by kernel_rfl)) (fun _ _ _ => (by kernel_rfl)) (fun _ _ => (by kernel_rfl)) (fun _ _ _ _ _ => (by kernel_rfl))
def qi9 (v0 : List UInt8) : Option Bool :=
  (bif (v0 == ([46] : List UInt8)) then (some true) else (qp8 v0 (fun v14q1 => (bif v14q1 then (some false) else (oB (cutI v0 none (some (IntKind.i64.wrap ((v0.length : Int) - (1 : Int))))) fun s2 => (oB (qi8 s2 ([46] : List UInt8)) fun r3 => (qkr r3 (r3.length : Int) (fun (_ : Unit) => (some true)) FU (0 : Int))))))))
def qcl := hull qi9
theorem q2w : qcl = qi9 := qb _
def qcv {R : Type} : EntF Tryd.prog R := entB (nt := 39) (dec := decB) (enc := AV.bool) tabOk follows Tryd.func10 [.t 2] hdeB (.s .z (.s .z (.s (.s (.sub [.sel [0] []] qx3 []) .z) (.s (.s (.r [(5, .k qp7.b)] []) (.b (.sub [.sel [20, 21, 22] []] qx5 []))) .z)))) S11_ qi9 (fun f v => f (v.s 0 0)) (by kernel_rfl) (by kernel_rfl) (by kernel_rfl) fun _ => (by kernel_rfl)
def qja : Option (List AV) :=
  (bif hd ([(.agg [(.int .i64 (1 : Int)), (.str ([65] : List UInt8)), (.str ([52] : List UInt8))]), (.agg [(.int .i64 (2 : Int)), (.str ([78, 83] : List UInt8)), (.str ([104] : List UInt8))]), (.agg [(.int .i64 (5 : Int)), (.str ([67, 78, 65, 77, 69] : List UInt8)), (.str ([104] : List UInt8))]), (.agg [(.int .i64 (6 : Int)), (.str ([83, 79, 65] : List UInt8)), (.str ([104, 109, 118, 119, 120, 121, 122] : List UInt8))]), (.agg [(.int .i64 (12 : Int)), (.str ([80, 84, 82] : List UInt8)), (.str ([104] : List UInt8))]), (.agg [(.int .i64 (15 : Int)), (.str ([77, 88] : List UInt8)), (.str ([65, 104] : List UInt8))]), (.agg [(.int .i64 (16 : Int)), (.str ([84, 88, 84] : List UInt8)), (.str ([116] : List UInt8))]), (.agg [(.int .i64 (28 : Int)), (.str ([65, 65, 65, 65] : List UInt8)), (.str ([54] : List UInt8))]), (.agg [(.int .i64 (33 : Int)), (.str ([83, 82, 86] : List UInt8)), (.str ([65, 66, 67, 104] : List UInt8))]), (.agg [(.int .i64 (39 : Int)), (.str ([68, 78, 65, 77, 69] : List UInt8)), (.str ([104] : List UInt8))]), (.agg [(.int .i64 (43 : Int)), (.str ([68, 83] : List UInt8)), (.str ([65, 98, 99, 114] : List UInt8))]), (.agg [(.int .i64 (46 : Int)), (.str ([82, 82, 83, 73, 71] : List UInt8)), (.str ([65, 115, 98, 120, 121, 122, 70, 104, 114] : List UInt8))]), (.agg [(.int .i64 (47 : Int)), (.str ([78, 83, 69, 67] : List UInt8)), (.str ([104, 110] : List UInt8))]), (.agg [(.int .i64 (48 : Int)), (.str ([68, 78, 83, 75, 69, 89] : List UInt8)), (.str ([65, 98, 99, 114] : List UInt8))])] : List AV) (([(.agg [(.int .i64 (1 : Int)), (.str ([65] : List UInt8)), (.str ([52] : List UInt8))]), (.agg [(.int .i64 (2 : Int)), (.str ([78, 83] : List UInt8)), (.str ([104] : List UInt8))]), (.agg [(.int .i64 (5 : Int)), (.str ([67, 78, 65, 77, 69] : List UInt8)), (.str ([104] : List UInt8))]), (.agg [(.int .i64 (6 : Int)), (.str ([83, 79, 65] : List UInt8)), (.str ([104, 109, 118, 119, 120, 121, 122] : List UInt8))]), (.agg [(.int .i64 (12 : Int)), (.str ([80, 84, 82] : List UInt8)), (.str ([104] : List UInt8))]), (.agg [(.int .i64 (15 : Int)), (.str ([77, 88] : List UInt8)), (.str ([65, 104] : List UInt8))]), (.agg [(.int .i64 (16 : Int)), (.str ([84, 88, 84] : List UInt8)), (.str ([116] : List UInt8))]), (.agg [(.int .i64 (28 : Int)), (.str ([65, 65, 65, 65] : List UInt8)), (.str ([54] : List UInt8))]), (.agg [(.int .i64 (33 : Int)), (.str ([83, 82, 86] : List UInt8)), (.str ([65, 66, 67, 104] : List UInt8))]), (.agg [(.int .i64 (39 : Int)), (.str ([68, 78, 65, 77, 69] : List UInt8)), (.str ([104] : List UInt8))]), (.agg [(.int .i64 (43 : Int)), (.str ([68, 83] : List UInt8)), (.str ([65, 98, 99, 114] : List UInt8))]), (.agg [(.int .i64 (46 : Int)), (.str ([82, 82, 83, 73, 71] : List UInt8)), (.str ([65, 115, 98, 120, 121, 122, 70, 104, 114] : List UInt8))]), (.agg [(.int .i64 (47 : Int)), (.str ([78, 83, 69, 67] : List UInt8)), (.str ([104, 110] : List UInt8))]), (.agg [(.int .i64 (48 : Int)), (.str ([68, 78, 83, 75, 69, 89] : List UInt8)), (.str ([65, 98, 99, 114] : List UInt8))])] : List AV).length) then (some ([(.agg [(.int .i64 (1 : Int)), (.str ([65] : List UInt8)), (.str ([52] : List UInt8))]), (.agg [(.int .i64 (2 : Int)), (.str ([78, 83] : List UInt8)), (.str ([104] : List UInt8))]), (.agg [(.int .i64 (5 : Int)), (.str ([67, 78, 65, 77, 69] : List UInt8)), (.str ([104] : List UInt8))]), (.agg [(.int .i64 (6 : Int)), (.str ([83, 79, 65] : List UInt8)), (.str ([104, 109, 118, 119, 120, 121, 122] : List UInt8))]), (.agg [(.int .i64 (12 : Int)), (.str ([80, 84, 82] : List UInt8)), (.str ([104] : List UInt8))]), (.agg [(.int .i64 (15 : Int)), (.str ([77, 88] : List UInt8)), (.str ([65, 104] : List UInt8))]), (.agg [(.int .i64 (16 : Int)), (.str ([84, 88, 84] : List UInt8)), (.str ([116] : List UInt8))]), (.agg [(.int .i64 (28 : Int)), (.str ([65, 65, 65, 65] : List UInt8)), (.str ([54] : List UInt8))]), (.agg [(.int .i64 (33 : Int)), (.str ([83, 82, 86] : List UInt8)), (.str ([65, 66, 67, 104] : List UInt8))]), (.agg [(.int .i64 (39 : Int)), (.str ([68, 78, 65, 77, 69] : List UInt8)), (.str ([104] : List UInt8))]), (.agg [(.int .i64 (43 : Int)), (.str ([68, 83] : List UInt8)), (.str ([65, 98, 99, 114] : List UInt8))]), (.agg [(.int .i64 (46 : Int)), (.str ([82, 82, 83, 73, 71] : List UInt8)), (.str ([65, 115, 98, 120, 121, 122, 70, 104, 114] : List UInt8))]), (.agg [(.int .i64 (47 : Int)), (.str ([78, 83, 69, 67] : List UInt8)), (.str ([104, 110] : List UInt8))]), (.agg [(.int .i64 (48 : Int)), (.str ([68, 78, 83, 75, 69, 89] : List UInt8)), (.str ([65, 98, 99, 114] : List UInt8))])] : List AV)) else none)
def qml := hull qja
theorem q2x : qml = qja := qb _
def qub {R : Type} : EntF Tryd.prog R := entB (nt := 16) (dec := (decF true 3)) (enc := (AV.fr true 3)) tabOk follows Tryd.func94 [.t 0] hdeF (.z) (⟨[], []⟩ : Shp) qja (fun f v => f) (by kernel_rfl) (by kernel_rfl) (by kernel_rfl) fun _ => (by kernel_rfl)
def qf6 : List LT := [(.i .i64), .s, .s]
def q0l (x0 : Int) (x1 x2 : List UInt8) : List AV := [.int .i64 x0, .str x1, .str x2]
def S14_ : Shp := ⟨[(0, .one (.l (.i .i64))), (2, .one (.ptr 0 0)), (6, .one (.l (.sl 3))), (7, .one (.l (.i .i64))), (8, .one (.l (.i .i64)))], [.box true (lk qf6)]⟩
def qrr : AV → Option (AV × Bool) := decN [(.st [(.i .i64), .s, .s]), (.one .b)] fun z => ((gC (tpL z) 0), aB (gC (tpL z) 1))
def qnq  (Aa : Int) (Ab Ac : List UInt8) (K : Ex → Env → Mem → Option (AV × Bool)) := (fun (_ : Unit) => K (.exit 0) (qh [(2, (.ptr 0 0))]) (qi [(some (.box true (q0l Aa Ab Ac)))]))
def qez  (v0 : Int) (v6 : List AV) (v7 v8 Aa : Int) (Ab Ac : List UInt8) (next : Int → Option (AV × Bool)) (kx0 : Unit → Option (AV × Bool)) : Option (AV × Bool) :=
  (bif (decide (v8 < v7)) then (oB (ixB v6 v8) fun y1 => (bif fitC qf6 y1.cells then (bif ((gI y1.cells 0) == v0) then (some ((.agg [(.int .i64 (gI y1.cells 0)), (.str (gS y1.cells 1)), (.str (gS y1.cells 2))]), true)) else (next (IntKind.i64.wrap (v8 + (1 : Int))))) else none)) else (kx0 ()))
def qe0  (v0 : Int) (v6 : List AV) (v7 Aa : Int) (Ab Ac : List UInt8) (kx0 : Unit → Option (AV × Bool)) : Nat → Int → Option (AV × Bool)
  | 0 => (fun _ => none)
  | n + 1 => (fun v8 => qez v0 v6 v7 v8 Aa Ab Ac (qe0 v0 v6 v7 Aa Ab Ac kx0 n) kx0)
def quc := hull (qe0)
theorem qzj : quc = qe0 := qb _
def q0m : SubB Tryd.prog (TIof Tryd.prog) 19 0 (kret [(.cell 2 true 3), .t 3] qrr) := lpB tabOk follows Tryd.f80 37 (.s .z (.s (.s .z (.v [.sel [2] [0]])) (.s (.b (.s (.r [(0, .p (.etac 10 qf6))] []) .z)) (.v [.sel [0, 2, 6, 7, 8] [0]])))) S14_ (qe0) (fun f v K n => f (v.i 0 0) (v.l 24 0) (v.i 28 0) (v.i 3 0) (v.s 3 1) (v.s 3 2) (qnq (v.i 3 0) (v.s 3 1) (v.s 3 2) K) n) (fun v f K => qez (v.i 0 0) (v.l 24 0) (v.i 28 0) (v.i 32 0) (v.i 3 0) (v.s 3 1) (v.s 3 2) f (qnq (v.i 3 0) (v.s 3 1) (v.s 3 2) K)) (fun f v => f (v.i 32 0)) (fun k v => (fun z0 => k (v.ui 32 0 z0))) (by kernel_rfl) (fun _ _ => (by kernel_rfl)) (fun _ _ _ => (by kernel_rfl)) (fun _ _ _ => (by kernel_rfl)) (fun _ _ => (by kernel_rfl)) (fun _ _ _ _ _ => (by kernel_rfl))
def qks (v0 : Int) : Option (AV × Bool) :=
  (oB (qml) fun r1 => (quc v0 r1 (r1.length : Int) (0 : Int) ([] : List UInt8) ([] : List UInt8) (fun (_ : Unit) => (some ((.agg [(.int .i64 (0 : Int)), (.str ([] : List UInt8)), (.str ([] : List UInt8))]), false))) FU (0 : Int)))
def q0n := hull qks
theorem q5j : q0n = qks := qb _
def q6i {R : Type} : EntF Tryd.prog R := entB (nt := 19) (dec := qrr) (enc := (fun r => .tup [qd4 (.st [(.i .i64), .s, .s]) r.1, .bool r.2])) tabOk follows Tryd.func80 [(.cell 2 true 3), .t 3] (hdeN fun _ => rfl) (.s .z (.s (.s (.r [(0, .k qub.b)] []) (.b (.sub [.sel [0, 2, 6, 7, 8] [0]] q0m []))) .z)) S0_ qks (fun f v => f (v.i 0 0)) (by kernel_rfl) (by kernel_rfl) (by kernel_rfl) fun _ => (by kernel_rfl)
def qjb (v0 : Int) : Option Bool :=
  (oB (q0n v0) fun r1 => (some r1.2))
def qmm := hull qjb
theorem q2y : qmm = qjb := qb _
def qud {R : Type} : EntF Tryd.prog R := entB (nt := 11) (dec := decB) (enc := AV.bool) tabOk follows Tryd.func71 [.t 2] hdeB (.s .z (.s (.r [(1, .c q6i.b)] []) .z)) S0_ qjb (fun f v => f (v.i 0 0)) (by kernel_rfl) (by kernel_rfl) (by kernel_rfl) fun _ => (by kernel_rfl)
def q99 : List LT := [.b, (.i .u64), (.i .u64)]
def S15_ : Shp := ⟨[(0, .st (lk q99))], []⟩
def qkt (Ae : Bool) (Af Ag : Int) : Option Bool :=
  (bif Ae then (some true) else (bif (Af == (0 : Int)) then (some (decide (Ag ≤ (4294967295 : Int)))) else (some false)))
def qsx := hull qkt
theorem q5k : qsx = qkt := qb _
def q6j {R : Type} : EntF Tryd.prog R := entB (nt := 15) (dec := decB) (enc := AV.bool) tabOk follows Tryd.func81 [.t 2] hdeB (.z) S15_ qkt (fun f v => f (v.b 1 0) (v.i 1 1) (v.i 1 2)) (by kernel_rfl) (by kernel_rfl) (by kernel_rfl) fun _ => (by kernel_rfl)
def qdr (v0 v1 : List UInt8) : Option Bool :=
  (bif (decide ((v0.length : Int) ≥ (v1.length : Int))) then (oB (cutI v0 none (some (v1.length : Int))) fun s1 => (some (s1 == v1))) else (some false))
def qj6 := hull qdr
theorem qov : qj6 = qdr := qb _
def qp4 {R : Type} : EntF Tryd.prog R := entB (nt := 18) (dec := decB) (enc := AV.bool) tabOk follows Tryd.func99 [.t 4] hdeB (.z) S4_ qdr (fun f v => f (v.s 0 0) (v.s 4 0)) (by kernel_rfl) (by kernel_rfl) (by kernel_rfl) fun _ => (by kernel_rfl)
def qer (v0 v1 : List UInt8) : Option Bool :=
  (oB (qj6 v0 v1) fun r1 => (some r1))
def qnr := hull qer
theorem qsy : qnr = qer := qb _
def qu1 {R : Type} : EntF Tryd.prog R := entB (nt := 8) (dec := decB) (enc := AV.bool) tabOk follows Tryd.func95 [.t 4] hdeB (.s .z (.s (.r [(2, .c qp4.b)] []) .z)) S4_ qer (fun f v => f (v.s 0 0) (v.s 4 0)) (by kernel_rfl) (by kernel_rfl) (by kernel_rfl) fun _ => (by kernel_rfl)
def qku (v0 : List UInt8) : Option Bool :=
  (oB (qcl v0) fun r1 => (bif r1 then (oB (qnr v0 ([42] : List UInt8)) fun r2 => (some (!r2))) else (some false)))
def qe1 := hull qku
theorem q5l : qe1 = qku := qb _
def qf7 {R : Type} : EntF Tryd.prog R := entB (nt := 10) (dec := decB) (enc := AV.bool) tabOk follows Tryd.func82 [.t 2] hdeB (.s .z (.s (.r [(1, .c qcv.b), (4, .c qu1.b)] []) .z)) S11_ qku (fun f v => f (v.s 0 0)) (by kernel_rfl) (by kernel_rfl) (by kernel_rfl) fun _ => (by kernel_rfl)
def qlu (v0 : Int) : Option Bool :=
  (some ((decide (v0 ≥ (0 : Int))) && (decide (v0 < (4294967296 : Int)))))
def qow := hull qlu
theorem q0o : qow = qlu := qb _
def q2z {R : Type} : EntF Tryd.prog R := entB (nt := 9) (dec := decB) (enc := AV.bool) tabOk follows Tryd.func83 [.t 2] hdeB (.s .z (.s (.r [(3, .g 2)] []) .z)) S0_ qlu (fun f v => f (v.i 0 0)) (by kernel_rfl) (by kernel_rfl) (by kernel_rfl) fun _ => (by kernel_rfl)
def S16_ : Shp := ⟨[(0, .one (.l (.i .i64))), (1, .one (.l (.i .i64)))], []⟩
def qlv (v0 v1 : Int) : Option Bool :=
  (some ((decide (v0 ≥ (0 : Int))) && (decide (v0 ≤ v1))))
def qq := hull qlv
theorem q0p : qq = qlv := qb _
def qr {R : Type} : EntF Tryd.prog R := entB (nt := 12) (dec := decB) (enc := AV.bool) tabOk follows Tryd.func84 [.t 4] hdeB (.s .z (.s (.r [(3, .g 3)] []) .z)) S16_ qlv (fun f v => f (v.i 0 0) (v.i 4 0)) (by kernel_rfl) (by kernel_rfl) (by kernel_rfl) fun _ => (by kernel_rfl)
def qox (v0 : List UInt8) : Option Bool :=
  (some ((decide ((v0.length : Int) ≥ (1 : Int))) && (decide ((v0.length : Int) ≤ (255 : Int)))))
def qkv := hull qox
theorem q5m : qkv = qox := qb _
def qoy {R : Type} : EntF Tryd.prog R := entB (nt := 11) (dec := decB) (enc := AV.bool) tabOk follows Tryd.func85 [.t 2] hdeB (.s .z (.s (.r [(4, .g 3)] []) .z)) S11_ qox (fun f v => f (v.s 0 0)) (by kernel_rfl) (by kernel_rfl) (by kernel_rfl) fun _ => (by kernel_rfl)
def S17_ : Shp := ⟨[(1, .one (.l (.i .u64))), (4, .one (.l (.sl 3))), (5, .one (.l (.i .i64))), (6, .one (.l (.i .i64)))], []⟩
def qoz  (K : Ex → Env → Mem → Option Int) := (fun z_v1 => K (.exit 0) (qh [(1, (.int .u64 z_v1))]) (qi []))
def qf8  (v1 : Int) (v4 : List AV) (v5 v6 : Int) (next : Int → Int → Option Int) (kx0 : Int → Option Int) : Option Int :=
  (bif (decide (v6 < v5)) then (oB (ixB v4 v6) fun y1 => (bif fitC qf6 y1.cells then (bif decide ((gI y1.cells 0) < 0) then none else (next (qfa .or .u64 v1 (IntKind.u64.wrap ((1 : Int) * 2 ^ min (gI y1.cells 0).toNat IntKind.u64.bits))) (IntKind.i64.wrap (v6 + (1 : Int))))) else none)) else (kx0 v1))
def qf9  (v4 : List AV) (v5 : Int) (kx0 : Int → Option Int) : Nat → Int → Int → Option Int
  | 0 => (fun _ _ => none)
  | n + 1 => (fun v1 v6 => qf8 v1 v4 v5 v6 (qf9 v4 v5 kx0 n) kx0)
def qvi := hull (qf9)
theorem q0q : qvi = qf9 := qb _
def q20 : SubB Tryd.prog (TIof Tryd.prog) 17 0 (kret [.t 0] (decI .u64)) := lpB tabOk follows Tryd.f86 75 (.s .z (.s (.s .z (.v [.sel [1] []])) (.s (.b (.s (.r [(0, .p (.etac 8 qf6))] []) .z)) (.v [.sel [1, 4, 5, 6] []])))) S17_ (qf9) (fun f v K n => f (v.l 16 0) (v.i 20 0) (qoz K) n) (fun v f K => qf8 (v.i 4 0) (v.l 16 0) (v.i 20 0) (v.i 24 0) f (qoz K)) (fun f v => f (v.i 4 0) (v.i 24 0)) (fun k v => (fun z0 z1 => k ((v.ui 4 0 z0).ui 24 0 z1))) (by kernel_rfl) (fun _ _ => (by kernel_rfl)) (fun _ _ _ => (by kernel_rfl)) (fun _ _ _ => (by kernel_rfl)) (fun _ _ => (by kernel_rfl)) (fun _ _ _ _ _ => (by kernel_rfl))
def qmn : Option Int :=
  (oB (qml) fun r1 => (qvi r1 (r1.length : Int) (fun v1q2 => (some v1q2)) FU (0 : Int) (0 : Int)))
def qvj := hull qmn
theorem q6k : qvj = qmn := qb _
def q8p {R : Type} : EntF Tryd.prog R := entB (nt := 17) (dec := (decI .u64)) (enc := (AV.int .u64)) tabOk follows Tryd.func86 [.t 0] hdeI (.s .z (.s .z (.s (.s (.r [(0, .k qub.b)] []) (.b (.sub [.sel [1, 4, 5, 6] []] q20 []))) .z))) (⟨[], []⟩ : Shp) qmn (fun f v => f) (by kernel_rfl) (by kernel_rfl) (by kernel_rfl) fun _ => (by kernel_rfl)
def que (x0 : Bool) (x1 x2 : Int) (x3 x4 x5 : List UInt8) (x6 x7 x8 x9 x10 x11 x12 : Int) : List AV := [.bool x0, .int .u64 x1, .int .u64 x2, .str x3, .str x4, .str x5, .int .i64 x6, .int .i64 x7, .int .i64 x8, .int .i64 x9, .int .i64 x10, .int .i64 x11, .int .u64 x12]
def S18_ : Shp := ⟨[(0, .one (.l (.i .i64))), (3, .one (.ptr 0 0)), (5, .one (.l (.i .i64)))], [.box true (lk qbp)]⟩
def S19_ : Shp := ⟨[(3, .one (.ptr 0 0)), (5, .one (.l (.i .i64)))], [.box true (lk qbp)]⟩
def S20_ : Shp := ⟨[(3, .one (.ptr 0 0))], [.box true (lk qbp)]⟩
def S21_ : Shp := ⟨[(0, .one (.l (.i .i64))), (1, .st (lk qbp))], []⟩
def qx6  (v0 v5 : Int) (Aa : Bool) (Ab Ac : Int) (Ad Ai Aj : List UInt8) (Ak Al Am An Ao Ap Aq : Int) (K : Ex → Env → Mem → Option Bool) := (fun z_v6 => K .norm (qh [(0, (.int .i64 v0)), (3, (.ptr 0 0)), (5, (.int .i64 v5)), (6, (.bool z_v6))]) (qi [(some (.box true (que Aa Ab Ac Ad Ai Aj Ak Al Am An Ao Ap Aq)))]))
def qgn  (v0 v5 : Int) (Aa : Bool) (Ab Ac : Int) (Ad Ai Aj : List UInt8) (Ak Al Am An Ao Ap Aq : Int) (kn : Bool → Option Bool) : Option Bool :=
  (bif (v5 == (1 : Int)) then (kn true) else (kn (v5 == (28 : Int))))
def qrs := hull (qgn)
theorem qx7 : qrs = qgn := qb _
def qzk : SubB Tryd.prog (TIof Tryd.prog) 324 0 (kret [.t 4] decB) := jnB tabOk follows Tryd.f72 37 (.s .z (.s (.v [.sel [0, 3, 5, 6] [0]]) (.v [.sel [0, 3, 5, 6] [0]]))) S18_ (qgn) (fun f v K => f (v.i 0 0) (v.i 20 0) (v.b 3 0) (v.i 3 1) (v.i 3 2) (v.s 3 3) (v.s 3 4) (v.s 3 5) (v.i 3 6) (v.i 3 7) (v.i 3 8) (v.i 3 9) (v.i 3 10) (v.i 3 11) (v.i 3 12) (qx6 (v.i 0 0) (v.i 20 0) (v.b 3 0) (v.i 3 1) (v.i 3 2) (v.s 3 3) (v.s 3 4) (v.s 3 5) (v.i 3 6) (v.i 3 7) (v.i 3 8) (v.i 3 9) (v.i 3 10) (v.i 3 11) (v.i 3 12) K)) (by kernel_rfl) (fun _ _ => (by kernel_rfl))
def qvk  (v5 : Int) (Aa : Bool) (Ab Ac : Int) (Ad Ai Aj : List UInt8) (Ak Al Am An Ao Ap Aq : Int) (K : Ex → Env → Mem → Option Bool) := (fun z_v27 => K .norm (qh [(3, (.ptr 0 0)), (5, (.int .i64 v5)), (27, (.bool z_v27))]) (qi [(some (.box true (que Aa Ab Ac Ad Ai Aj Ak Al Am An Ao Ap Aq)))]))
def qft  (v5 : Int) (Aa : Bool) (Ab Ac : Int) (Ad Ai Aj : List UInt8) (Ak Al Am An Ao Ap Aq : Int) (kn : Bool → Option Bool) : Option Bool :=
  (bif (v5 == (2 : Int)) then (kn true) else (bif (v5 == (5 : Int)) then (kn true) else (bif (v5 == (12 : Int)) then (kn true) else (kn (v5 == (39 : Int))))))
def qqa := hull (qft)
theorem qvl : qqa = qft := qb _
def qx8 : SubB Tryd.prog (TIof Tryd.prog) 324 0 (kret [.t 4] decB) := jnB tabOk follows Tryd.f72 181 (.s .z (.s (.v [.sel [3, 5, 27] [0]]) (.s .z (.s (.v [.sel [3, 5, 27] [0]]) (.s .z (.s (.v [.sel [3, 5, 27] [0]]) (.v [.sel [3, 5, 27] [0]]))))))) S19_ (qft) (fun f v K => f (v.i 20 0) (v.b 3 0) (v.i 3 1) (v.i 3 2) (v.s 3 3) (v.s 3 4) (v.s 3 5) (v.i 3 6) (v.i 3 7) (v.i 3 8) (v.i 3 9) (v.i 3 10) (v.i 3 11) (v.i 3 12) (qvk (v.i 20 0) (v.b 3 0) (v.i 3 1) (v.i 3 2) (v.s 3 3) (v.s 3 4) (v.s 3 5) (v.i 3 6) (v.i 3 7) (v.i 3 8) (v.i 3 9) (v.i 3 10) (v.i 3 11) (v.i 3 12) K)) (by kernel_rfl) (fun _ _ => (by kernel_rfl))
def qvm  (K : Ex → Env → Mem → Option Bool) := (fun z_v4 => K .norm (qh [(4, (.bool z_v4))]) (qi []))
def qfu  (Aa : Bool) (Ab Ac : Int) (Ad Ai Aj : List UInt8) (Ak Al Am An Ao Ap Aq : Int) (kn : Bool → Option Bool) : Option Bool :=
  (bif ((Aa == false) && ((Ab == (0 : Int)) && ((Ac == (0 : Int)) && ((Ad == Ad) && ((Ai == Ai) && ((Aj == ([] : List UInt8)) && ((Ak == Ak) && ((Al == Al) && ((Am == Am) && ((An == An) && ((Ao == Ao) && ((Ap == (0 : Int)) && ((Aq == (0 : Int)) && true))))))))))))) then (oB (qe1 Ad) fun r1 => (bif r1 then (oB (qe1 Ai) fun r2 => (bif r2 then (oB (qow Ak) fun r3 => (bif r3 then (oB (qq Al (2147483647 : Int)) fun r4 => (bif r4 then (oB (qq Am (2147483647 : Int)) fun r5 => (bif r5 then (oB (qq An (2147483647 : Int)) fun r6 => (bif r6 then (oB (qq Ao (2147483647 : Int)) fun r7 => (kn r7)) else (kn false))) else (kn false))) else (kn false))) else (kn false))) else (kn false))) else (kn false))) else (kn false))
def qqb := hull (qfu)
theorem qvn : qqb = qfu := qb _
def qx9 : SubB Tryd.prog (TIof Tryd.prog) 324 0 (kret [.t 4] decB) := jnB tabOk follows Tryd.f72 2549 (.r [(20, .c qf7.b), (25, .c qf7.b), (30, .c q2z.b), (35, .c qr.b), (40, .c qr.b), (45, .c qr.b), (50, .c qr.b)] [.sel [4] []]) S20_ (qfu) (fun f v K => f (v.b 3 0) (v.i 3 1) (v.i 3 2) (v.s 3 3) (v.s 3 4) (v.s 3 5) (v.i 3 6) (v.i 3 7) (v.i 3 8) (v.i 3 9) (v.i 3 10) (v.i 3 11) (v.i 3 12) (qvm K)) (by kernel_rfl) (fun _ _ => (by kernel_rfl))
def qvo  (K : Ex → Env → Mem → Option Bool) := (fun z_v4 => K .norm (qh [(4, (.bool z_v4))]) (qi []))
def qfv  (Aa : Bool) (Ab Ac : Int) (Ad Ai Aj : List UInt8) (Ak Al Am An Ao Ap Aq : Int) (kn : Bool → Option Bool) : Option Bool :=
  (bif ((Aa == false) && ((Ab == (0 : Int)) && ((Ac == (0 : Int)) && ((Ad == Ad) && ((Ai == ([] : List UInt8)) && ((Aj == Aj) && ((Ak == Ak) && ((Al == Al) && ((Am == Am) && ((An == An) && ((Ao == Ao) && ((Ap == Ap) && ((Aq == (0 : Int)) && true))))))))))))) then (oB (qkv Aj) fun r1 => (bif r1 then (oB (qe1 Ad) fun r2 => (bif r2 then (oB (qmm Ak) fun r3 => (bif (r3 && (Ak != (46 : Int))) then (oB (qq Al (127 : Int)) fun r4 => (bif r4 then (oB (qq Am (2147483647 : Int)) fun r5 => (bif r5 then (oB (qq An (4294967295 : Int)) fun r6 => (bif r6 then (oB (qq Ao (4294967295 : Int)) fun r7 => (bif r7 then (oB (qq Ap (65535 : Int)) fun r8 => (kn r8)) else (kn false))) else (kn false))) else (kn false))) else (kn false))) else (kn false))) else (kn false))) else (kn false))) else (kn false))
def qqc := hull (qfv)
theorem qvp : qqc = qfv := qb _
def qya : SubB Tryd.prog (TIof Tryd.prog) 324 0 (kret [.t 4] decB) := jnB tabOk follows Tryd.f72 2621429 (.r [(22, .c qoy.b), (27, .c qf7.b), (32, .c qud.b), (35, .g 3), (42, .c qr.b), (47, .c qr.b), (52, .c qr.b), (57, .c qr.b), (62, .c qr.b)] [.sel [4] []]) S20_ (qfv) (fun f v K => f (v.b 3 0) (v.i 3 1) (v.i 3 2) (v.s 3 3) (v.s 3 4) (v.s 3 5) (v.i 3 6) (v.i 3 7) (v.i 3 8) (v.i 3 9) (v.i 3 10) (v.i 3 11) (v.i 3 12) (qvo K)) (by kernel_rfl) (fun _ _ => (by kernel_rfl))
def qvq  (K : Ex → Env → Mem → Option Bool) := (fun z_v4 => K .norm (qh [(4, (.bool z_v4))]) (qi []))
def qfw  (Aa : Bool) (Ab Ac : Int) (Ad Ai Aj : List UInt8) (Ak Al Am An Ao Ap Aq : Int) (kn : Bool → Option Bool) : Option Bool :=
  (bif ((Aa == false) && ((Ab == (0 : Int)) && ((Ac == (0 : Int)) && ((Ad == ([] : List UInt8)) && ((Ai == ([] : List UInt8)) && ((Aj == Aj) && ((Ak == Ak) && ((Al == Al) && ((Am == Am) && ((An == (0 : Int)) && ((Ao == (0 : Int)) && ((Ap == (0 : Int)) && ((Aq == (0 : Int)) && true))))))))))))) then (oB (qkv Aj) fun r1 => (bif r1 then (bif (Ak == (256 : Int)) then (bif (Al == (3 : Int)) then (oB (qq Am (255 : Int)) fun r2 => (kn r2)) else (kn false)) else (bif ((Ak == (257 : Int)) && (Al == (3 : Int))) then (oB (qq Am (255 : Int)) fun r3 => (kn r3)) else (kn false))) else (kn false))) else (kn false))
def qqd := hull (qfw)
theorem qvr : qqd = qfw := qb _
def qyb : SubB Tryd.prog (TIof Tryd.prog) 324 0 (kret [.t 4] decB) := jnB tabOk follows Tryd.f72 41943029 (.r [(14, .c qoy.b), (27, .g 3), (34, .c qr.b)] [.sel [4] []]) S20_ (qfw) (fun f v K => f (v.b 3 0) (v.i 3 1) (v.i 3 2) (v.s 3 3) (v.s 3 4) (v.s 3 5) (v.i 3 6) (v.i 3 7) (v.i 3 8) (v.i 3 9) (v.i 3 10) (v.i 3 11) (v.i 3 12) (qvq K)) (by kernel_rfl) (fun _ _ => (by kernel_rfl))
def qjc (v0 : Int) (Ar : Bool) (As At : Int) (Au Av Aw : List UInt8) (Ax Ay Az A0 A1 A2 A3 : Int) : Option Bool :=
  (qrs v0 v0 Ar As At Au Av Aw Ax Ay Az A0 A1 A2 A3 (fun v6q1 => (bif v6q1 then (bif ((Ar == Ar) && ((As == As) && ((At == At) && ((Au == ([] : List UInt8)) && ((Av == ([] : List UInt8)) && ((Aw == ([] : List UInt8)) && ((Ax == (0 : Int)) && ((Ay == (0 : Int)) && ((Az == (0 : Int)) && ((A0 == (0 : Int)) && ((A1 == (0 : Int)) && ((A2 == (0 : Int)) && ((A3 == (0 : Int)) && true))))))))))))) then (oB (qsx Ar As At) fun r2 => (some (r2 && ((Ar == (v0 == (28 : Int))) && true)))) else (some false)) else (qqa v0 Ar As At Au Av Aw Ax Ay Az A0 A1 A2 A3 (fun v27q3 => (bif v27q3 then (bif ((Ar == false) && ((As == (0 : Int)) && ((At == (0 : Int)) && ((Au == Au) && ((Av == ([] : List UInt8)) && ((Aw == ([] : List UInt8)) && ((Ax == (0 : Int)) && ((Ay == (0 : Int)) && ((Az == (0 : Int)) && ((A0 == (0 : Int)) && ((A1 == (0 : Int)) && ((A2 == (0 : Int)) && ((A3 == (0 : Int)) && true))))))))))))) then (oB (qe1 Au) fun r4 => (some r4)) else (some false)) else (bif (v0 == (6 : Int)) then (qqb Ar As At Au Av Aw Ax Ay Az A0 A1 A2 A3 (fun v4q5 => (some v4q5))) else (bif (v0 == (15 : Int)) then (bif ((Ar == false) && ((As == (0 : Int)) && ((At == (0 : Int)) && ((Au == Au) && ((Av == ([] : List UInt8)) && ((Aw == ([] : List UInt8)) && ((Ax == Ax) && ((Ay == (0 : Int)) && ((Az == (0 : Int)) && ((A0 == (0 : Int)) && ((A1 == (0 : Int)) && ((A2 == (0 : Int)) && ((A3 == (0 : Int)) && true))))))))))))) then (oB (qe1 Au) fun r6 => (bif r6 then (oB (qq Ax (65535 : Int)) fun r7 => (some r7)) else (some false))) else (some false)) else (bif (v0 == (16 : Int)) then (some (((Ar == false) && ((As == (0 : Int)) && ((At == (0 : Int)) && ((Au == ([] : List UInt8)) && ((Av == ([] : List UInt8)) && ((Aw == Aw) && ((Ax == (0 : Int)) && ((Ay == (0 : Int)) && ((Az == (0 : Int)) && ((A0 == (0 : Int)) && ((A1 == (0 : Int)) && ((A2 == (0 : Int)) && ((A3 == (0 : Int)) && true))))))))))))) && (decide ((Aw.length : Int) ≤ (255 : Int))))) else (bif (v0 == (33 : Int)) then (bif ((Ar == false) && ((As == (0 : Int)) && ((At == (0 : Int)) && ((Au == Au) && ((Av == ([] : List UInt8)) && ((Aw == ([] : List UInt8)) && ((Ax == Ax) && ((Ay == Ay) && ((Az == Az) && ((A0 == (0 : Int)) && ((A1 == (0 : Int)) && ((A2 == (0 : Int)) && ((A3 == (0 : Int)) && true))))))))))))) then (oB (qe1 Au) fun r8 => (bif r8 then (oB (qq Ax (65535 : Int)) fun r9 => (bif r9 then (oB (qq Ay (65535 : Int)) fun r10 => (bif r10 then (oB (qq Az (65535 : Int)) fun r11 => (some r11)) else (some false))) else (some false))) else (some false))) else (some false)) else (bif (v0 == (43 : Int)) then (bif ((Ar == false) && ((As == (0 : Int)) && ((At == (0 : Int)) && ((Au == ([] : List UInt8)) && ((Av == ([] : List UInt8)) && ((Aw == Aw) && ((Ax == Ax) && ((Ay == Ay) && ((Az == Az) && ((A0 == (0 : Int)) && ((A1 == (0 : Int)) && ((A2 == (0 : Int)) && ((A3 == (0 : Int)) && true))))))))))))) then (oB (qkv Aw) fun r12 => (bif r12 then (oB (qq Ax (65535 : Int)) fun r13 => (bif r13 then (oB (qq Ay (255 : Int)) fun r14 => (bif r14 then (oB (qq Az (255 : Int)) fun r15 => (some r15)) else (some false))) else (some false))) else (some false))) else (some false)) else (bif (v0 == (46 : Int)) then (qqc Ar As At Au Av Aw Ax Ay Az A0 A1 A2 A3 (fun v4q16 => (some v4q16))) else (bif (v0 == (47 : Int)) then (bif ((Ar == false) && ((As == (0 : Int)) && ((At == (0 : Int)) && ((Au == Au) && ((Av == ([] : List UInt8)) && ((Aw == ([] : List UInt8)) && ((Ax == (0 : Int)) && ((Ay == (0 : Int)) && ((Az == (0 : Int)) && ((A0 == (0 : Int)) && ((A1 == (0 : Int)) && ((A2 == (0 : Int)) && ((A3 == A3) && true))))))))))))) then (oB (qcl Au) fun r17 => (bif r17 then (bif (A3 != (0 : Int)) then (oB (qvj) fun r18 => (some ((qfa .andNot .u64 A3 r18) == (0 : Int)))) else (some false)) else (some false))) else (some false)) else (bif (v0 == (48 : Int)) then (qqd Ar As At Au Av Aw Ax Ay Az A0 A1 A2 A3 (fun v4q19 => (some v4q19))) else (some false)))))))))))))))
def qre := hull qjc
theorem q21 : qre = qjc := qb _
def q5n {R : Type} : EntF Tryd.prog R := entB (nt := 324) (dec := decB) (enc := AV.bool) tabOk follows Tryd.func72 [.t 4] hdeB (.s .z (.s (.s .z (.b (.s (.sub [.sel [0, 3, 5] [0]] qzk []) (.s (.s (.r [(8, .c q6j.b), (11, .g 6)] []) .z) (.s (.sub [.sel [3, 5] [0]] qx8 []) (.s (.s (.r [(8, .c qf7.b)] []) .z) (.s .z (.s (.s (.sub [.sel [3] [0]] qx9 []) .z) (.s .z (.s (.s (.r [(10, .c qf7.b), (15, .c qr.b)] []) .z) (.s .z (.s (.s (.r [(6, .g 4)] []) .z) (.s .z (.s (.s (.r [(14, .c qf7.b), (19, .c qr.b), (24, .c qr.b), (29, .c qr.b)] []) .z) (.s .z (.s (.s (.r [(14, .c qoy.b), (19, .c qr.b), (24, .c qr.b), (29, .c qr.b)] []) .z) (.s .z (.s (.s (.sub [.sel [3] [0]] qya []) .z) (.s .z (.s (.s (.d [] [(10, .c qcv.b), (20, .c q8p.b)] [] []) .z) (.s .z (.s (.s (.sub [.sel [3] [0]] qyb []) .z) .z)))))))))))))))))))))) .z)) S21_ qjc (fun f v => f (v.i 0 0) (v.b 5 0) (v.i 5 1) (v.i 5 2) (v.s 5 3) (v.s 5 4) (v.s 5 5) (v.i 5 6) (v.i 5 7) (v.i 5 8) (v.i 5 9) (v.i 5 10) (v.i 5 11) (v.i 5 12)) (by kernel_rfl) (by kernel_rfl) (by kernel_rfl) fun _ => (by kernel_rfl)
def S22_ : Shp := ⟨[(0, .st (lk qko))], []⟩
def qjd (Ae : List UInt8) (Af Ag : Int) (Ah : Bool) (A4 A5 : Int) (A6 A7 A8 : List UInt8) (A9 Ba Bb Bc Bd Be Bf : Int) : Option Bool :=
  (oB (qcl Ae) fun r1 => (bif r1 then (oB (qmm Af) fun r2 => (bif ((r2 && (decide (Ag ≥ (0 : Int)))) && (decide (Ag ≤ (2147483647 : Int)))) then (oB (qre Af Ah A4 A5 A6 A7 A8 A9 Ba Bb Bc Bd Be Bf) fun r3 => (some r3)) else (some false))) else (some false)))
def qrf := hull qjd
theorem q23 : qrf = qjd := qb _
def q5o {R : Type} : EntF Tryd.prog R := entB (nt := 28) (dec := decB) (enc := AV.bool) tabOk follows Tryd.func58 [.t 2] hdeB (.s .z (.s (.r [(2, .c qcv.b), (6, .c qud.b), (9, .g 3), (14, .g 3), (23, .c q5n.b)] []) .z)) S22_ qjd (fun f v => f (v.s 1 0) (v.i 1 1) (v.i 1 2) (v.b 1 3) (v.i 1 4) (v.i 1 5) (v.s 1 6) (v.s 1 7) (v.s 1 8) (v.i 1 9) (v.i 1 10) (v.i 1 11) (v.i 1 12) (v.i 1 13) (v.i 1 14) (v.i 1 15)) (by kernel_rfl) (by kernel_rfl) (by kernel_rfl) fun _ => (by kernel_rfl)
def qe2 (Ae : List UInt8) (Af Ag : Int) (Ah : Bool) (A4 A5 : Int) (A6 A7 A8 : List UInt8) (A9 Ba Bb Bc Bd Be Bf : Int) : Option Bool :=
  (oB (qrf Ae Af Ag Ah A4 A5 A6 A7 A8 A9 Ba Bb Bc Bd Be Bf) fun r1 => (some (!r1)))
def qo0 := hull qe2
theorem qu2 : qo0 = qe2 := qb _
def qvs {R : Type} : EntF Tryd.prog R := entB (nt := 6) (dec := decB) (enc := AV.bool) tabOk follows Tryd.func57 [.t 2] hdeB (.s .z (.s (.r [(1, .c q5o.b)] []) .z)) S22_ qe2 (fun f v => f (v.s 1 0) (v.i 1 1) (v.i 1 2) (v.b 1 3) (v.i 1 4) (v.i 1 5) (v.s 1 6) (v.s 1 7) (v.s 1 8) (v.i 1 9) (v.i 1 10) (v.i 1 11) (v.i 1 12) (v.i 1 13) (v.i 1 14) (v.i 1 15)) (by kernel_rfl) (by kernel_rfl) (by kernel_rfl) fun _ => (by kernel_rfl)
def S23_ : Shp := ⟨[(1, .one (.fn 57 [])), (7, .one (.l (.sl 16))), (8, .one (.l (.i .i64))), (9, .one (.l (.i .i64)))], []⟩
def S24_ : Shp := ⟨[(0, .one (.l (.sl 16))), (1, .one (.fn 57 []))], []⟩
def qcm  (K : Ex → Env → Mem → Option Int) := (fun (_ : Unit) => K (.exit 0) (qh []) (qi []))
def qo  (v7 : List AV) (v8 v9 : Int) (next : Int → Option Int) (kx0 : Unit → Option Int) : Option Int :=
  (bif (decide (v9 < v8)) then (oB (ixB v7 v9) fun y1 => (bif fitC qko y1.cells then (oB (qo0 (gS y1.cells 0) (gI y1.cells 1) (gI y1.cells 2) (gB y1.cells 3) (gI y1.cells 4) (gI y1.cells 5) (gS y1.cells 6) (gS y1.cells 7) (gS y1.cells 8) (gI y1.cells 9) (gI y1.cells 10) (gI y1.cells 11) (gI y1.cells 12) (gI y1.cells 13) (gI y1.cells 14) (gI y1.cells 15)) fun r2 => (bif r2 then (some v9) else (next (IntKind.i64.wrap (v9 + (1 : Int)))))) else none)) else (kx0 ()))
def qp  (v7 : List AV) (v8 : Int) (kx0 : Unit → Option Int) : Nat → Int → Option Int
  | 0 => (fun _ => none)
  | n + 1 => (fun v9 => qo v7 v8 v9 (qp v7 v8 kx0 n) kx0)
def qcx := hull (qp)
theorem qev : qcx = qp := qb _
def qe3 : SubB Tryd.prog (TIof Tryd.prog) 19 0 (kret [.t 4] (decI .i64)) := lpB tabOk follows Tryd.f55 37 (.s .z (.s (.s .z (.v [.sel [] []])) (.s (.b (.s (.r [(1, .p (.etac 12 qko))] []) (.s (.r [(2, .c qvs.b)] []) .z))) (.v [.sel [1, 7, 8, 9] []])))) S23_ (qp) (fun f v K n => f (v.l 28 0) (v.i 32 0) (qcm K) n) (fun v f K => qo (v.l 28 0) (v.i 32 0) (v.i 36 0) f (qcm K)) (fun f v => f (v.i 36 0)) (fun k v => (fun z0 => k (v.ui 36 0 z0))) (by kernel_rfl) (fun _ _ => (by kernel_rfl)) (fun _ _ _ => (by kernel_rfl)) (fun _ _ _ => (by kernel_rfl)) (fun _ _ => (by kernel_rfl)) (fun _ _ _ _ _ => (by kernel_rfl))
def q9 (v0 : List AV) : Option Int :=
  (qcx v0 (v0.length : Int) (fun (_ : Unit) => (some (-1 : Int))) FU (0 : Int))
def qbz := hull q9
theorem qfp : qbz = q9 := qb _
def qga {R : Type} : EntF Tryd.prog R := entB (nt := 19) (dec := (decI .i64)) (enc := (AV.int .i64)) tabOk follows Tryd.func55 [.t 4] hdeI (.s .z (.s (.s .z (.b (.sub [.sel [1, 7, 8, 9] []] qe3 []))) .z)) S24_ q9 (fun f v => f (v.l 0 0)) (by kernel_rfl) (by kernel_rfl) (by kernel_rfl) fun _ => (by kernel_rfl)
def qgo (Ae : List UInt8) (Af Ag : Int) (Ah : List AV) : Option Bool :=
  (bif (((decide ((Ah.length : Int) < (1 : Int))) || (decide ((Ah.length : Int) > (64 : Int)))) || (Ag == (0 : Int))) then (some false) else (oB (qnh Ae Af Ag Ah) fun r1 => (oB (qbz r1) fun r2 => (some (decide (r2 < (0 : Int)))))))
def qlw := hull qgo
theorem qyc : qlw = qgo := qb _
def qzl {R : Type} : EntF Tryd.prog R := entB (nt := 22) (dec := decB) (enc := AV.bool) tabOk follows Tryd.func38 [.t 2] hdeB (.s .z (.s (.s (.r [(5, .g 4), (11, .g 3)] []) .z) (.s (.r [(1, .k q0j.b), (2, .c qga.b)] []) .z))) S3_ qgo (fun f v => f (v.s 1 0) (v.i 1 1) (v.i 1 2) (v.l 1 3)) (by kernel_rfl) (by kernel_rfl) (by kernel_rfl) fun _ => (by kernel_rfl)
def qhd : Nat := 59
def qc : List LT := [(.i .i64), .s, (.i .i64), (.i .i64), (.sl 13), (.i .i64), (.i .i64), (.i .i64), (.i .i64)]
def S25_ : Shp := ⟨[(0, .st (lk qc)), (1, .one (.l (.i .i64)))], []⟩
def qhe (Ae : Int) (Af : List UInt8) (Ag Ah : Int) (A4 : List AV) (A5 A6 A7 A8 v1 : Int) : Option Bool :=
  (some (decide (v1 < A7)))
def qbi := hull qhe
theorem qsz : qbi = qhe := qb _
def qb5 {R : Type} : EntF Tryd.prog R := entB (nt := 9) (dec := decB) (enc := AV.bool) tabOk follows Tryd.func30 [.t 4] hdeB (.z) S25_ qhe (fun f v => f (v.i 1 0) (v.s 1 1) (v.i 1 2) (v.i 1 3) (v.l 1 4) (v.i 1 5) (v.i 1 6) (v.i 1 7) (v.i 1 8) (v.i 4 0)) (by kernel_rfl) (by kernel_rfl) (by kernel_rfl) fun _ => (by kernel_rfl)
def S26_ : Shp := ⟨[(0, .st (lk qc)), (1, .one (.l .s)), (2, .one (.l (.i .i64)))], []⟩
def qhf (Ae : Int) (Af : List UInt8) (Ag Ah : Int) (A4 : List AV) (A5 A6 A7 A8 : Int) (v1 : List UInt8) (v2 : Int) : Option Bool :=
  (some ((Af == v1) && (Ag == v2)))
def qcp := hull qhf
theorem qs0 : qcp = qhf := qb _
def qdt {R : Type} : EntF Tryd.prog R := entB (nt := 19) (dec := decB) (enc := AV.bool) tabOk follows Tryd.func31 [.t 6] hdeB (.s .z (.s (.r [(6, .g 5)] []) .z)) S26_ qhf (fun f v => f (v.i 1 0) (v.s 1 1) (v.i 1 2) (v.i 1 3) (v.l 1 4) (v.i 1 5) (v.i 1 6) (v.i 1 7) (v.i 1 8) (v.s 4 0) (v.i 8 0)) (by kernel_rfl) (by kernel_rfl) (by kernel_rfl) fun _ => (by kernel_rfl)
def S27_ : Shp := ⟨[(0, .st (lk qc)), (1, .cptr [(.i .i64)]), (2, .cptr [.s, (.i .i64)])], []⟩
def qje (Ae : Int) (Af : List UInt8) (Ag Ah : Int) (A4 : List AV) (A5 A6 A7 A8 Ar : Int) (Bg : List UInt8) (Bh : Int) : Option Bool :=
  (oB (qbi Ae Af Ag Ah A4 A5 A6 A7 A8 Ar) fun r1 => (bif r1 then (oB (qcp Ae Af Ag Ah A4 A5 A6 A7 A8 Bg Bh) fun r2 => (some r2)) else (some false)))
def qyr := hull qje
theorem q24 : qyr = qje := qb _
def q5p {R : Type} : EntF Tryd.prog R := entB (nt := 16) (dec := decB) (enc := AV.bool) tabOk follows Tryd.func29 [.t 4] hdeB (.s .z (.s (.r [(2, .c qb5.b), (9, .c qdt.b)] []) .z)) S27_ qje (fun f v => f (v.i 1 0) (v.s 1 1) (v.i 1 2) (v.i 1 3) (v.l 1 4) (v.i 1 5) (v.i 1 6) (v.i 1 7) (v.i 1 8) (v.i 6 0) (v.s 10 0) (v.i 10 1)) (by kernel_rfl) (by kernel_rfl) (by kernel_rfl) fun _ => (by kernel_rfl)
def qjf (Ae : Int) (Af : List UInt8) (Ag Ah : Int) (A4 : List AV) (A5 A6 A7 A8 Ar : Int) (Bg : List UInt8) (Bh : Int) : Option Bool :=
  (oB (qbi Ae Af Ag Ah A4 A5 A6 A7 A8 Ar) fun r1 => (bif (r1 && (Ae == (0 : Int))) then (oB (qcp Ae Af Ag Ah A4 A5 A6 A7 A8 Bg (5 : Int)) fun r2 => (some r2)) else (some false)))
def qys := hull qjf
theorem q25 : qys = qjf := qb _
def q5q {R : Type} : EntF Tryd.prog R := entB (nt := 19) (dec := decB) (enc := AV.bool) tabOk follows Tryd.func32 [.t 4] hdeB (.s .z (.s (.r [(2, .c qb5.b), (4, .g 3), (12, .c qdt.b)] []) .z)) S27_ qjf (fun f v => f (v.i 1 0) (v.s 1 1) (v.i 1 2) (v.i 1 3) (v.l 1 4) (v.i 1 5) (v.i 1 6) (v.i 1 7) (v.i 1 8) (v.i 6 0) (v.s 10 0) (v.i 10 1)) (by kernel_rfl) (by kernel_rfl) (by kernel_rfl) fun _ => (by kernel_rfl)
def S28_ : Shp := ⟨[(0, .st (lk qc)), (1, .one (.l .s))], []⟩
def qgp (Ae : Int) (Af : List UInt8) (Ag Ah : Int) (A4 : List AV) (A5 A6 A7 A8 : Int) (v1 : List UInt8) : Option Bool :=
  (some ((Ae == (2 : Int)) && (Af == v1)))
def qcc := hull qgp
theorem qrt : qcc = qgp := qb _
def qc9 {R : Type} : EntF Tryd.prog R := entB (nt := 15) (dec := decB) (enc := AV.bool) tabOk follows Tryd.func34 [.t 4] hdeB (.s .z (.s (.r [(4, .g 5)] []) .z)) S28_ qgp (fun f v => f (v.i 1 0) (v.s 1 1) (v.i 1 2) (v.i 1 3) (v.l 1 4) (v.i 1 5) (v.i 1 6) (v.i 1 7) (v.i 1 8) (v.s 4 0)) (by kernel_rfl) (by kernel_rfl) (by kernel_rfl) fun _ => (by kernel_rfl)
def qjg (Ae : Int) (Af : List UInt8) (Ag Ah : Int) (A4 : List AV) (A5 A6 A7 A8 Ar : Int) (Bg : List UInt8) (Bh : Int) : Option Bool :=
  (oB (qbi Ae Af Ag Ah A4 A5 A6 A7 A8 Ar) fun r1 => (bif r1 then (oB (qcc Ae Af Ag Ah A4 A5 A6 A7 A8 Bg) fun r2 => (some r2)) else (some false)))
def qyt := hull qjg
theorem q26 : qyt = qjg := qb _
def q5r {R : Type} : EntF Tryd.prog R := entB (nt := 14) (dec := decB) (enc := AV.bool) tabOk follows Tryd.func33 [.t 4] hdeB (.s .z (.s (.r [(2, .c qb5.b), (7, .c qc9.b)] []) .z)) S27_ qjg (fun f v => f (v.i 1 0) (v.s 1 1) (v.i 1 2) (v.i 1 3) (v.l 1 4) (v.i 1 5) (v.i 1 6) (v.i 1 7) (v.i 1 8) (v.i 6 0) (v.s 10 0) (v.i 10 1)) (by kernel_rfl) (by kernel_rfl) (by kernel_rfl) fun _ => (by kernel_rfl)
def S29_ : Shp := ⟨[(0, .st (lk qc)), (1, .cptr qdm)], []⟩
def qjh (Ae : Int) (Af : List UInt8) (Ag Ah : Int) (A4 : List AV) (A5 A6 A7 A8 : Int) (Ar : List UInt8) (As At : Int) (Au : List AV) : Option Bool :=
  (oB (qcp Ae Af Ag Ah A4 A5 A6 A7 A8 Ar As) fun r1 => (bif r1 then (some true) else (oB (qcc Ae Af Ag Ah A4 A5 A6 A7 A8 Ar) fun r2 => (some r2))))
def qyu := hull qjh
theorem q27 : qyu = qjh := qb _
def q5s {R : Type} : EntF Tryd.prog R := entB (nt := 16) (dec := decB) (enc := AV.bool) tabOk follows Tryd.func37 [.t 3] hdeB (.s .z (.s (.r [(5, .c qdt.b), (10, .c qc9.b)] []) .z)) S29_ qjh (fun f v => f (v.i 1 0) (v.s 1 1) (v.i 1 2) (v.i 1 3) (v.l 1 4) (v.i 1 5) (v.i 1 6) (v.i 1 7) (v.i 1 8) (v.s 6 0) (v.i 6 1) (v.i 6 2) (v.l 6 3)) (by kernel_rfl) (by kernel_rfl) (by kernel_rfl) fun _ => (by kernel_rfl)
def qji (Ae : Int) (Af : List UInt8) (Ag Ah : Int) (A4 : List AV) (A5 A6 A7 A8 : Int) (Ar : List UInt8) (As At : Int) (Au : List AV) : Option Bool :=
  (oB (qcc Ae Af Ag Ah A4 A5 A6 A7 A8 Ar) fun r1 => (some (!r1)))
def qyv := hull qji
theorem q28 : qyv = qji := qb _
def q5t {R : Type} : EntF Tryd.prog R := entB (nt := 9) (dec := decB) (enc := AV.bool) tabOk follows Tryd.func41 [.t 3] hdeB (.s .z (.s (.r [(3, .c qc9.b)] []) .z)) S29_ qji (fun f v => f (v.i 1 0) (v.s 1 1) (v.i 1 2) (v.i 1 3) (v.l 1 4) (v.i 1 5) (v.i 1 6) (v.i 1 7) (v.i 1 8) (v.s 6 0) (v.i 6 1) (v.i 6 2) (v.l 6 3)) (by kernel_rfl) (by kernel_rfl) (by kernel_rfl) fun _ => (by kernel_rfl)
def S30_ : Shp := ⟨[(0, .st (lk qc)), (1, .cptr qc)], []⟩
def qhm (Ae : Int) (Af : List UInt8) (Ag Ah : Int) (A4 : List AV) (A5 A6 A7 A8 Ar : Int) (As : List UInt8) (At Au : Int) (Av : List AV) (Aw Ax Ay Az : Int) : Option Bool :=
  (oB (qcp Ae Af Ag Ah A4 A5 A6 A7 A8 As At) fun r1 => (some r1))
def quf := hull qhm
theorem qzm : quf = qhm := qb _
def q0r {R : Type} : EntF Tryd.prog R := entB (nt := 12) (dec := decB) (enc := AV.bool) tabOk follows Tryd.func60 [.t 3] hdeB (.s .z (.s (.r [(7, .c qdt.b)] []) .z)) S30_ qhm (fun f v => f (v.i 1 0) (v.s 1 1) (v.i 1 2) (v.i 1 3) (v.l 1 4) (v.i 1 5) (v.i 1 6) (v.i 1 7) (v.i 1 8) (v.i 6 0) (v.s 6 1) (v.i 6 2) (v.i 6 3) (v.l 6 4) (v.i 6 5) (v.i 6 6) (v.i 6 7) (v.i 6 8)) (by kernel_rfl) (by kernel_rfl) (by kernel_rfl) fun _ => (by kernel_rfl)
theorem q6l {R : Type} : qet Tryd.prog 70 (qmh (R' := R)) := q89 Tryd.func70 (by kernel_rfl) (by kernel_rfl) (by kernel_rfl) (by kernel_rfl)
def qew (v0 v1 : List UInt8) : Option Int :=
  (oB (qt4 v0 v1) fun r1 => (some r1))
def qj7 := hull qew
theorem qo1 : qj7 = qew := qb _
def qp5 {R : Type} : EntF Tryd.prog R := entB (nt := 8) (dec := (decI .i64)) (enc := (AV.int .i64)) tabOk follows Tryd.func53 [.t 4] hdeI (.s .z (.s (.r [(2, .c (eK q6l))] []) .z)) S4_ qew (fun f v => f (v.s 0 0) (v.s 4 0)) (by kernel_rfl) (by kernel_rfl) (by kernel_rfl) fun _ => (by kernel_rfl)
def qfx (v0 v1 : List UInt8) : Option Int :=
  (oB (qj7 v0 v1) fun r1 => (some r1))
def qhn := hull qfx
theorem qvt : qhn = qfx := qb _
def qns {R : Type} : EntF Tryd.prog R := entB (nt := 8) (dec := (decI .i64)) (enc := (AV.int .i64)) tabOk follows Tryd.func26 [.t 4] hdeI (.s .z (.s (.r [(2, .c qp5.b)] []) .z)) S4_ qfx (fun f v => f (v.s 0 0) (v.s 4 0)) (by kernel_rfl) (by kernel_rfl) (by kernel_rfl) fun _ => (by kernel_rfl)
def qvu  (v0 : List UInt8) (K : Ex → Env → Mem → Option (List AV)) := (fun z_v9 => K .norm (qh [(0, (.str v0)), (9, (.bool z_v9))]) (qi []))
def qfy  (v0 : List UInt8) (kn : Bool → Option (List AV)) : Option (List AV) :=
  (bif (v0 == ([46] : List UInt8)) then (kn true) else (oB (qcl v0) fun r1 => (kn (!r1))))
def qqe := hull (qfy)
theorem qvv : qqe = qfy := qb _
def qyd : SubB Tryd.prog (TIof Tryd.prog) 16 0 (kret [.t 2] (decX (.one (.sl 1)) fun z => aL z)) := jnB tabOk follows Tryd.f27 9 (.r [(4, .c qcv.b)] [.sel [0, 9] []]) S11_ (qfy) (fun f v K => f (v.s 0 0) (qvu (v.s 0 0) K)) (by kernel_rfl) (fun _ _ => (by kernel_rfl))
def qig (v0 : List UInt8) : Option (List AV) :=
  (qqe v0 (fun v9q1 => (bif v9q1 then (some ([] : List AV)) else (oB (cutI v0 none (some (IntKind.i64.wrap ((v0.length : Int) - (1 : Int))))) fun s2 => (oB (qi8 s2 ([46] : List UInt8)) fun r3 => (some r3))))))
def qgb := hull qig
theorem q0s : qgb = qig := qb _
def qlx {R : Type} : EntF Tryd.prog R := entB (nt := 16) (dec := (decX (.one (.sl 1)) fun z => aL z)) (enc := (fun r => .sl 1 r)) tabOk follows Tryd.func27 [.t 2] (hdeX fun _ => rfl) (.s .z (.s (.s (.sub [.sel [0] []] qyd []) (.s (.s .z (.v [.eta 2 (.one (.sl 1))])) .z)) (.s (.r [(5, .k qp7.b)] []) .z))) S11_ qig (fun f v => f (v.s 0 0)) (by kernel_rfl) (by kernel_rfl) (by kernel_rfl) fun _ => (by kernel_rfl)
def S31_ : Shp := ⟨[(7, .one (.l (.sl 1))), (8, .one (.l (.sl 1))), (9, .one (.l (.i .i64)))], []⟩
def qj8  (v7 v8 : List AV) (K : Ex → Env → Mem → Option Int) := (fun (_ : Unit) => K (.exit 1) (qh [(7, (.sl 1 v7)), (8, (.sl 1 v8))]) (qi []))
def qhg  (v7 v8 : List AV) (v9 : Int) (next : Int → Option Int) (kx1 : Unit → Option Int) : Option Int :=
  (bif ((decide (v9 ≤ (v7.length : Int))) && (decide (v9 ≤ (v8.length : Int)))) then (oB (ixB v7 (IntKind.i64.wrap ((v7.length : Int) - v9))) fun y1 => (bif fitC [.s] y1.cells then (oB (ixB v8 (IntKind.i64.wrap ((v8.length : Int) - v9))) fun y2 => (bif fitC [.s] y2.cells then (oB (qhn (gS y1.cells 0) (gS y2.cells 0)) fun r3 => (bif (r3 != (0 : Int)) then (some r3) else (next (IntKind.i64.wrap (v9 + (1 : Int)))))) else none)) else none)) else (kx1 ()))
def qcq  (v7 v8 : List AV) (kx1 : Unit → Option Int) : Nat → Int → Option Int
  | 0 => (fun _ => none)
  | n + 1 => (fun v9 => qhg v7 v8 v9 (qcq v7 v8 kx1 n) kx1)
def qnt := hull (qcq)
theorem qs1 : qnt = qcq := qb _
def qu3 : SubB Tryd.prog (TIof Tryd.prog) 79 0 (kret [.t 4] (decI .i64)) := lpB tabOk follows Tryd.f11 303 (.s (.s (.r [(5, .g 4)] []) (.s .z (.v [.sel [7, 8] []]))) (.s (.b (.s (.d [] [(5, .e 54 [.s]), (12, .e 61 [.s])] [(0, .c qns.b)] []) .z)) (.v [.sel [7, 8, 9] []]))) S31_ (qcq) (fun f v K n => f (v.l 28 0) (v.l 32 0) (qj8 (v.l 28 0) (v.l 32 0) K) n) (fun v f K => qhg (v.l 28 0) (v.l 32 0) (v.i 36 0) f (qj8 (v.l 28 0) (v.l 32 0) K)) (fun f v => f (v.i 36 0)) (fun k v => (fun z0 => k (v.ui 36 0 z0))) (by kernel_rfl) (fun _ _ => (by kernel_rfl)) (fun _ _ _ => (by kernel_rfl)) (fun _ _ _ => (by kernel_rfl)) (fun _ _ => (by kernel_rfl)) (fun _ _ _ _ _ => (by kernel_rfl))
def qho (v0 v1 : List UInt8) : Option Int :=
  (oB (qcl v0) fun r1 => (oB (qcl v1) fun r2 => (bif (r1 && (!r2)) then (some (-1 : Int)) else (bif (r2 && (!r1)) then (some (1 : Int)) else (bif (!r1) then (oB (qhn v0 v1) fun r3 => (some r3)) else (oB (qgb v0) fun r4 => (oB (qgb v1) fun r5 => (qnt r4 r5 (fun (_ : Unit) => (bif (decide ((r4.length : Int) < (r5.length : Int))) then (some (-1 : Int)) else (bif (decide ((r4.length : Int) > (r5.length : Int))) then (some (1 : Int)) else (some (0 : Int))))) FU (1 : Int)))))))))
def qnj := hull qho
theorem qzn : qnj = qho := qb _
def q0t {R : Type} : EntF Tryd.prog R := entB (nt := 79) (dec := (decI .i64)) (enc := (AV.int .i64)) tabOk follows Tryd.func11 [.t 4] hdeI (.s .z (.s (.r [(1, .c qcv.b), (3, .c qcv.b)] []) (.s (.b (.s (.r [(2, .g 2)] []) (.s .z (.s (.r [(2, .g 2)] []) (.s .z (.s .z (.s (.s (.r [(2, .c qns.b)] []) .z) .z))))))) (.s (.r [(1, .k qlx.b), (3, .k qlx.b)] []) (.s (.s .z (.b (.sub [.sel [7, 8, 9] []] qu3 []))) .z))))) S4_ qho (fun f v => f (v.s 0 0) (v.s 4 0)) (by kernel_rfl) (by kernel_rfl) (by kernel_rfl) fun _ => (by kernel_rfl)
def qkw (v0 : Int) : Option Bool :=
  (some (v0 != v0))
def qjj := hull qkw
theorem qzo : qjj = qkw := qb _
def qqf {R : Type} : EntF Tryd.prog R := entB (nt := 6) (dec := decB) (enc := AV.bool) tabOk follows Tryd.func87 [.t 2] hdeB (.z) S0_ qkw (fun f v => f (v.i 0 0)) (by kernel_rfl) (by kernel_rfl) (by kernel_rfl) fun _ => (by kernel_rfl)
def qfz (v0 v1 : Int) : Option Int :=
  (oB (qjj v0) fun r1 => (oB (qjj v1) fun r2 => (bif r1 then (bif r2 then (some (0 : Int)) else (some (-1 : Int))) else (bif r2 then (some (1 : Int)) else (bif (decide (v0 < v1)) then (some (-1 : Int)) else (bif (decide (v0 > v1)) then (some (1 : Int)) else (some (0 : Int))))))))
def qkx := hull qfz
theorem qvw : qkx = qfz := qb _
def qye {R : Type} : EntF Tryd.prog R := entB (nt := 20) (dec := (decI .i64)) (enc := (AV.int .i64)) tabOk follows Tryd.func73 [.t 4] hdeI (.s .z (.s (.r [(1, .c qqf.b)] []) (.s (.r [(1, .c qqf.b)] []) .z))) S16_ qfz (fun f v => f (v.i 0 0) (v.i 4 0)) (by kernel_rfl) (by kernel_rfl) (by kernel_rfl) fun _ => (by kernel_rfl)
def S32_ : Shp := ⟨[(0, .st (lk qc)), (1, .st (lk qc))], []⟩
def qjk (Ae : Int) (Af : List UInt8) (Ag Ah : Int) (A4 : List AV) (A5 A6 A7 A8 Ar : Int) (As : List UInt8) (At Au : Int) (Av : List AV) (Aw Ax Ay Az : Int) : Option Int :=
  (oB (qnj Af As) fun r1 => (bif (r1 != (0 : Int)) then (some r1) else (oB (qkx Ag At) fun r2 => (some r2))))
def qrg := hull qjk
theorem q29 : qrg = qjk := qb _
def q5u {R : Type} : EntF Tryd.prog R := entB (nt := 23) (dec := (decI .i64)) (enc := (AV.int .i64)) tabOk follows Tryd.func63 [.t 4] hdeI (.s .z (.s (.s (.r [(6, .c q0t.b)] []) .z) (.s (.r [(6, .c qye.b)] []) .z))) S32_ qjk (fun f v => f (v.i 1 0) (v.s 1 1) (v.i 1 2) (v.i 1 3) (v.l 1 4) (v.i 1 5) (v.i 1 6) (v.i 1 7) (v.i 1 8) (v.i 5 0) (v.s 5 1) (v.i 5 2) (v.i 5 3) (v.l 5 4) (v.i 5 5) (v.i 5 6) (v.i 5 7) (v.i 5 8)) (by kernel_rfl) (by kernel_rfl) (by kernel_rfl) fun _ => (by kernel_rfl)
def qhp (Ae : Int) (Af : List UInt8) (Ag Ah : Int) (A4 : List AV) (A5 A6 A7 A8 Ar : Int) (As : List UInt8) (At Au : Int) (Av : List AV) (Aw Ax Ay Az : Int) : Option Bool :=
  (oB (qrg Ae Af Ag Ah A4 A5 A6 A7 A8 Ar As At Au Av Aw Ax Ay Az) fun r1 => (some (decide (r1 > (0 : Int)))))
def qug := hull qhp
theorem qzp : qug = qhp := qb _
def q0u {R : Type} : EntF Tryd.prog R := entB (nt := 8) (dec := decB) (enc := AV.bool) tabOk follows Tryd.func62 [.t 3] hdeB (.s .z (.s (.r [(2, .c q5u.b)] []) .z)) S30_ qhp (fun f v => f (v.i 1 0) (v.s 1 1) (v.i 1 2) (v.i 1 3) (v.l 1 4) (v.i 1 5) (v.i 1 6) (v.i 1 7) (v.i 1 8) (v.i 6 0) (v.s 6 1) (v.i 6 2) (v.i 6 3) (v.l 6 4) (v.i 6 5) (v.i 6 6) (v.i 6 7) (v.i 6 8)) (by kernel_rfl) (by kernel_rfl) (by kernel_rfl) fun _ => (by kernel_rfl)
def S33_ : Shp := ⟨[(0, .st (lk qc)), (1, .cptr [.s, (.i .i64)])], []⟩
def qih (Ae : Int) (Af : List UInt8) (Ag Ah : Int) (A4 : List AV) (A5 A6 A7 A8 : Int) (Ar : List UInt8) (As : Int) : Option Bool :=
  (oB (qcp Ae Af Ag Ah A4 A5 A6 A7 A8 Ar As) fun r1 => (bif r1 then (some true) else (oB (qcc Ae Af Ag Ah A4 A5 A6 A7 A8 Ar) fun r2 => (some r2))))
def qvx := hull qih
theorem q0v : qvx = qih := qb _
def q3a {R : Type} : EntF Tryd.prog R := entB (nt := 16) (dec := decB) (enc := AV.bool) tabOk follows Tryd.func44 [.t 3] hdeB (.s .z (.s (.r [(5, .c qdt.b), (10, .c qc9.b)] []) .z)) S33_ qih (fun f v => f (v.i 1 0) (v.s 1 1) (v.i 1 2) (v.i 1 3) (v.l 1 4) (v.i 1 5) (v.i 1 6) (v.i 1 7) (v.i 1 8) (v.s 6 0) (v.i 6 1)) (by kernel_rfl) (by kernel_rfl) (by kernel_rfl) fun _ => (by kernel_rfl)
def qii (Ae : Int) (Af : List UInt8) (Ag Ah : Int) (A4 : List AV) (A5 A6 A7 A8 : Int) (Ar : List UInt8) (As : Int) : Option Bool :=
  (oB (qcc Ae Af Ag Ah A4 A5 A6 A7 A8 Ar) fun r1 => (some r1))
def qvy := hull qii
theorem q0w : qvy = qii := qb _
def q3b {R : Type} : EntF Tryd.prog R := entB (nt := 8) (dec := decB) (enc := AV.bool) tabOk follows Tryd.func45 [.t 3] hdeB (.s .z (.s (.r [(3, .c qc9.b)] []) .z)) S33_ qii (fun f v => f (v.i 1 0) (v.s 1 1) (v.i 1 2) (v.i 1 3) (v.l 1 4) (v.i 1 5) (v.i 1 6) (v.i 1 7) (v.i 1 8) (v.s 6 0) (v.i 6 1)) (by kernel_rfl) (by kernel_rfl) (by kernel_rfl) fun _ => (by kernel_rfl)
def qly (Ae : Int) (Af : List UInt8) (Ag Ah : Int) (A4 : List AV) (A5 A6 A7 A8 : Int) (Ar : List UInt8) (As : Int) : Option Bool :=
  (some (Af == Ar))
def qvz := hull qly
theorem q0x : qvz = qly := qb _
def q3c {R : Type} : EntF Tryd.prog R := entB (nt := 10) (dec := decB) (enc := AV.bool) tabOk follows Tryd.func46 [.t 3] hdeB (.z) S33_ qly (fun f v => f (v.i 1 0) (v.s 1 1) (v.i 1 2) (v.i 1 3) (v.l 1 4) (v.i 1 5) (v.i 1 6) (v.i 1 7) (v.i 1 8) (v.s 6 0) (v.i 6 1)) (by kernel_rfl) (by kernel_rfl) (by kernel_rfl) fun _ => (by kernel_rfl)
def S34_ : Shp := ⟨[(0, .st (lk qc)), (1, .cptr [(.i .i64)])], []⟩
def qhq (Ae : Int) (Af : List UInt8) (Ag Ah : Int) (A4 : List AV) (A5 A6 A7 A8 Ar : Int) : Option Bool :=
  (oB (qbi Ae Af Ag Ah A4 A5 A6 A7 A8 Ar) fun r1 => (some r1))
def quh := hull qhq
theorem qzq : quh = qhq := qb _
def q0y {R : Type} : EntF Tryd.prog R := entB (nt := 7) (dec := decB) (enc := AV.bool) tabOk follows Tryd.func48 [.t 3] hdeB (.s .z (.s (.r [(2, .c qb5.b)] []) .z)) S34_ qhq (fun f v => f (v.i 1 0) (v.s 1 1) (v.i 1 2) (v.i 1 3) (v.l 1 4) (v.i 1 5) (v.i 1 6) (v.i 1 7) (v.i 1 8) (v.i 6 0)) (by kernel_rfl) (by kernel_rfl) (by kernel_rfl) fun _ => (by kernel_rfl)
def qky (v0 v1 : List UInt8) : Option Bool :=
  (bif ((v1 == ([46] : List UInt8)) || (v0 == v1)) then (some true) else (bif decide (([46] : List UInt8).length + v1.length ≤ 9223372036854775807) then (oB (qfq v0 (([46] : List UInt8) ++ v1)) fun r1 => (some r1)) else none))
def q0z := hull qky
theorem q5v : q0z = qky := qb _
def q6m {R : Type} : EntF Tryd.prog R := entB (nt := 18) (dec := decB) (enc := AV.bool) tabOk follows Tryd.func50 [.t 4] hdeB (.s .z (.s (.r [(3, .g 3), (11, .c qlm.b)] []) .z)) S4_ qky (fun f v => f (v.s 0 0) (v.s 4 0)) (by kernel_rfl) (by kernel_rfl) (by kernel_rfl) fun _ => (by kernel_rfl)
def qjl (v0 v1 : List UInt8) : Option Bool :=
  (oB (qcl v0) fun r1 => (bif r1 then (oB (qcl v1) fun r2 => (bif r2 then (oB (q0z v0 v1) fun r3 => (some r3)) else (some false))) else (some false)))
def qi1 := hull qjl
theorem q3d : qi1 = qjl := qb _
def qui {R : Type} : EntF Tryd.prog R := entB (nt := 16) (dec := decB) (enc := AV.bool) tabOk follows Tryd.func20 [.t 4] hdeB (.s .z (.s (.r [(1, .c qcv.b), (4, .c qcv.b), (9, .c q6m.b)] []) .z)) S4_ qjl (fun f v => f (v.s 0 0) (v.s 4 0)) (by kernel_rfl) (by kernel_rfl) (by kernel_rfl) fun _ => (by kernel_rfl)
def S35_ : Shp := ⟨[(0, .st (lk qc)), (1, .cptr [.s])], []⟩
def qhr (Ae : Int) (Af : List UInt8) (Ag Ah : Int) (A4 : List AV) (A5 A6 A7 A8 : Int) (Ar : List UInt8) : Option Bool :=
  (oB (qi1 Af Ar) fun r1 => (some (!r1)))
def quj := hull qhr
theorem qzr : quj = qhr := qb _
def q00 {R : Type} : EntF Tryd.prog R := entB (nt := 10) (dec := decB) (enc := AV.bool) tabOk follows Tryd.func49 [.t 3] hdeB (.s .z (.s (.r [(4, .c qui.b)] []) .z)) S35_ qhr (fun f v => f (v.i 1 0) (v.s 1 1) (v.i 1 2) (v.i 1 3) (v.l 1 4) (v.i 1 5) (v.i 1 6) (v.i 1 7) (v.i 1 8) (v.s 6 0)) (by kernel_rfl) (by kernel_rfl) (by kernel_rfl) fun _ => (by kernel_rfl)
def ap0 : ApB Tryd.prog := (ApB.cons q00.b (ApB.cons q0y.b (ApB.cons q3c.b (ApB.cons q3b.b (ApB.cons q3a.b (ApB.cons q0u.b (ApB.cons q0r.b (ApB.cons q5t.b (ApB.cons q5s.b (ApB.cons q5r.b (ApB.cons q5q.b (ApB.cons q5p.b (apN Tryd.prog)))))))))))))
def S36_ : Shp := ⟨[(0, .st (lk qc)), (1, .cptr [.fn])], []⟩
def qhs (Ae : Int) (Af : List UInt8) (Ag Ah : Int) (A4 : List AV) (A5 A6 A7 A8 : Int) (Ar : AV) : Option Bool :=
  (oB (ap0.ap Ar [(.agg [(.int .i64 Ae), (.str Af), (.int .i64 Ag), (.int .i64 Ah), (.sl 13 A4), (.int .i64 A5), (.int .i64 A6), (.int .i64 A7), (.int .i64 A8)])]) fun r1 => (some (!r1)))
def quk := hull qhs
theorem qzs : quk = qhs := qb _
def q01 {R : Type} : EntF Tryd.prog R := entB (nt := 8) (dec := decB) (enc := AV.bool) tabOk follows Tryd.func61 [.t 3] hdeB (.s .z (.s (.r [(2, .q ap0)] []) .z)) S36_ qhs (fun f v => f (v.i 1 0) (v.s 1 1) (v.i 1 2) (v.i 1 3) (v.l 1 4) (v.i 1 5) (v.i 1 6) (v.i 1 7) (v.i 1 8) (v.f 6 0)) (by kernel_rfl) (by kernel_rfl) (by kernel_rfl) fun _ => (by kernel_rfl)
def S37_ : Shp := ⟨[(0, .st (lk qc)), (1, .cptr [.fn]), (2, .cptr [(.i .i64)])], []⟩
def qht (Ae : Int) (Af : List UInt8) (Ag Ah : Int) (A4 : List AV) (A5 A6 A7 A8 : Int) (Ar : AV) (Bg : Int) : Option Bool :=
  (oB (ap0.ap Ar [(.agg [(.int .i64 Ae), (.str Af), (.int .i64 Ag), (.int .i64 Ah), (.sl 13 A4), (.int .i64 A5), (.int .i64 A6), (.int .i64 A7), (.int .i64 A8)])]) fun r1 => (bif r1 then (some true) else (oB (qbi Ae Af Ag Ah A4 A5 A6 A7 A8 Bg) fun r2 => (some r2))))
def qul := hull qht
theorem qzt : qul = qht := qb _
def q02 {R : Type} : EntF Tryd.prog R := entB (nt := 13) (dec := decB) (enc := AV.bool) tabOk follows Tryd.func65 [.t 4] hdeB (.s .z (.s (.r [(2, .q ap0), (6, .c qb5.b)] []) .z)) S37_ qht (fun f v => f (v.i 1 0) (v.s 1 1) (v.i 1 2) (v.i 1 3) (v.l 1 4) (v.i 1 5) (v.i 1 6) (v.i 1 7) (v.i 1 8) (v.f 6 0) (v.i 10 0)) (by kernel_rfl) (by kernel_rfl) (by kernel_rfl) fun _ => (by kernel_rfl)
def qij (Ae : Int) (Af : List UInt8) (Ag Ah : Int) (A4 : List AV) (A5 A6 A7 A8 : Int) (Ar : AV) : Option Bool :=
  (oB (ap0.ap Ar [(.agg [(.int .i64 Ae), (.str Af), (.int .i64 Ag), (.int .i64 Ah), (.sl 13 A4), (.int .i64 A5), (.int .i64 A6), (.int .i64 A7), (.int .i64 A8)])]) fun r1 => (some (!r1)))
def qv0 := hull qij
theorem q03 : qv0 = qij := qb _
def q3e {R : Type} : EntF Tryd.prog R := entB (nt := 8) (dec := decB) (enc := AV.bool) tabOk follows Tryd.func47 [.t 3] hdeB (.s .z (.s (.r [(2, .q ap0)] []) .z)) S36_ qij (fun f v => f (v.i 1 0) (v.s 1 1) (v.i 1 2) (v.i 1 3) (v.l 1 4) (v.i 1 5) (v.i 1 6) (v.i 1 7) (v.i 1 8) (v.f 6 0)) (by kernel_rfl) (by kernel_rfl) (by kernel_rfl) fun _ => (by kernel_rfl)
def S38_ : Shp := ⟨[(0, .st (lk qc)), (1, .cptr [.fn]), (2, .cptr [(.i .i64)]), (3, .cptr [(.i .i64)])], []⟩
def qe4 (Ae : Int) (Af : List UInt8) (Ag Ah : Int) (A4 : List AV) (A5 A6 A7 A8 : Int) (Ar : AV) (Bg Bi : Int) : Option Bool :=
  (oB (ap0.ap Ar [(.agg [(.int .i64 Ae), (.str Af), (.int .i64 Ag), (.int .i64 Ah), (.sl 13 A4), (.int .i64 A5), (.int .i64 A6), (.int .i64 A7), (.int .i64 A8)])]) fun r1 => (bif r1 then (oB (qbi Ae Af Ag Ah A4 A5 A6 A7 A8 Bg) fun r2 => (some (r2 && (decide (A5 > Bi))))) else (some false)))
def qo2 := hull qe4
theorem qu4 : qo2 = qe4 := qb _
def qv1 {R : Type} : EntF Tryd.prog R := entB (nt := 20) (dec := decB) (enc := AV.bool) tabOk follows Tryd.func59 [.t 5] hdeB (.s .z (.s (.r [(2, .q ap0), (6, .c qb5.b), (9, .g 4)] []) .z)) S38_ qe4 (fun f v => f (v.i 1 0) (v.s 1 1) (v.i 1 2) (v.i 1 3) (v.l 1 4) (v.i 1 5) (v.i 1 6) (v.i 1 7) (v.i 1 8) (v.f 6 0) (v.i 10 0) (v.i 14 0)) (by kernel_rfl) (by kernel_rfl) (by kernel_rfl) fun _ => (by kernel_rfl)
def ap1 : ApB Tryd.prog := (ApB.cons qv1.b (ApB.cons q3e.b (ApB.cons q02.b (ApB.cons q01.b ap0))))
def S39_ : Shp := ⟨[(1, .one (.l .fn)), (7, .one (.l (.sl 9))), (8, .one (.l (.i .i64))), (9, .one (.l (.i .i64)))], []⟩
def S40_ : Shp := ⟨[(0, .one (.l (.sl 9))), (1, .one (.l .fn))], []⟩
def qe5  (K : Ex → Env → Mem → Option Int) := (fun (_ : Unit) => K (.exit 0) (qh []) (qi []))
def qbs  (v1 : AV) (v7 : List AV) (v8 v9 : Int) (next : Int → Option Int) (kx0 : Unit → Option Int) : Option Int :=
  (bif (decide (v9 < v8)) then (oB (ixB v7 v9) fun y1 => (bif fitC qc y1.cells then (oB (ap1.ap v1 [(.agg [(.int .i64 (gI y1.cells 0)), (.str (gS y1.cells 1)), (.int .i64 (gI y1.cells 2)), (.int .i64 (gI y1.cells 3)), (.sl 13 (gL y1.cells 4)), (.int .i64 (gI y1.cells 5)), (.int .i64 (gI y1.cells 6)), (.int .i64 (gI y1.cells 7)), (.int .i64 (gI y1.cells 8))])]) fun r2 => (bif r2 then (some v9) else (next (IntKind.i64.wrap (v9 + (1 : Int)))))) else none)) else (kx0 ()))
def qbt  (v1 : AV) (v7 : List AV) (v8 : Int) (kx0 : Unit → Option Int) : Nat → Int → Option Int
  | 0 => (fun _ => none)
  | n + 1 => (fun v9 => qbs v1 v7 v8 v9 (qbt v1 v7 v8 kx0 n) kx0)
def qg3 := hull (qbt)
theorem qll : qg3 = qbt := qb _
def qlz : SubB Tryd.prog (TIof Tryd.prog) 19 0 (kret [.t 4] (decI .i64)) := lpB tabOk follows Tryd.f28 37 (.s .z (.s (.s .z (.v [.sel [] []])) (.s (.b (.s (.r [(1, .p (.etac 12 qc))] []) (.s (.r [(2, .q ap1)] []) .z))) (.v [.sel [1, 7, 8, 9] []])))) S39_ (qbt) (fun f v K n => f (v.f 4 0) (v.l 28 0) (v.i 32 0) (qe5 K) n) (fun v f K => qbs (v.f 4 0) (v.l 28 0) (v.i 32 0) (v.i 36 0) f (qe5 K)) (fun f v => f (v.i 36 0)) (fun k v => (fun z0 => k (v.ui 36 0 z0))) (by kernel_rfl) (fun _ _ => (by kernel_rfl)) (fun _ _ _ => (by kernel_rfl)) (fun _ _ _ => (by kernel_rfl)) (fun _ _ => (by kernel_rfl)) (fun _ _ _ _ _ => (by kernel_rfl))
def qc4 (v0 : List AV) (v1 : AV) : Option Int :=
  (qg3 v1 v0 (v0.length : Int) (fun (_ : Unit) => (some (-1 : Int))) FU (0 : Int))
def qbk := hull qc4
theorem qnk : qbk = qc4 := qb _
def qb7 {R : Type} : EntF Tryd.prog R := entB (nt := 19) (dec := (decI .i64)) (enc := (AV.int .i64)) tabOk follows Tryd.func28 [.t 4] hdeI (.s .z (.s (.s .z (.b (.sub [.sel [1, 7, 8, 9] []] qlz []))) .z)) S40_ qc4 (fun f v => f (v.l 0 0) (v.f 4 0)) (by kernel_rfl) (by kernel_rfl) (by kernel_rfl) fun _ => (by kernel_rfl)
def S41_ : Shp := ⟨[(0, .st [(.l (.i .i64)), (.l (.sl 9))]), (1, .one (.l (.i .i64))), (2, .one (.l (.i .i64))), (3, .one (.l .fn))], []⟩
def qgq (Ae : Int) (Af : List AV) (v1 v2 : Int) (v3 : AV) : Option Bool :=
  (oB (qbk Af (.func qhd [(.cptr [(.fv v3)]), (.cptr [(.int .i64 v2)]), (.cptr [(.int .i64 v1)])])) fun r1 => (some (decide (r1 ≥ (0 : Int)))))
def qgc := hull qgq
theorem qyf : qgc = qgq := qb _
def qo3 {R : Type} : EntF Tryd.prog R := entB (nt := 14) (dec := decB) (enc := AV.bool) tabOk follows Tryd.func39 [.t 8] hdeB (.s .z (.s (.r [(2, .s (.cls 5)), (2, .s (.cls 6)), (2, .s (.cls 7)), (3, .c qb7.b)] []) .z)) S41_ qgq (fun f v => f (v.i 1 0) (v.l 1 1) (v.i 4 0) (v.i 8 0) (v.f 12 0)) (by kernel_rfl) (by kernel_rfl) (by kernel_rfl) fun _ => (by kernel_rfl)
def qem (l : List AV) : Option (List AV) := q2f 128 l
def qh7 {R : Type} (xs : List AV) (K : AV → Option R) : Option R := qt3 13 128 xs K
theorem qiw {R : Type} : qli Tryd.prog 54 (qh7 (R := R)) := qbf1 (ρ := q0d 54 4 31 64) tabOk (qbcp follows "slices.Clone[[]ddi/api.Data,ddi/api.Data]" (by kernel_rfl) (by kernel_rfl) (by kernel_rfl) (by kernel_rfl) (by kernel_rfl) (by kernel_rfl) (by kernel_rfl) (by kernel_rfl)) (by kernel_rfl) (by decide) (by decide)
def S42_ : Shp := ⟨[(0, .st (lk qc))], []⟩
def qmo (Ae : Int) (Af : List UInt8) (Ag Ah : Int) (A4 : List AV) (A5 A6 A7 A8 : Int) : Option AV :=
  (oB (qem A4) fun r1 => (some (.agg [(.int .i64 Ae), (.str Af), (.int .i64 Ag), (.int .i64 Ah), (.sl 13 r1), (.int .i64 A5), (.int .i64 A6), (.int .i64 A7), (.int .i64 A8)])))
def qe6 := hull qmo
theorem q6n : qe6 = qmo := qb _
def qrh {R : Type} : EntF Tryd.prog R := entB (nt := 10) (dec := (decT [(.i .i64), .s, (.i .i64), (.i .i64), (.sl 13), (.i .i64), (.i .i64), (.i .i64), (.i .i64)])) (enc := (qd4 (.st [(.i .i64), .s, (.i .i64), (.i .i64), (.sl 13), (.i .i64), (.i .i64), (.i .i64), (.i .i64)]))) tabOk follows Tryd.func36 [(.cell 2 true 9)] hdeT (.s .z (.s (.r [(3, .k (eB qiw))] []) .z)) S42_ qmo (fun f v => f (v.i 1 0) (v.s 1 1) (v.i 1 2) (v.i 1 3) (v.l 1 4) (v.i 1 5) (v.i 1 6) (v.i 1 7) (v.i 1 8)) (by kernel_rfl) (by kernel_rfl) (by kernel_rfl) fun _ => (by kernel_rfl)
def S43_ : Shp := ⟨[(2, .one (.ptr 0 0)), (4, .one (.ptr 1 0)), (5, .one (.own 2)), (11, .one (.l (.sl 9))), (12, .one (.l (.i .i64))), (13, .one (.l (.i .i64)))], [.box true [(.l (.i .i64)), (.l (.sl 9))], .box true [(.l (.i .i64)), (.l .nil)], .arr true 9]⟩
def S44_ : Shp := ⟨[(0, .st [(.l (.i .i64)), (.l (.sl 9))]), (1, .one (.l (.sl 9)))], []⟩
def qiv  (Aa : Int) (Ab : List AV) (Bj : Int) (K : Ex → Env → Mem → Option AV) := (fun z_a2 => K (.exit 0) (qh [(2, (.ptr 0 0)), (4, (.ptr 1 0)), (5, (.own 2 z_a2.length))]) (qi [(some (.box true [(.int .i64 Aa), (.sl 9 Ab)])), (some (.box true [(.int .i64 Bj), .nils])), (some (.arr true 9 z_a2))]))
def qc1  (v11 : List AV) (v12 v13 Aa : Int) (Ab : List AV) (Bj : Int) (a2 : List AV) (next : Int → (List AV) → Option AV) (kx0 : (List AV) → Option AV) : Option AV :=
  (bif (decide (v13 < v12)) then (oB (ixB v11 v13) fun y1 => (bif fitC qc y1.cells then (oB (qe6 (gI y1.cells 0) (gS y1.cells 1) (gI y1.cells 2) (gI y1.cells 3) (gL y1.cells 4) (gI y1.cells 5) (gI y1.cells 6) (gI y1.cells 7) (gI y1.cells 8)) fun r2 => (bif hd a2 a2.length then (bif hd ([(.agg [(.int .i64 (gI r2.cells 0)), (.str (gS r2.cells 1)), (.int .i64 (gI r2.cells 2)), (.int .i64 (gI r2.cells 3)), (.sl 13 (gL r2.cells 4)), (.int .i64 (gI r2.cells 5)), (.int .i64 (gI r2.cells 6)), (.int .i64 (gI r2.cells 7)), (.int .i64 (gI r2.cells 8))])] : List AV) (([(.agg [(.int .i64 (gI r2.cells 0)), (.str (gS r2.cells 1)), (.int .i64 (gI r2.cells 2)), (.int .i64 (gI r2.cells 3)), (.sl 13 (gL r2.cells 4)), (.int .i64 (gI r2.cells 5)), (.int .i64 (gI r2.cells 6)), (.int .i64 (gI r2.cells 7)), (.int .i64 (gI r2.cells 8))])] : List AV).length) then (bif decide ((a2.length + ([(.agg [(.int .i64 (gI r2.cells 0)), (.str (gS r2.cells 1)), (.int .i64 (gI r2.cells 2)), (.int .i64 (gI r2.cells 3)), (.sl 13 (gL r2.cells 4)), (.int .i64 (gI r2.cells 5)), (.int .i64 (gI r2.cells 6)), (.int .i64 (gI r2.cells 7)), (.int .i64 (gI r2.cells 8))])] : List AV).length) * 96 ≤ 140737488355328) then (next (IntKind.i64.wrap (v13 + (1 : Int))) (a2 ++ ([(.agg [(.int .i64 (gI r2.cells 0)), (.str (gS r2.cells 1)), (.int .i64 (gI r2.cells 2)), (.int .i64 (gI r2.cells 3)), (.sl 13 (gL r2.cells 4)), (.int .i64 (gI r2.cells 5)), (.int .i64 (gI r2.cells 6)), (.int .i64 (gI r2.cells 7)), (.int .i64 (gI r2.cells 8))])] : List AV))) else none) else none) else none)) else none)) else (kx0 a2))
def qb9  (v11 : List AV) (v12 Aa : Int) (Ab : List AV) (Bj : Int) (kx0 : (List AV) → Option AV) : Nat → Int → (List AV) → Option AV
  | 0 => (fun _ _ => none)
  | n + 1 => (fun v13 a2 => qc1 v11 v12 v13 Aa Ab Bj a2 (qb9 v11 v12 Aa Ab Bj kx0 n) kx0)
def qlp := hull (qb9)
theorem qri : qlp = qb9 := qb _
def qru : SubB Tryd.prog (TIof Tryd.prog) 27 0 (kret [(.cell 4 true 2)] (decT [(.i .i64), (.fr true 9)])) := lpB tabOk follows Tryd.f35 75 (.s .z (.s (.s .z (.v [.sel [2, 4, 5] [0, 1, 2]])) (.s (.b (.s (.r [(0, .p (.etac 15 qc))] []) (.r [(2, .k qrh.b)] []))) (.v [.sel [2, 4, 5, 11, 12, 13] [0, 1, 2]])))) S43_ (qb9) (fun f v K n => f (v.l 44 0) (v.i 48 0) (v.i 3 0) (v.l 3 1) (v.i 7 0) (qiv (v.i 3 0) (v.l 3 1) (v.i 7 0) K) n) (fun v f K => qc1 (v.l 44 0) (v.i 48 0) (v.i 52 0) (v.i 3 0) (v.l 3 1) (v.i 7 0) (v.r 2) f (qiv (v.i 3 0) (v.l 3 1) (v.i 7 0) K)) (fun f v => f (v.i 52 0) (v.r 2)) (fun k v => (fun z0 z1 => k ((v.ui 52 0 z0).ur 2 z1))) (by kernel_rfl) (fun _ _ => (by kernel_rfl)) (fun _ _ _ => (by kernel_rfl)) (fun _ _ _ => (by kernel_rfl)) (fun _ _ => (by kernel_rfl)) (fun _ _ _ _ _ => (by kernel_rfl))
def qe7 (Ae : Int) (Af v1 : List AV) : Option AV :=
  (bif decide (0 ≤ (0 : Int) ∧ (0 : Int) ≤ (v1.length : Int) ∧ (v1.length : Int) * 96 ≤ 281474976710656) then (bif (hd (List.replicate (0 : Int).toNat ((.agg [(.int .i64 (0 : Int)), (.str ([] : List UInt8)), (.int .i64 (0 : Int)), (.int .i64 (0 : Int)), .nils, (.int .i64 (0 : Int)), (.int .i64 (0 : Int)), (.int .i64 (0 : Int)), (.int .i64 (0 : Int))]) : AV)) ((List.replicate (0 : Int).toNat ((.agg [(.int .i64 (0 : Int)), (.str ([] : List UInt8)), (.int .i64 (0 : Int)), (.int .i64 (0 : Int)), .nils, (.int .i64 (0 : Int)), (.int .i64 (0 : Int)), (.int .i64 (0 : Int)), (.int .i64 (0 : Int))]) : AV)).length) && true) then (qlp v1 (v1.length : Int) Ae Af (0 : Int) (fun a2q1 => (bif hd a2q1 a2q1.length then (some (.agg [(.int .i64 Ae), (.fr true 9 a2q1)])) else none)) FU (0 : Int) (List.replicate (0 : Int).toNat ((.agg [(.int .i64 (0 : Int)), (.str ([] : List UInt8)), (.int .i64 (0 : Int)), (.int .i64 (0 : Int)), .nils, (.int .i64 (0 : Int)), (.int .i64 (0 : Int)), (.int .i64 (0 : Int)), (.int .i64 (0 : Int))]) : AV))) else none) else none)
def qbf := hull qe7
theorem qu5 : qbf = qe7 := qb _
def qcd {R : Type} : EntF Tryd.prog R := entB (nt := 27) (dec := (decT [(.i .i64), (.fr true 9)])) (enc := (qd4 (.st [(.i .i64), (.fr true 9)]))) tabOk follows Tryd.func35 [(.cell 4 true 2)] hdeT (.s .z (.s .z (.s (.s .z (.b (.sub [.sel [2, 4, 5, 11, 12, 13] [0, 1, 2]] qru []))) .z))) S44_ qe7 (fun f v => f (v.i 1 0) (v.l 1 1) (v.l 4 0)) (by kernel_rfl) (by kernel_rfl) (by kernel_rfl) fun _ => (by kernel_rfl)
def ql0 : Nat := 41
def S45_ : Shp := ⟨[(1, .one (.l .fn)), (5, .one (.own 0)), (8, .one (.l (.sl 9))), (9, .one (.l (.i .i64))), (10, .one (.l (.i .i64)))], [.arr true 9]⟩
def qfo  (K : Ex → Env → Mem → Option (List AV)) := (fun z_a0 => K (.exit 0) (qh [(5, (.own 0 z_a0.length))]) (qi [(some (.arr true 9 z_a0))]))
def qby  (v1 : AV) (v8 : List AV) (v9 v10 : Int) (a0 : List AV) (next : Int → (List AV) → Option (List AV)) (kx0 : (List AV) → Option (List AV)) : Option (List AV) :=
  (bif (decide (v10 < v9)) then (oB (ixB v8 v10) fun y1 => (bif fitC qc y1.cells then (oB (ap1.ap v1 [(.agg [(.int .i64 (gI y1.cells 0)), (.str (gS y1.cells 1)), (.int .i64 (gI y1.cells 2)), (.int .i64 (gI y1.cells 3)), (.sl 13 (gL y1.cells 4)), (.int .i64 (gI y1.cells 5)), (.int .i64 (gI y1.cells 6)), (.int .i64 (gI y1.cells 7)), (.int .i64 (gI y1.cells 8))])]) fun r2 => (bif r2 then (bif hd a0 a0.length then (bif hd ([(.agg [(.int .i64 (gI y1.cells 0)), (.str (gS y1.cells 1)), (.int .i64 (gI y1.cells 2)), (.int .i64 (gI y1.cells 3)), (.sl 13 (gL y1.cells 4)), (.int .i64 (gI y1.cells 5)), (.int .i64 (gI y1.cells 6)), (.int .i64 (gI y1.cells 7)), (.int .i64 (gI y1.cells 8))])] : List AV) (([(.agg [(.int .i64 (gI y1.cells 0)), (.str (gS y1.cells 1)), (.int .i64 (gI y1.cells 2)), (.int .i64 (gI y1.cells 3)), (.sl 13 (gL y1.cells 4)), (.int .i64 (gI y1.cells 5)), (.int .i64 (gI y1.cells 6)), (.int .i64 (gI y1.cells 7)), (.int .i64 (gI y1.cells 8))])] : List AV).length) then (bif decide ((a0.length + ([(.agg [(.int .i64 (gI y1.cells 0)), (.str (gS y1.cells 1)), (.int .i64 (gI y1.cells 2)), (.int .i64 (gI y1.cells 3)), (.sl 13 (gL y1.cells 4)), (.int .i64 (gI y1.cells 5)), (.int .i64 (gI y1.cells 6)), (.int .i64 (gI y1.cells 7)), (.int .i64 (gI y1.cells 8))])] : List AV).length) * 96 ≤ 140737488355328) then (next (IntKind.i64.wrap (v10 + (1 : Int))) (a0 ++ ([(.agg [(.int .i64 (gI y1.cells 0)), (.str (gS y1.cells 1)), (.int .i64 (gI y1.cells 2)), (.int .i64 (gI y1.cells 3)), (.sl 13 (gL y1.cells 4)), (.int .i64 (gI y1.cells 5)), (.int .i64 (gI y1.cells 6)), (.int .i64 (gI y1.cells 7)), (.int .i64 (gI y1.cells 8))])] : List AV))) else none) else none) else none) else (next (IntKind.i64.wrap (v10 + (1 : Int))) a0))) else none)) else (kx0 a0))
def qbh  (v1 : AV) (v8 : List AV) (v9 : Int) (kx0 : (List AV) → Option (List AV)) : Nat → Int → (List AV) → Option (List AV)
  | 0 => (fun _ _ => none)
  | n + 1 => (fun v10 a0 => qby v1 v8 v9 v10 a0 (qbh v1 v8 v9 kx0 n) kx0)
def qhu := hull (qbh)
theorem ql1 : qhu = qbh := qb _
def qm3 : SubB Tryd.prog (TIof Tryd.prog) 23 0 (kret [.t 4] (decF true 9)) := lpB tabOk follows Tryd.f40 75 (.s .z (.s (.s .z (.v [.sel [5] [0]])) (.s (.b (.s (.r [(0, .p (.etac 12 qc))] []) (.s (.r [(2, .q ap1)] []) .z))) (.v [.sel [1, 5, 8, 9, 10] [0]])))) S45_ (qbh) (fun f v K n => f (v.f 4 0) (v.l 32 0) (v.i 36 0) (qfo K) n) (fun v f K => qby (v.f 4 0) (v.l 32 0) (v.i 36 0) (v.i 40 0) (v.r 0) f (qfo K)) (fun f v => f (v.i 40 0) (v.r 0)) (fun k v => (fun z0 z1 => k ((v.ui 40 0 z0).ur 0 z1))) (by kernel_rfl) (fun _ _ => (by kernel_rfl)) (fun _ _ _ => (by kernel_rfl)) (fun _ _ _ => (by kernel_rfl)) (fun _ _ => (by kernel_rfl)) (fun _ _ _ _ _ => (by kernel_rfl))
def qda (v0 : List AV) (v1 : AV) : Option (List AV) :=
  (bif (hd ([] : List AV) (([] : List AV).length) && true) then (qhu v1 v0 (v0.length : Int) (fun a0q1 => (bif hd a0q1 a0q1.length then (some a0q1) else none)) FU (0 : Int) ([] : List AV)) else none)
def q8 := hull qda
theorem qnv : q8 = qda := qb _
def qbu {R : Type} : EntF Tryd.prog R := entB (nt := 23) (dec := (decF true 9)) (enc := (AV.fr true 9)) tabOk follows Tryd.func40 [.t 4] hdeF (.s .z (.s .z (.s (.s .z (.b (.sub [.own 5 9, .sel [1, 5, 8, 9, 10] [0]] qm3 []))) .z))) S40_ qda (fun f v => f (v.l 0 0) (v.f 4 0)) (by kernel_rfl) (by kernel_rfl) (by kernel_rfl) fun _ => (by kernel_rfl)
def qrj (v0 v1 : Int) : Option Int :=
  (some (if (4294967295 : Int) < (IntKind.i64.wrap (v1 + v0)) then (4294967295 : Int) else (IntKind.i64.wrap (v1 + v0))))
def qqg := hull qrj
theorem q6o : qqg = qrj := qb _
def qyw {R : Type} : EntF Tryd.prog R := entB (nt := 9) (dec := (decI .i64)) (enc := (AV.int .i64)) tabOk follows Tryd.func43 [.t 4] hdeI (.z) S16_ qrj (fun f v => f (v.i 0 0) (v.i 4 0)) (by kernel_rfl) (by kernel_rfl) (by kernel_rfl) fun _ => (by kernel_rfl)
def qen : Nat := 60
def qjw : Nat := 61
def qjx : Nat := 62
def q6p {R : Type} (vs : List AV) (m : Mem) (K : AV → Mem → Option R) : Option R := qq1 9 96 vs m K
theorem q6q {R : Type} : qm0 Tryd.prog 64 (q6p (R := R)) := qbcr (ρ := qxb 64 74 75 0 3 4 23 35) tabOk (qba5 follows "slices.Insert[[]ddi/cache.Entry,ddi/cache.Entry]" (by kernel_rfl) (by kernel_rfl) Tryd.func74 (by kernel_rfl) (by kernel_rfl) (by kernel_rfl) (by kernel_rfl) (by kernel_rfl) (by kernel_rfl) (by kernel_rfl) (by kernel_rfl) (by kernel_rfl) (by kernel_rfl) (by kernel_rfl) (by kernel_rfl) (by kernel_rfl) (by kernel_rfl) (by kernel_rfl) (by kernel_rfl) (by kernel_rfl)) (by kernel_rfl) (by kernel_rfl) (by decide) (by decide)
def qjy : Nat := 65
def q6r {R : Type} (vs : List AV) (m : Mem) (K : AV → Mem → Option R) : Option R := qq0 9 vs m K
theorem q6s {R : Type} : qm0 Tryd.prog 66 (q6r (R := R)) := qbcq (ρ := qxa 66 0 3 4 23 35) tabOk (qba4 follows "slices.Delete[[]ddi/cache.Entry,ddi/cache.Entry]" (by kernel_rfl) (by kernel_rfl) (by kernel_rfl) (by kernel_rfl) (by kernel_rfl) (by kernel_rfl) (by kernel_rfl) (by kernel_rfl) (by kernel_rfl) (by kernel_rfl) (by kernel_rfl) (by kernel_rfl) (by kernel_rfl) (by kernel_rfl)) (by kernel_rfl) (by decide)
def qgr (x0 : Int) (x1 : List UInt8) (x2 x3 : Int) (x4 : List AV) (x5 x6 x7 x8 : Int) : List AV := [.int .i64 x0, .str x1, .int .i64 x2, .int .i64 x3, .sl 13 x4, .int .i64 x5, .int .i64 x6, .int .i64 x7, .int .i64 x8]
def S46_ : Shp := ⟨[(3, .one (.ptr 0 0)), (4, .cptr qc), (5, .one (.ptr 1 0)), (6, .one (.ptr 2 0)), (7, .cptr [.fn]), (8, .one (.own 3)), (9, .one (.l (.i .i64)))], [.box true [(.l (.i .i64)), (.l (.sl 9))], .box true [(.l (.i .i64))], .box true [(.l (.i .i64)), (.l .nil)], .arr true 9]⟩
def S47_ : Shp := ⟨[(3, .one (.ptr 0 0)), (5, .one (.ptr 1 0)), (6, .one (.ptr 2 0)), (7, .cptr [.fn]), (8, .one (.own 3))], [.box true [(.l (.i .i64)), (.l (.sl 9))], .box true [(.l (.i .i64))], .box true [(.l (.i .i64)), (.l .nil)], .arr true 9]⟩
def S48_ : Shp := ⟨[(3, .one (.ptr 0 0)), (6, .one (.ptr 1 0)), (7, .cptr [.fn]), (8, .one (.own 2)), (10, .one (.l (.i .i64))), (11, .one (.l (.i .i64))), (12, .one (.ptr 3 0)), (48, .one (.own 2)), (49, .one (.l (.i .i64))), (50, .one (.l (.i .i64)))], [.box true [(.l (.i .i64)), (.l (.sl 9))], .box true [(.l (.i .i64)), (.l .nil)], .arr true 9, .box true (lk qc)]⟩
def S49_ : Shp := ⟨[(3, .one (.ptr 0 0)), (6, .one (.ptr 1 0)), (7, .cptr [.fn]), (8, .one (.own 2)), (10, .one (.l (.i .i64))), (48, .one (.own 2)), (49, .one (.l (.i .i64))), (50, .one (.l (.i .i64)))], [.box true [(.l (.i .i64)), (.l (.sl 9))], .box true [(.l (.i .i64)), (.l .nil)], .arr true 9]⟩
def S50_ : Shp := ⟨[(3, .one (.ptr 0 0)), (6, .one (.ptr 1 0)), (7, .cptr [.fn]), (8, .one (.own 2))], [.box true [(.l (.i .i64)), (.l (.sl 9))], .box true [(.l (.i .i64)), (.l .nil)], .arr true 9]⟩
def S51_ : Shp := ⟨[(0, .st [(.l (.i .i64)), (.l (.sl 9))]), (1, .st (lk qc)), (2, .one (.l (.i .i64)))], []⟩
def qyg  (Bl : Int) (Bm : List UInt8) (Bn Bo : Int) (Bp : List AV) (Bq Br Bs Bt : Int) (Bu : AV) (Aa : Int) (Ab : List AV) (Bj Bv : Int) (a3 : List AV) (K : Ex → Env → Mem → Option AV) := (fun z_v9 => K .norm (qh [(3, (.ptr 0 0)), (4, .cptr (qgr Bl Bm Bn Bo Bp Bq Br Bs Bt)), (5, (.ptr 1 0)), (6, (.ptr 2 0)), (7, .cptr [(.fv Bu)]), (8, (.own 3 a3.length)), (9, (.int .i64 z_v9))]) (qi [(some (.box true [(.int .i64 Aa), (.sl 9 Ab)])), (some (.box true [(.int .i64 Bj)])), (some (.box true [(.int .i64 Bv), .nils])), (some (.arr true 9 a3))]))
def qgs  (Bl : Int) (Bm : List UInt8) (Bn Bo : Int) (Bp : List AV) (Bq Br Bs Bt : Int) (Bu : AV) (v9 Aa : Int) (Ab : List AV) (Bj Bv : Int) (a3 : List AV) (kn : Int → Option AV) : Option AV :=
  (bif (decide (v9 < (0 : Int))) then (kn (a3.length : Int)) else (kn v9))
def ql2 := hull (qgs)
theorem qyh : ql2 = qgs := qb _
def qzu : SubB Tryd.prog (TIof Tryd.prog) 83 0 (kret [(.cell 6 true 2)] (decT [(.i .i64), (.sl 9)])) := jnB tabOk follows Tryd.f42 47 (.s .z (.s (.v [.sel [3, 4, 5, 6, 7, 8, 9] [0, 1, 2, 3]]) (.v [.sel [3, 4, 5, 6, 7, 8, 9] [0, 1, 2, 3]]))) S46_ (qgs) (fun f v K => f (v.i 18 0) (v.s 18 1) (v.i 18 2) (v.i 18 3) (v.l 18 4) (v.i 18 5) (v.i 18 6) (v.i 18 7) (v.i 18 8) (v.f 30 0) (v.i 36 0) (v.i 3 0) (v.l 3 1) (v.i 7 0) (v.i 11 0) (v.r 3) (qyg (v.i 18 0) (v.s 18 1) (v.i 18 2) (v.i 18 3) (v.l 18 4) (v.i 18 5) (v.i 18 6) (v.i 18 7) (v.i 18 8) (v.f 30 0) (v.i 3 0) (v.l 3 1) (v.i 7 0) (v.i 11 0) (v.r 3) K)) (by kernel_rfl) (fun _ _ => (by kernel_rfl))
def qv2  (Bu : AV) (Aa : Int) (Ab : List AV) (Bv : Int) (K : Ex → Env → Mem → Option AV) := (fun z_a2 => K .norm (qh [(3, (.ptr 0 0)), (6, (.ptr 1 0)), (7, .cptr [(.fv Bu)]), (8, (.own 2 z_a2.length))]) (qi [(some (.box true [(.int .i64 Aa), (.sl 9 Ab)])), (some (.box true [(.int .i64 Bv), .nils])), (some (.arr true 9 z_a2))]))
def qf0  (Bu : AV) (Aa : Int) (Ab : List AV) (Bj Bv : Int) (a3 : List AV) (kn : (List AV) → Option AV) : Option AV :=
  (bif (decide ((a3.length : Int) > Aa)) then (bif hd a3 a3.length then (oB (q8 a3 (.func qjy [(.cptr [(.fv Bu)]), (.cptr [(.int .i64 Bj)])])) fun r1 => (kn r1)) else none) else (kn a3))
def qhv := hull (qf0)
theorem qv3 : qhv = qf0 := qb _
def qyi : SubB Tryd.prog (TIof Tryd.prog) 83 0 (kret [(.cell 6 true 2)] (decT [(.i .i64), (.sl 9)])) := jnB tabOk follows Tryd.f42 191 (.s .z (.s (.r [(1, .s (.cls 5)), (2, .c qbu.b)] [.sel [3, 6, 7, 8] [0, 2, 4]]) (.v [.sel [3, 6, 7, 8] [0, 2, 3]]))) S47_ (qf0) (fun f v K => f (v.f 30 0) (v.i 3 0) (v.l 3 1) (v.i 7 0) (v.i 11 0) (v.r 3) (qv2 (v.f 30 0) (v.i 3 0) (v.l 3 1) (v.i 11 0) K)) (by kernel_rfl) (fun _ _ => (by kernel_rfl))
def qv4  (Bu : AV) (v10 v11 v49 v50 Aa : Int) (Ab : List AV) (Bj : Int) (a2 : List AV) (K : Ex → Env → Mem → Option AV) := (fun z_v72 => K .norm (qh [(3, (.ptr 0 0)), (6, (.ptr 1 0)), (7, .cptr [(.fv Bu)]), (8, (.own 2 a2.length)), (10, (.int .i64 v10)), (11, (.int .i64 v11)), (48, (.own 2 a2.length)), (49, (.int .i64 v49)), (50, (.int .i64 v50)), (72, (.bool z_v72))]) (qi [(some (.box true [(.int .i64 Aa), (.sl 9 Ab)])), (some (.box true [(.int .i64 Bj), .nils])), (some (.arr true 9 a2))]))
def qf1  (Bu : AV) (v10 v11 v49 v50 Aa : Int) (Ab : List AV) (Bj : Int) (a2 : List AV) (Bw : Int) (Bx : List UInt8) (By Bz : Int) (B0 : List AV) (B1 B2 B3 B4 : Int) (kn : Bool → Option AV) : Option AV :=
  (oB (ap1.ap Bu [(.agg [(.int .i64 Bw), (.str Bx), (.int .i64 By), (.int .i64 Bz), (.sl 13 B0), (.int .i64 B1), (.int .i64 B2), (.int .i64 B3), (.int .i64 B4)])]) fun r1 => (bif (!r1) then (bif (decide (v10 < (0 : Int))) then (kn true) else (bif hd a2 a2.length then (bif decide (0 ≤ v10 ∧ v10 < a2.length) then (bif hd a2 a2.length then (bif hd a2 a2.length then (oB (a2[v10.toNat]?) fun y2 => (oB (rdE y2 8 false 1) fun z3 => (bif fitV (.one (.i .i64)) z3 then (kn (decide (B4 < (aI z3)))) else none))) else none) else none) else none) else none)) else (kn false)))
def qqh := hull (qf1)
theorem qv5 : qqh = qf1 := qb _
def qyj : SubB Tryd.prog (TIof Tryd.prog) 83 0 (kret [(.cell 6 true 2)] (decT [(.i .i64), (.sl 9)])) := jnB tabOk follows Tryd.f42 10900607 (.d [] [(2, .q ap1), (14, .p (.eta 69 (.one (.i .i64))))] [] [.sel [3, 6, 7, 8, 10, 11, 48, 49, 50, 72] [0, 1, 2]]) S48_ (qf1) (fun f v K => f (v.f 30 0) (v.i 40 0) (v.i 44 0) (v.i 196 0) (v.i 200 0) (v.i 3 0) (v.l 3 1) (v.i 7 0) (v.r 2) (v.i 15 0) (v.s 15 1) (v.i 15 2) (v.i 15 3) (v.l 15 4) (v.i 15 5) (v.i 15 6) (v.i 15 7) (v.i 15 8) (qv4 (v.f 30 0) (v.i 40 0) (v.i 44 0) (v.i 196 0) (v.i 200 0) (v.i 3 0) (v.l 3 1) (v.i 7 0) (v.r 2) K)) (by kernel_rfl) (fun _ _ => (by kernel_rfl))
def qlq  (Bu : AV) (Aa : Int) (Ab : List AV) (Bj : Int) (a2 : List AV) (K : Ex → Env → Mem → Option AV) := (fun z_v10 => K (.exit 2) (qh [(3, (.ptr 0 0)), (6, (.ptr 1 0)), (7, .cptr [(.fv Bu)]), (8, (.own 2 a2.length)), (10, (.int .i64 z_v10))]) (qi [(some (.box true [(.int .i64 Aa), (.sl 9 Ab)])), (some (.box true [(.int .i64 Bj), .nils])), (some (.arr true 9 a2))]))
def qec  (Bu : AV) (v10 v49 v50 Aa : Int) (Ab : List AV) (Bj : Int) (a2 : List AV) (next : Int → Int → Option AV) (kx2 : Int → Option AV) : Option AV :=
  (bif (decide (v50 < v49)) then (bif hd a2 a2.length then (bif decide (0 ≤ v50 ∧ v50 < a2.length) then (bif hd a2 a2.length then (oB (a2[v50.toNat]?) fun y1 => (oB (rdE y1 0 true 9) fun z2 => (bif fitV (.st qc) z2 then (bif (hd a2 (a2.length) && (hd a2 (a2.length) && true)) then (qqh Bu v10 v50 v49 v50 Aa Ab Bj a2 (gI z2.cells 0) (gS z2.cells 1) (gI z2.cells 2) (gI z2.cells 3) (gL z2.cells 4) (gI z2.cells 5) (gI z2.cells 6) (gI z2.cells 7) (gI z2.cells 8) (fun v72q3 => (bif v72q3 then (next v50 (IntKind.i64.wrap (v50 + (1 : Int)))) else (next v10 (IntKind.i64.wrap (v50 + (1 : Int))))))) else none) else none))) else none) else none) else none) else (kx2 v10))
def qed  (Bu : AV) (v49 Aa : Int) (Ab : List AV) (Bj : Int) (a2 : List AV) (kx2 : Int → Option AV) : Nat → Int → Int → Option AV
  | 0 => (fun _ _ => none)
  | n + 1 => (fun v10 v50 => qec Bu v10 v49 v50 Aa Ab Bj a2 (qed Bu v49 Aa Ab Bj a2 kx2 n) kx2)
def qkz := hull (qed)
theorem qv6 : qkz = qed := qb _
def qyk : SubB Tryd.prog (TIof Tryd.prog) 83 0 (kret [(.cell 6 true 2)] (decT [(.i .i64), (.sl 9)])) := lpB tabOk follows Tryd.f42 152703 (.s .z (.s (.s .z (.v [.sel [3, 6, 7, 8, 10] [0, 1, 2]])) (.s (.b (.s (.r [(2, .p (.eta 54 (.st qc)))] []) (.s (.sub [.sel [3, 6, 7, 8, 10, 11, 12, 48, 49, 50] [0, 1, 2, 3]] qyj []) .z))) (.v [.sel [3, 6, 7, 8, 10, 48, 49, 50] [0, 1, 2]])))) S49_ (qed) (fun f v K n => f (v.f 30 0) (v.i 196 0) (v.i 3 0) (v.l 3 1) (v.i 7 0) (v.r 2) (qlq (v.f 30 0) (v.i 3 0) (v.l 3 1) (v.i 7 0) (v.r 2) K) n) (fun v f K => qec (v.f 30 0) (v.i 40 0) (v.i 196 0) (v.i 200 0) (v.i 3 0) (v.l 3 1) (v.i 7 0) (v.r 2) f (qlq (v.f 30 0) (v.i 3 0) (v.l 3 1) (v.i 7 0) (v.r 2) K)) (fun f v => f (v.i 40 0) (v.i 200 0)) (fun k v => (fun z0 z1 => k ((v.ui 40 0 z0).ui 200 0 z1))) (by kernel_rfl) (fun _ _ => (by kernel_rfl)) (fun _ _ _ => (by kernel_rfl)) (fun _ _ _ => (by kernel_rfl)) (fun _ _ => (by kernel_rfl)) (fun _ _ _ _ _ => (by kernel_rfl))
def qlr  (Aa : Int) (Ab : List AV) (Bj : Int) (K : Ex → Env → Mem → Option AV) := (fun z_a2 => K (.exit 0) (qh [(3, (.ptr 0 0)), (6, (.ptr 1 0)), (8, (.own 2 z_a2.length))]) (qi [(some (.box true [(.int .i64 Aa), (.sl 9 Ab)])), (some (.box true [(.int .i64 Bj), .nils])), (some (.arr true 9 z_a2))]))
def qdi  (Bu : AV) (Aa : Int) (Ab : List AV) (Bj : Int) (a2 : List AV) (next : (List AV) → Option AV) (kx0 : (List AV) → Option AV) : Option AV :=
  (bif ((decide ((a2.length : Int) > Aa)) && (decide ((a2.length : Int) > (1 : Int)))) then (bif (hd a2 (a2.length) && (hd a2 (a2.length) && true)) then (qkz Bu (a2.length : Int) Aa Ab Bj a2 (fun v10q1 => (bif hd a2 a2.length then (oB (qsj a2 v10q1 (IntKind.i64.wrap (v10q1 + (1 : Int)))) fun r2 => (next r2)) else none)) FU (-1 : Int) (0 : Int)) else none) else (kx0 a2))
def qb3  (Bu : AV) (Aa : Int) (Ab : List AV) (Bj : Int) (kx0 : (List AV) → Option AV) : Nat → (List AV) → Option AV
  | 0 => (fun _ => none)
  | n + 1 => (fun a2 => qdi Bu Aa Ab Bj a2 (qb3 Bu Aa Ab Bj kx0 n) kx0)
def qqi := hull (qb3)
theorem qv7 : qqi = qb3 := qb _
def qyl : SubB Tryd.prog (TIof Tryd.prog) 83 0 (kret [(.cell 6 true 2)] (decT [(.i .i64), (.sl 9)])) := lpB tabOk follows Tryd.f42 1151 (.s (.s (.r [(6, .g 3)] []) (.s .z (.v [.sel [3, 6, 8] [0, 1, 2]]))) (.b (.s .z (.s (.s .z (.b (.sub [.sel [3, 6, 7, 8, 10, 48, 49, 50] [0, 1, 2]] qyk []))) (.r [(4, .r (rB q6s))] [.sel [3, 6, 7, 8] [0, 1, 3]]))))) S50_ (qb3) (fun f v K n => f (v.f 30 0) (v.i 3 0) (v.l 3 1) (v.i 7 0) (qlr (v.i 3 0) (v.l 3 1) (v.i 7 0) K) n) (fun v f K => qdi (v.f 30 0) (v.i 3 0) (v.l 3 1) (v.i 7 0) (v.r 2) f (qlr (v.i 3 0) (v.l 3 1) (v.i 7 0) K)) (fun f v => f (v.r 2)) (fun k v => (fun z0 => k (v.ur 2 z0))) (by kernel_rfl) (fun _ _ => (by kernel_rfl)) (fun _ _ _ => (by kernel_rfl)) (fun _ _ _ => (by kernel_rfl)) (fun _ _ => (by kernel_rfl)) (fun _ _ _ _ _ => (by kernel_rfl))
def qjm (Ae : Int) (Af : List AV) (Ar : Int) (As : List UInt8) (At Au : Int) (Av : List AV) (Aw Ax Ay Az v2 : Int) : Option AV :=
  (oB (q8 Af (.func qjw [(.cptr [(.fv (.func qen [(.cptr [(.int .i64 Ar), (.str As), (.int .i64 At), (.int .i64 Au), (.sl 13 Av), (.int .i64 Aw), (.int .i64 Ax), (.int .i64 Ay), (.int .i64 Az)])]))])])) fun r1 => (bif hd r1 r1.length then (oB (qbk r1 (.func qjx [(.cptr [(.int .i64 Ar), (.str As), (.int .i64 At), (.int .i64 Au), (.sl 13 Av), (.int .i64 Aw), (.int .i64 Ax), (.int .i64 Ay), (.int .i64 Az)])])) fun r2 => (bif (hd r1 (r1.length) && true) then (ql2 Ar As At Au Av Aw Ax Ay Az (.func qen [(.cptr [(.int .i64 Ar), (.str As), (.int .i64 At), (.int .i64 Au), (.sl 13 Av), (.int .i64 Aw), (.int .i64 Ax), (.int .i64 Ay), (.int .i64 Az)])]) r2 Ae Af v2 (0 : Int) r1 (fun v9q3 => (bif hd r1 r1.length then (bif hd ([(.agg [(.int .i64 Ar), (.str As), (.int .i64 At), (.int .i64 Au), (.sl 13 Av), (.int .i64 Aw), (.int .i64 Ax), (.int .i64 Ay), (.int .i64 Az)])] : List AV) (([(.agg [(.int .i64 Ar), (.str As), (.int .i64 At), (.int .i64 Au), (.sl 13 Av), (.int .i64 Aw), (.int .i64 Ax), (.int .i64 Ay), (.int .i64 Az)])] : List AV).length) then (oB (qom 96 r1 v9q3 ([(.agg [(.int .i64 Ar), (.str As), (.int .i64 At), (.int .i64 Au), (.sl 13 Av), (.int .i64 Aw), (.int .i64 Ax), (.int .i64 Ay), (.int .i64 Az)])] : List AV)) fun r4 => (bif (hd r4 (r4.length) && true) then (qhv (.func qen [(.cptr [(.int .i64 Ar), (.str As), (.int .i64 At), (.int .i64 Au), (.sl 13 Av), (.int .i64 Aw), (.int .i64 Ax), (.int .i64 Ay), (.int .i64 Az)])]) Ae Af v2 (0 : Int) r4 (fun a2q5 => (bif (hd a2q5 (a2q5.length) && true) then (qqi (.func qen [(.cptr [(.int .i64 Ar), (.str As), (.int .i64 At), (.int .i64 Au), (.sl 13 Av), (.int .i64 Aw), (.int .i64 Ax), (.int .i64 Ay), (.int .i64 Az)])]) Ae Af (0 : Int) (fun a2q6 => (bif hd a2q6 a2q6.length then (oB (qbf Ae Af a2q6) fun r7 => (some (.agg [(.int .i64 (gI r7.cells 0)), (.sl 9 (gL r7.cells 1))]))) else none)) FU a2q5) else none))) else none)) else none) else none))) else none)) else none))
def qfi := hull qjm
theorem q3f : qfi = qjm := qb _
def qum {R : Type} : EntF Tryd.prog R := entB (nt := 83) (dec := (decT [(.i .i64), (.sl 9)])) (enc := (qd4 (.st [(.i .i64), (.sl 9)]))) tabOk follows Tryd.func42 [(.cell 6 true 2)] hdeT (.s .z (.s (.r [(0, .s (.cls 4))] []) (.s (.r [(2, .s (.cls 7)), (3, .c qbu.b)] []) (.s (.r [(2, .c qb7.b)] []) (.s (.sub [.sel [3, 4, 5, 6, 7, 8, 9] [0, 2, 3, 5]] qzu []) (.s (.r [(4, .r (rB q6q))] []) (.s (.sub [.sel [3, 5, 6, 7, 8] [0, 1, 2, 5]] qyi []) (.s (.b (.sub [.sel [3, 6, 7, 8] [0, 1, 2]] qyl [])) (.s (.r [(2, .k qcd.b)] []) .z))))))))) S51_ qjm (fun f v => f (v.i 1 0) (v.l 1 1) (v.i 5 0) (v.s 5 1) (v.i 5 2) (v.i 5 3) (v.l 5 4) (v.i 5 5) (v.i 5 6) (v.i 5 7) (v.i 5 8) (v.i 8 0)) (by kernel_rfl) (by kernel_rfl) (by kernel_rfl) fun _ => (by kernel_rfl)
def qv8 (x0 : List UInt8) (x1 x2 : Int) (x3 : List AV) : List AV := [.str x0, .int .i64 x1, .int .i64 x2, .sl 13 x3]
def S52_ : Shp := ⟨[(2, .one (.l (.i .i64))), (3, .one (.l (.i .i64))), (4, .one (.l (.i .i64))), (5, .one (.ptr 0 0)), (6, .cptr qdm), (10, .one (.ptr 1 0)), (11, .one (.l .fn))], [.box true [(.l (.i .i64)), (.l (.sl 9))], .box true [(.l (.i .i64)), (.l .nil)]]⟩
def S53_ : Shp := ⟨[(0, .st [(.l (.i .i64)), (.l (.sl 9))]), (1, .st (lk qdm)), (2, .one (.l (.i .i64))), (3, .one (.l (.i .i64))), (4, .one (.l (.i .i64)))], []⟩
def q04  (v2 v3 v4 : Int) (B5 : List UInt8) (B6 B7 : Int) (B8 : List AV) (Aa : Int) (Ab : List AV) (Bj : Int) (K : Ex → Env → Mem → Option AV) := (fun z_v31 => K .norm (qh [(2, (.int .i64 v2)), (3, (.int .i64 v3)), (4, (.int .i64 v4)), (5, (.ptr 0 0)), (6, .cptr (qv8 B5 B6 B7 B8)), (10, (.ptr 1 0)), (31, (.bool z_v31))]) (qi [(some (.box true [(.int .i64 Aa), (.sl 9 Ab)])), (some (.box true [(.int .i64 Bj), .nils]))]))
def qik  (v2 v3 v4 : Int) (B5 : List UInt8) (B6 B7 : Int) (B8 : List AV) (v11 : AV) (Aa : Int) (Ab : List AV) (Bj : Int) (kn : Bool → Option AV) : Option AV :=
  (oB (qlw B5 B6 B7 B8) fun r1 => (bif (((!r1) || (decide (v4 < (0 : Int)))) || (decide (v4 > (4294967295 : Int)))) then (kn true) else (oB (qgc Aa Ab v2 v4 v11) fun r2 => (kn r2))))
def qo4 := hull (qik)
theorem q05 : qo4 = qik := qb _
def q3g : SubB Tryd.prog (TIof Tryd.prog) 55 0 (kret [(.cell 10 true 2)] (decT [(.i .i64), (.sl 9)])) := jnB tabOk follows Tryd.f15 19 (.r [(1, .c qzl.b), (4, .g 2), (8, .g 2), (16, .c qo3.b)] [.sel [2, 3, 4, 5, 6, 10, 31] [0, 1]]) S52_ (qik) (fun f v K => f (v.i 8 0) (v.i 12 0) (v.i 16 0) (v.s 26 0) (v.i 26 1) (v.i 26 2) (v.l 26 3) (v.f 44 0) (v.i 3 0) (v.l 3 1) (v.i 7 0) (q04 (v.i 8 0) (v.i 12 0) (v.i 16 0) (v.s 26 0) (v.i 26 1) (v.i 26 2) (v.l 26 3) (v.i 3 0) (v.l 3 1) (v.i 7 0) K)) (by kernel_rfl) (fun _ _ => (by kernel_rfl))
def qmp (Ae : Int) (Af : List AV) (Ar : List UInt8) (As At : Int) (Au : List AV) (v2 v3 v4 : Int) : Option AV :=
  (qo4 v2 v3 v4 Ar As At Au (.func qif [(.cptr [(.str Ar), (.int .i64 As), (.int .i64 At), (.sl 13 Au)])]) Ae Af (0 : Int) (fun v31q1 => (bif v31q1 then (oB (qbf Ae Af Af) fun r2 => (some (.agg [(.int .i64 (gI r2.cells 0)), (.sl 9 (gL r2.cells 1))]))) else (oB (q8 Af (.func ql0 [(.cptr [(.str Ar), (.int .i64 As), (.int .i64 At), (.sl 13 Au)])])) fun r3 => (oB (qqg At v4) fun r4 => (oB (qfi Ae r3 (0 : Int) Ar As At Au v2 v3 r4 v4 v4) fun r5 => (some (.agg [(.int .i64 (gI r5.cells 0)), (.sl 9 (gL r5.cells 1))]))))))))
def qe8 := hull qmp
theorem q6t : qe8 = qmp := qb _
def qmq {R : Type} : EntF Tryd.prog R := entB (nt := 55) (dec := (decT [(.i .i64), (.sl 9)])) (enc := (qd4 (.st [(.i .i64), (.sl 9)]))) tabOk follows Tryd.func15 [(.cell 10 true 2)] hdeT (.s .z (.s (.r [(0, .s (.cls 6))] []) (.s (.s (.sub [.sel [2, 3, 4, 5, 6, 10, 11] [0, 2]] q3g []) (.s (.s (.r [(3, .k qcd.b)] []) .z) .z)) (.s (.d [] [(5, .c qbu.b)] [] []) (.s (.d [] [(7, .c qyw.b)] [(0, .k qum.b)] []) .z))))) S53_ qmp (fun f v => f (v.i 1 0) (v.l 1 1) (v.s 5 0) (v.i 5 1) (v.i 5 2) (v.l 5 3) (v.i 8 0) (v.i 12 0) (v.i 16 0)) (by kernel_rfl) (by kernel_rfl) (by kernel_rfl) fun _ => (by kernel_rfl)
def ql3 : Nat := 29
def ql4 : Nat := 32
def ql5 : Nat := 33
def S54_ : Shp := ⟨[(3, .one (.ptr 0 0)), (4, .cptr [.s, (.i .i64)]), (5, .cptr [(.i .i64)]), (6, .one (.ptr 1 0)), (7, .one (.ptr 2 0)), (9, .one (.l (.i .i64)))], [.box true [(.l (.i .i64)), (.l (.sl 9))], .box true [(.l (.i .i64)), (.l .nil)], .box true [(.l (.i .i64)), (.l .s), (.l (.i .i64)), (.l (.i .i64)), (.l .nil), (.l (.i .i64)), (.l (.i .i64)), (.l (.i .i64)), (.l (.i .i64))]]⟩
def S55_ : Shp := ⟨[(0, .st [(.l (.i .i64)), (.l (.sl 9))]), (1, .st [(.l .s), (.l (.i .i64))]), (2, .one (.l (.i .i64)))], []⟩
def qnl : AV → Option (AV × AV × Bool) := decN [(.st [(.i .i64), (.sl 9)]), (.st [(.i .i64), .s, (.i .i64), (.i .i64), (.sl 13), (.i .i64), (.i .i64), (.i .i64), (.i .i64)]), (.one .b)] fun z => ((gC (tpL z) 0), (gC (tpL z) 1), aB (gC (tpL z) 2))
def q06  (Bl : List UInt8) (Bm B9 Aa : Int) (Ab : List AV) (Bj Bv : Int) (Ca : List UInt8) (Cb Cc Cd Ce Cf Cg : Int) (K : Ex → Env → Mem → Option (AV × AV × Bool)) := (fun z_v9 => K .norm (qh [(3, (.ptr 0 0)), (4, .cptr [(.str Bl), (.int .i64 Bm)]), (5, .cptr [(.int .i64 B9)]), (6, (.ptr 1 0)), (7, (.ptr 2 0)), (9, (.int .i64 z_v9))]) (qi [(some (.box true [(.int .i64 Aa), (.sl 9 Ab)])), (some (.box true [(.int .i64 Bj), .nils])), (some (.box true [(.int .i64 Bv), (.str Ca), (.int .i64 Cb), (.int .i64 Cc), .nils, (.int .i64 Cd), (.int .i64 Ce), (.int .i64 Cf), (.int .i64 Cg)]))]))
def qil  (Bl : List UInt8) (Bm B9 v9 Aa : Int) (Ab : List AV) (Bj Bv : Int) (Ca : List UInt8) (Cb Cc Cd Ce Cf Cg : Int) (kn : Int → Option (AV × AV × Bool)) : Option (AV × AV × Bool) :=
  (bif (decide (v9 < (0 : Int))) then (oB (qbk Ab (.func ql4 [(.cptr [(.int .i64 B9)]), (.cptr [(.str Bl), (.int .i64 Bm)])])) fun r1 => (kn r1)) else (kn v9))
def qk0 := hull (qil)
theorem q07 : qk0 = qil := qb _
def q3h : SubB Tryd.prog (TIof Tryd.prog) 57 0 (kret [(.cell 6 true 2), (.cell 7 true 9), .t 8] qnl) := jnB tabOk follows Tryd.f12 11 (.s .z (.s (.r [(3, .c qb7.b)] [.sel [3, 4, 5, 6, 7, 9] [0, 1, 2]]) (.v [.sel [3, 4, 5, 6, 7, 9] [0, 1, 2]]))) S54_ (qil) (fun f v K => f (v.s 18 0) (v.i 18 1) (v.i 22 0) (v.i 36 0) (v.i 3 0) (v.l 3 1) (v.i 7 0) (v.i 11 0) (v.s 11 1) (v.i 11 2) (v.i 11 3) (v.i 11 5) (v.i 11 6) (v.i 11 7) (v.i 11 8) (q06 (v.s 18 0) (v.i 18 1) (v.i 22 0) (v.i 3 0) (v.l 3 1) (v.i 7 0) (v.i 11 0) (v.s 11 1) (v.i 11 2) (v.i 11 3) (v.i 11 5) (v.i 11 6) (v.i 11 7) (v.i 11 8) K)) (by kernel_rfl) (fun _ _ => (by kernel_rfl))
def qzv  (B9 Aa : Int) (Ab : List AV) (Bj Bv : Int) (Ca : List UInt8) (Cb Cc Cd Ce Cf Cg : Int) (K : Ex → Env → Mem → Option (AV × AV × Bool)) := (fun z_v9 => K .norm (qh [(3, (.ptr 0 0)), (5, .cptr [(.int .i64 B9)]), (6, (.ptr 1 0)), (7, (.ptr 2 0)), (9, (.int .i64 z_v9))]) (qi [(some (.box true [(.int .i64 Aa), (.sl 9 Ab)])), (some (.box true [(.int .i64 Bj), .nils])), (some (.box true [(.int .i64 Bv), (.str Ca), (.int .i64 Cb), (.int .i64 Cc), .nils, (.int .i64 Cd), (.int .i64 Ce), (.int .i64 Cf), (.int .i64 Cg)]))]))
def qhw  (Bl : List UInt8) (Bm B9 v9 Aa : Int) (Ab : List AV) (Bj Bv : Int) (Ca : List UInt8) (Cb Cc Cd Ce Cf Cg : Int) (kn : Int → Option (AV × AV × Bool)) : Option (AV × AV × Bool) :=
  (bif (decide (v9 < (0 : Int))) then (oB (qbk Ab (.func ql5 [(.cptr [(.int .i64 B9)]), (.cptr [(.str Bl), (.int .i64 Bm)])])) fun r1 => (kn r1)) else (kn v9))
def qjn := hull (qhw)
theorem qzw : qjn = qhw := qb _
def q08 : SubB Tryd.prog (TIof Tryd.prog) 57 0 (kret [(.cell 6 true 2), (.cell 7 true 9), .t 8] qnl) := jnB tabOk follows Tryd.f12 23 (.s .z (.s (.r [(3, .c qb7.b)] [.sel [3, 5, 6, 7, 9] [0, 1, 2]]) (.v [.sel [3, 5, 6, 7, 9] [0, 1, 2]]))) S54_ (qhw) (fun f v K => f (v.s 18 0) (v.i 18 1) (v.i 22 0) (v.i 36 0) (v.i 3 0) (v.l 3 1) (v.i 7 0) (v.i 11 0) (v.s 11 1) (v.i 11 2) (v.i 11 3) (v.i 11 5) (v.i 11 6) (v.i 11 7) (v.i 11 8) (qzv (v.i 22 0) (v.i 3 0) (v.l 3 1) (v.i 7 0) (v.i 11 0) (v.s 11 1) (v.i 11 2) (v.i 11 3) (v.i 11 5) (v.i 11 6) (v.i 11 7) (v.i 11 8) K)) (by kernel_rfl) (fun _ _ => (by kernel_rfl))
def qmr (Ae : Int) (Af : List AV) (Ar : List UInt8) (As v2 : Int) : Option (AV × AV × Bool) :=
  (oB (qbk Af (.func ql3 [(.cptr [(.int .i64 v2)]), (.cptr [(.str Ar), (.int .i64 As)])])) fun r1 => (qk0 Ar As v2 r1 Ae Af (0 : Int) (0 : Int) ([] : List UInt8) (0 : Int) (0 : Int) (0 : Int) (0 : Int) (0 : Int) (0 : Int) (fun v9q2 => (qjn Ar As v2 v9q2 Ae Af (0 : Int) (0 : Int) ([] : List UInt8) (0 : Int) (0 : Int) (0 : Int) (0 : Int) (0 : Int) (0 : Int) (fun v9q3 => (oB (qbf Ae Af Af) fun r4 => (bif (decide (v9q3 < (0 : Int))) then (bif hd (gL r4.cells 1) ((gL r4.cells 1).length) then (some ((.agg [(.int .i64 (gI r4.cells 0)), (.sl 9 (gL r4.cells 1))]), (.agg [(.int .i64 (0 : Int)), (.str ([] : List UInt8)), (.int .i64 (0 : Int)), (.int .i64 (0 : Int)), (.sl 13 ([] : List AV)), (.int .i64 (0 : Int)), (.int .i64 (0 : Int)), (.int .i64 (0 : Int)), (.int .i64 (0 : Int))]), false)) else none) else (bif hd (gL r4.cells 1) ((gL r4.cells 1).length) then (bif decide (0 ≤ v9q3 ∧ v9q3 < ((gL r4.cells 1).length)) then (bif hd (gL r4.cells 1) ((gL r4.cells 1).length) then (bif hd (gL r4.cells 1) ((gL r4.cells 1).length) then (oB ((gL r4.cells 1)[v9q3.toNat]?) fun y5 => (oB (putE y5 8 1 [(.int .i64 v2)]) fun z6 => (bif hd ((gL r4.cells 1).set v9q3.toNat z6) ((gL r4.cells 1).length) then (bif decide (0 ≤ v9q3 ∧ v9q3 < ((gL r4.cells 1).length)) then (bif hd ((gL r4.cells 1).set v9q3.toNat z6) ((gL r4.cells 1).length) then (oB (((gL r4.cells 1).set v9q3.toNat z6)[v9q3.toNat]?) fun y7 => (oB (rdE y7 0 true 9) fun z8 => (bif fitV (.st qc) z8 then (oB (qe6 (gI z8.cells 0) (gS z8.cells 1) (gI z8.cells 2) (gI z8.cells 3) (gL z8.cells 4) (gI z8.cells 5) (gI z8.cells 6) (gI z8.cells 7) (gI z8.cells 8)) fun r9 => (bif hd ((gL r4.cells 1).set v9q3.toNat z6) ((gL r4.cells 1).length) then (some ((.agg [(.int .i64 (gI r4.cells 0)), (.sl 9 ((gL r4.cells 1).set v9q3.toNat z6))]), (.agg [(.int .i64 (gI r9.cells 0)), (.str (gS r9.cells 1)), (.int .i64 (gI r9.cells 2)), (.int .i64 (IntKind.i64.wrap ((gI r9.cells 7) - (if (0 : Int) > v2 then (0 : Int) else v2)))), (.sl 13 (gL r9.cells 4)), (.int .i64 (gI r9.cells 5)), (.int .i64 (gI r9.cells 6)), (.int .i64 (gI r9.cells 7)), (.int .i64 (gI r9.cells 8))]), true)) else none)) else none))) else none) else none) else none))) else none) else none) else none) else none))))))))
def qgl := hull qmr
theorem q6u : qgl = qmr := qb _
def qi2 {R : Type} : EntF Tryd.prog R := entB (nt := 57) (dec := qnl) (enc := (fun r => .tup [qd4 (.st [(.i .i64), (.sl 9)]) r.1, qd4 (.st [(.i .i64), .s, (.i .i64), (.i .i64), (.sl 13), (.i .i64), (.i .i64), (.i .i64), (.i .i64)]) r.2.1, .bool r.2.2])) tabOk follows Tryd.func12 [(.cell 6 true 2), (.cell 7 true 9), .t 8] (hdeN fun _ => rfl) (.s .z (.s (.r [(2, .s (.cls 4)), (2, .s (.cls 5)), (3, .c qb7.b)] []) (.s (.sub [.sel [3, 4, 5, 6, 7, 9] [0, 3, 4]] q3h []) (.s (.sub [.sel [3, 4, 5, 6, 7, 9] [0, 1, 2]] q08 []) (.s (.r [(3, .c qcd.b)] []) (.s (.s .z (.s (.s .z (.v [.snapb 1, .nilc 2 4 13])) .z)) (.s .z (.s (.r [(4, .p (.eta 46 (.st qc))), (5, .k qrh.b)] []) (.s .z (.s .z (.v [.snapb 1]))))))))))) S55_ qmr (fun f v => f (v.i 1 0) (v.l 1 1) (v.s 5 0) (v.i 5 1) (v.i 8 0)) (by kernel_rfl) (by kernel_rfl) (by kernel_rfl) fun _ => (by kernel_rfl)
def qqj : Nat := 44
def qqk : Nat := 45
def qk1 : Nat := 46
def qhx : Nat := 47
def S56_ : Shp := ⟨[(2, .one (.l .b)), (3, .one (.l (.i .i64))), (4, .one (.l (.i .i64))), (5, .one (.l (.i .i64))), (6, .one (.l (.i .i64))), (7, .one (.ptr 0 0)), (8, .one (.ptr 1 0)), (14, .one (.ptr 2 0))], [.box true [(.l (.i .i64)), (.l (.sl 9))], .box true [(.l .s), (.l (.i .i64))], .box true [(.l (.i .i64)), (.l .nil)]]⟩
def S57_ : Shp := ⟨[(2, .one (.l .b)), (4, .one (.l (.i .i64))), (6, .one (.l (.i .i64))), (7, .one (.ptr 0 0)), (8, .cptr [.s, (.i .i64)]), (14, .one (.ptr 1 0)), (15, .one (.ptr 2 0)), (16, .one (.l .fn)), (17, .one (.ptr 3 0))], [.box true [(.l (.i .i64)), (.l (.sl 9))], .box true [(.l (.i .i64)), (.l .nil)], .box true [(.l (.i .i64)), (.l .s), (.l (.i .i64)), (.l (.i .i64)), (.l .nil), (.l (.i .i64)), (.l (.i .i64)), (.l (.i .i64)), (.l (.i .i64))], .box true [(.l .fn)]]⟩
def S58_ : Shp := ⟨[(0, .st [(.l (.i .i64)), (.l (.sl 9))]), (1, .st [(.l .s), (.l (.i .i64))]), (2, .one (.l .b)), (3, .one (.l (.i .i64))), (4, .one (.l (.i .i64))), (5, .one (.l (.i .i64))), (6, .one (.l (.i .i64)))], []⟩
def qzx  (v2 : Bool) (v3 v4 v5 v6 Aa : Int) (Ab : List AV) (Bj : List UInt8) (Ch Bv : Int) (K : Ex → Env → Mem → Option AV) := (fun z_v47 => K .norm (qh [(2, (.bool v2)), (3, (.int .i64 v3)), (4, (.int .i64 v4)), (5, (.int .i64 v5)), (6, (.int .i64 v6)), (7, (.ptr 0 0)), (8, (.ptr 1 0)), (14, (.ptr 2 0)), (47, (.bool z_v47))]) (qi [(some (.box true [(.int .i64 Aa), (.sl 9 Ab)])), (some (.box true [(.str Bj), (.int .i64 Ch)])), (some (.box true [(.int .i64 Bv), .nils]))]))
def qhy  (v2 : Bool) (v3 v4 v5 v6 Aa : Int) (Ab : List AV) (Bj : List UInt8) (Ch Bv : Int) (kn : Bool → Option AV) : Option AV :=
  (oB (qcl Bj) fun r1 => (bif (((((!r1) || (decide (v3 < (1 : Int)))) || (decide (v3 > (2147483647 : Int)))) || (decide (v6 < (0 : Int)))) || (decide (v6 > (4294967295 : Int)))) then (kn true) else (bif (!v2) then (kn (decide (Ch < (1 : Int)))) else (kn false))))
def qnm := hull (qhy)
theorem qzy : qnm = qhy := qb _
def q09 : SubB Tryd.prog (TIof Tryd.prog) 93 0 (kret [(.cell 14 true 2)] (decT [(.i .i64), (.sl 9)])) := jnB tabOk follows Tryd.f16 9 (.r [(2, .c qcv.b), (5, .g 2), (9, .g 2), (13, .g 2), (17, .g 2)] [.sel [2, 3, 4, 5, 6, 7, 8, 14, 47] [0, 1, 2]]) S56_ (qhy) (fun f v K => f (v.b 8 0) (v.i 12 0) (v.i 16 0) (v.i 20 0) (v.i 24 0) (v.i 3 0) (v.l 3 1) (v.s 7 0) (v.i 7 1) (v.i 11 0) (qzx (v.b 8 0) (v.i 12 0) (v.i 16 0) (v.i 20 0) (v.i 24 0) (v.i 3 0) (v.l 3 1) (v.s 7 0) (v.i 7 1) (v.i 11 0) K)) (by kernel_rfl) (fun _ _ => (by kernel_rfl))
def qym  (v4 v6 Aa : Int) (Ab : List AV) (Bj : Int) (Ca : List UInt8) (Cc Cd Ce Cf Cg : Int) (K : Ex → Env → Mem → Option AV) := (fun z_v16 z_b2_0 z_b2_2 z_b3_0 => K .norm (qh [(4, (.int .i64 v4)), (6, (.int .i64 v6)), (7, (.ptr 0 0)), (14, (.ptr 1 0)), (15, (.ptr 2 0)), (16, (.fv z_v16)), (17, (.ptr 3 0))]) (qi [(some (.box true [(.int .i64 Aa), (.sl 9 Ab)])), (some (.box true [(.int .i64 Bj), .nils])), (some (.box true [(.int .i64 z_b2_0), (.str Ca), (.int .i64 z_b2_2), (.int .i64 Cc), .nils, (.int .i64 Cd), (.int .i64 Ce), (.int .i64 Cf), (.int .i64 Cg)])), (some (.box true [(.fv z_b3_0)]))]))
def qgt  (v2 : Bool) (v4 v6 : Int) (Ci : List UInt8) (Cj : Int) (v16 : AV) (Aa : Int) (Ab : List AV) (Bj Bv : Int) (Ca : List UInt8) (Cb Cc Cd Ce Cf Cg : Int) (Bw : AV) (kn : AV → Int → Int → AV → Option AV) : Option AV :=
  (bif v2 then (kn (.func qk1 [(.cptr [(.str Ci), (.int .i64 Cj)])]) (2 : Int) (0 : Int) (.func qk1 [(.cptr [(.str Ci), (.int .i64 Cj)])])) else (kn v16 Bv Cb Bw))
def qrv := hull (qgt)
theorem qyn : qrv = qgt := qb _
def qzz : SubB Tryd.prog (TIof Tryd.prog) 93 0 (kret [(.cell 14 true 2)] (decT [(.i .i64), (.sl 9)])) := jnB tabOk follows Tryd.f16 95 (.s .z (.s (.s .z (.s .z (.v [.sel [4, 6, 7, 14, 15, 16, 17] [0, 1, 2, 3]]))) (.v [.sel [4, 6, 7, 14, 15, 16, 17] [0, 1, 2, 3]]))) S57_ (qgt) (fun f v K => f (v.b 8 0) (v.i 16 0) (v.i 24 0) (v.s 34 0) (v.i 34 1) (v.f 64 0) (v.i 3 0) (v.l 3 1) (v.i 7 0) (v.i 11 0) (v.s 11 1) (v.i 11 2) (v.i 11 3) (v.i 11 5) (v.i 11 6) (v.i 11 7) (v.i 11 8) (v.f 15 0) (qym (v.i 16 0) (v.i 24 0) (v.i 3 0) (v.l 3 1) (v.i 7 0) (v.s 11 1) (v.i 11 3) (v.i 11 5) (v.i 11 6) (v.i 11 7) (v.i 11 8) K)) (by kernel_rfl) (fun _ _ => (by kernel_rfl))
def qk2 (Ae : Int) (Af : List AV) (Ar : List UInt8) (As : Int) (v2 : Bool) (v3 v4 v5 v6 : Int) : Option AV :=
  (qnm v2 v3 v4 v5 v6 Ae Af Ar As (0 : Int) (fun v47q1 => (bif v47q1 then (oB (qbf Ae Af Af) fun r2 => (some (.agg [(.int .i64 (gI r2.cells 0)), (.sl 9 (gL r2.cells 1))]))) else (oB (qqg v3 v6) fun r3 => (qrv v2 v4 v6 Ar As (.func qqj [(.cptr [(.str Ar), (.int .i64 As)])]) Ae Af (0 : Int) (1 : Int) Ar As v3 v4 v5 r3 v6 (.func qqk [(.cptr [(.str Ar), (.int .i64 As)])]) (fun v16q4 b2_0q5 b2_2q6 b3_0q7 => (oB (qgc Ae Af v4 v6 v16q4) fun r8 => (bif r8 then (oB (qbf Ae Af Af) fun r9 => (some (.agg [(.int .i64 (gI r9.cells 0)), (.sl 9 (gL r9.cells 1))]))) else (oB (q8 Af (.func qhx [(.cptr [(.fv b3_0q7)])])) fun r10 => (oB (qfi Ae r10 b2_0q5 Ar b2_2q6 v3 ([] : List AV) v4 v5 r3 v6 v6) fun r11 => (some (.agg [(.int .i64 (gI r11.cells 0)), (.sl 9 (gL r11.cells 1))]))))))))))))
def qk3 := hull qk2
theorem q5w : qk3 = qk2 := qb _
def qv9 {R : Type} : EntF Tryd.prog R := entB (nt := 93) (dec := (decT [(.i .i64), (.sl 9)])) (enc := (qd4 (.st [(.i .i64), (.sl 9)]))) tabOk follows Tryd.func16 [(.cell 14 true 2)] hdeT (.s .z (.s (.s (.sub [.sel [2, 3, 4, 5, 6, 7, 8, 14] [0, 1, 2]] q09 []) (.s (.s (.r [(3, .k qcd.b)] []) .z) .z)) (.s (.d [] [(10, .c qyw.b)] [] []) (.s (.r [(0, .s (.cls 8))] []) (.s .z (.s (.sub [.sel [2, 4, 6, 7, 8, 14, 15, 16, 17] [0, 2, 3, 4]] qzz []) (.s (.s (.r [(4, .c qo3.b)] []) (.s (.s (.r [(3, .k qcd.b)] []) .z) .z)) (.s (.dv [.cls 17] [] [(5, .c qbu.b)] [] []) (.s (.r [(3, .k qum.b)] []) .z))))))))) S58_ qk2 (fun f v => f (v.i 1 0) (v.l 1 1) (v.s 5 0) (v.i 5 1) (v.b 8 0) (v.i 12 0) (v.i 16 0) (v.i 20 0) (v.i 24 0)) (by kernel_rfl) (by kernel_rfl) (by kernel_rfl) fun _ => (by kernel_rfl)
def S59_ : Shp := ⟨[(1, .one (.l .s)), (2, .one (.l (.i .i64))), (3, .one (.ptr 0 0)), (6, .one (.ptr 1 0)), (8, .one (.l (.i .i64))), (9, .one (.l (.i .i64))), (10, .one (.l (.i .i64))), (11, .one (.ptr 2 0)), (15, .one (.l (.sl 9))), (16, .one (.l (.i .i64))), (17, .one (.l (.i .i64)))], [.box true [(.l (.i .i64)), (.l (.sl 9))], .box true [(.l .s), (.l (.i .i64)), (.l (.i .i64)), (.l .nil)], .box true (lk qc)]⟩
def S60_ : Shp := ⟨[(1, .one (.l .s)), (2, .one (.l (.i .i64))), (3, .one (.ptr 0 0)), (6, .one (.ptr 1 0)), (8, .one (.l (.i .i64))), (9, .one (.l (.i .i64))), (15, .one (.l (.sl 9))), (16, .one (.l (.i .i64))), (17, .one (.l (.i .i64)))], [.box true [(.l (.i .i64)), (.l (.sl 9))], .box true [(.l .s), (.l (.i .i64)), (.l (.i .i64)), (.l .nil)]]⟩
def S61_ : Shp := ⟨[(0, .st [(.l (.i .i64)), (.l (.sl 9))]), (1, .one (.l .s)), (2, .one (.l (.i .i64)))], []⟩
def qix : AV → Option (AV × Bool) := decN [(.st [.s, (.i .i64), (.i .i64), (.sl 13)]), (.one .b)] fun z => ((gC (tpL z) 0), aB (gC (tpL z) 1))
def qs2  (v1 : List UInt8) (v2 v8 v9 v10 : Int) (v15 : List AV) (v16 v17 Aa : Int) (Ab : List AV) (Bj : List UInt8) (Ch Ck Bv : Int) (Ca : List UInt8) (Cb Cc : Int) (Cl : List AV) (Cd Ce Cf Cg : Int) (K : Ex → Env → Mem → Option (AV × Bool)) := (fun z_v44 => K .norm (qh [(1, (.str v1)), (2, (.int .i64 v2)), (3, (.ptr 0 0)), (6, (.ptr 1 0)), (8, (.int .i64 v8)), (9, (.int .i64 v9)), (10, (.int .i64 v10)), (11, (.ptr 2 0)), (15, (.sl 9 v15)), (16, (.int .i64 v16)), (17, (.int .i64 v17)), (44, (.bool z_v44))]) (qi [(some (.box true [(.int .i64 Aa), (.sl 9 Ab)])), (some (.box true [(.str Bj), (.int .i64 Ch), (.int .i64 Ck), .nils])), (some (.box true (qgr Bv Ca Cb Cc Cl Cd Ce Cf Cg)))]))
def qhh  (v1 : List UInt8) (v2 v8 v9 v10 : Int) (v15 : List AV) (v16 v17 Aa : Int) (Ab : List AV) (Bj : List UInt8) (Ch Ck Bv : Int) (Ca : List UInt8) (Cb Cc : Int) (Cl : List AV) (Cd Ce Cf Cg : Int) (kn : Bool → Option (AV × Bool)) : Option (AV × Bool) :=
  (bif ((Bv != (0 : Int)) || (Cb != (2 : Int))) then (kn true) else (oB (qbi Bv Ca Cb Cc Cl Cd Ce Cf Cg v2) fun r1 => (bif (!r1) then (kn true) else (oB (qi1 v1 Ca) fun r2 => (kn (!r2))))))
def qiy := hull (qhh)
theorem qs3 : qiy = qhh := qb _
def qu6 : SubB Tryd.prog (TIof Tryd.prog) 74 0 (kret [(.cell 6 true 4), .t 7] qix) := jnB tabOk follows Tryd.f18 9419 (.r [(4, .g 4), (12, .c qb5.b), (20, .c qui.b)] [.sel [1, 2, 3, 6, 8, 9, 10, 11, 15, 16, 17, 44] [0, 1, 2]]) S59_ (qhh) (fun f v K => f (v.s 4 0) (v.i 8 0) (v.i 32 0) (v.i 36 0) (v.i 40 0) (v.l 60 0) (v.i 64 0) (v.i 68 0) (v.i 3 0) (v.l 3 1) (v.s 7 0) (v.i 7 1) (v.i 7 2) (v.i 11 0) (v.s 11 1) (v.i 11 2) (v.i 11 3) (v.l 11 4) (v.i 11 5) (v.i 11 6) (v.i 11 7) (v.i 11 8) (qs2 (v.s 4 0) (v.i 8 0) (v.i 32 0) (v.i 36 0) (v.i 40 0) (v.l 60 0) (v.i 64 0) (v.i 68 0) (v.i 3 0) (v.l 3 1) (v.s 7 0) (v.i 7 1) (v.i 7 2) (v.i 11 0) (v.s 11 1) (v.i 11 2) (v.i 11 3) (v.l 11 4) (v.i 11 5) (v.i 11 6) (v.i 11 7) (v.i 11 8) K)) (by kernel_rfl) (fun _ _ => (by kernel_rfl))
def qk4  (v2 Aa : Int) (Ab : List AV) (Bj : List UInt8) (Ch Ck : Int) (K : Ex → Env → Mem → Option (AV × Bool)) := (fun z_v8 => K (.exit 0) (qh [(2, (.int .i64 v2)), (3, (.ptr 0 0)), (6, (.ptr 1 0)), (8, (.int .i64 z_v8))]) (qi [(some (.box true [(.int .i64 Aa), (.sl 9 Ab)])), (some (.box true [(.str Bj), (.int .i64 Ch), (.int .i64 Ck), .nils]))]))
def qd6  (v1 : List UInt8) (v2 v8 v9 : Int) (v15 : List AV) (v16 v17 Aa : Int) (Ab : List AV) (Bj : List UInt8) (Ch Ck : Int) (next : Int → Int → Int → Option (AV × Bool)) (kx0 : Int → Option (AV × Bool)) : Option (AV × Bool) :=
  (bif (decide (v17 < v16)) then (oB (ixB v15 v17) fun y1 => (bif fitC qc y1.cells then (qiy v1 v2 v8 v9 v17 v15 v16 v17 Aa Ab Bj Ch Ck (gI y1.cells 0) (gS y1.cells 1) (gI y1.cells 2) (gI y1.cells 3) (gL y1.cells 4) (gI y1.cells 5) (gI y1.cells 6) (gI y1.cells 7) (gI y1.cells 8) (fun v44q2 => (bif v44q2 then (next v8 v9 (IntKind.i64.wrap (v17 + (1 : Int)))) else (oB (qgb (gS y1.cells 1)) fun r3 => (bif (decide ((r3.length : Int) > v9)) then (next v17 (r3.length : Int) (IntKind.i64.wrap (v17 + (1 : Int)))) else (next v8 v9 (IntKind.i64.wrap (v17 + (1 : Int))))))))) else none)) else (kx0 v8))
def qd7  (v1 : List UInt8) (v2 : Int) (v15 : List AV) (v16 Aa : Int) (Ab : List AV) (Bj : List UInt8) (Ch Ck : Int) (kx0 : Int → Option (AV × Bool)) : Nat → Int → Int → Int → Option (AV × Bool)
  | 0 => (fun _ _ _ => none)
  | n + 1 => (fun v8 v9 v17 => qd6 v1 v2 v8 v9 v15 v16 v17 Aa Ab Bj Ch Ck (qd7 v1 v2 v15 v16 Aa Ab Bj Ch Ck kx0 n) kx0)
def qo5 := hull (qd7)
theorem qu7 : qo5 = qd7 := qb _
def qwa : SubB Tryd.prog (TIof Tryd.prog) 74 0 (kret [(.cell 6 true 4), .t 7] qix) := lpB tabOk follows Tryd.f18 75 (.s .z (.s (.s .z (.v [.sel [2, 3, 6, 8] [0, 1]])) (.s (.b (.s (.r [(1, .p (.etac 20 qc))] []) (.s (.s (.sub [.sel [1, 2, 3, 6, 8, 9, 10, 11, 15, 16, 17] [0, 1, 2]] qu6 []) .z) (.s (.r [(3, .k qlx.b)] []) .z)))) (.v [.sel [1, 2, 3, 6, 8, 9, 15, 16, 17] [0, 1]])))) S60_ (qd7) (fun f v K n => f (v.s 4 0) (v.i 8 0) (v.l 60 0) (v.i 64 0) (v.i 3 0) (v.l 3 1) (v.s 7 0) (v.i 7 1) (v.i 7 2) (qk4 (v.i 8 0) (v.i 3 0) (v.l 3 1) (v.s 7 0) (v.i 7 1) (v.i 7 2) K) n) (fun v f K => qd6 (v.s 4 0) (v.i 8 0) (v.i 32 0) (v.i 36 0) (v.l 60 0) (v.i 64 0) (v.i 68 0) (v.i 3 0) (v.l 3 1) (v.s 7 0) (v.i 7 1) (v.i 7 2) f (qk4 (v.i 8 0) (v.i 3 0) (v.l 3 1) (v.s 7 0) (v.i 7 1) (v.i 7 2) K)) (fun f v => f (v.i 32 0) (v.i 36 0) (v.i 68 0)) (fun k v => (fun z0 z1 z2 => k (((v.ui 32 0 z0).ui 36 0 z1).ui 68 0 z2))) (by kernel_rfl) (fun _ _ => (by kernel_rfl)) (fun _ _ _ => (by kernel_rfl)) (fun _ _ _ => (by kernel_rfl)) (fun _ _ => (by kernel_rfl)) (fun _ _ _ _ _ => (by kernel_rfl))
def qhz (Ae : Int) (Af : List AV) (v1 : List UInt8) (v2 : Int) : Option (AV × Bool) :=
  (qo5 v1 v2 Af (Af.length : Int) Ae Af ([] : List UInt8) (0 : Int) (0 : Int) (fun v8q1 => (bif (decide (v8q1 < (0 : Int))) then (some ((.agg [(.str ([] : List UInt8)), (.int .i64 (0 : Int)), (.int .i64 (0 : Int)), (.sl 13 ([] : List AV))]), false)) else (oB (ixB Af v8q1) fun y2 => (bif fitC qc y2.cells then (oB (qe6 (gI y2.cells 0) (gS y2.cells 1) (gI y2.cells 2) (gI y2.cells 3) (gL y2.cells 4) (gI y2.cells 5) (gI y2.cells 6) (gI y2.cells 7) (gI y2.cells 8)) fun r3 => (some ((.agg [(.str (gS r3.cells 1)), (.int .i64 (gI r3.cells 2)), (.int .i64 (IntKind.i64.wrap ((gI r3.cells 7) - (if (0 : Int) > v2 then (0 : Int) else v2)))), (.sl 13 (gL r3.cells 4))]), true))) else none)))) FU (-1 : Int) (-1 : Int) (0 : Int))
def qjo := hull qhz
theorem qz0 : qjo = qhz := qb _
def q1a {R : Type} : EntF Tryd.prog R := entB (nt := 74) (dec := qix) (enc := (fun r => .tup [qd4 (.st [.s, (.i .i64), (.i .i64), (.sl 13)]) r.1, .bool r.2])) tabOk follows Tryd.func18 [(.cell 6 true 4), .t 7] (hdeN fun _ => rfl) (.s .z (.s .z (.s (.s .z (.b (.sub [.sel [1, 2, 3, 6, 8, 9, 15, 16, 17] [0, 1]] qwa []))) (.s (.s .z (.s (.s .z (.v [.nilc 1 3 13])) .z)) (.s (.r [(3, .p (.etac 62 qc)), (5, .k qrh.b)] []) .z))))) S61_ qhz (fun f v => f (v.i 1 0) (v.l 1 1) (v.s 4 0) (v.i 8 0)) (by kernel_rfl) (by kernel_rfl) (by kernel_rfl) fun _ => (by kernel_rfl)
def qjz : Nat := 49
def S62_ : Shp := ⟨[(0, .st [(.l (.i .i64)), (.l (.sl 9))]), (1, .one (.l .s))], []⟩
def qjp (Ae : Int) (Af : List AV) (v1 : List UInt8) : Option AV :=
  (oB (q8 Af (.func qjz [(.cptr [(.str v1)])])) fun r1 => (oB (qbf Ae Af r1) fun r2 => (some (.agg [(.int .i64 (gI r2.cells 0)), (.sl 9 (gL r2.cells 1))]))))
def qfj := hull qjp
theorem q3i : qfj = qjp := qb _
def qun {R : Type} : EntF Tryd.prog R := entB (nt := 11) (dec := (decT [(.i .i64), (.sl 9)])) (enc := (qd4 (.st [(.i .i64), (.sl 9)]))) tabOk follows Tryd.func19 [(.cell 4 true 2)] hdeT (.s .z (.s (.dv [.cls 3] [] [(4, .c qbu.b)] [(0, .k qcd.b)] []) .z)) S62_ qjp (fun f v => f (v.i 1 0) (v.l 1 1) (v.s 4 0)) (by kernel_rfl) (by kernel_rfl) (by kernel_rfl) fun _ => (by kernel_rfl)
def qj0 : Nat := 48
def S63_ : Shp := ⟨[(0, .st [(.l (.i .i64)), (.l (.sl 9))]), (1, .one (.l (.i .i64)))], []⟩
def qjq (Ae : Int) (Af : List AV) (v1 : Int) : Option AV :=
  (oB (q8 Af (.func qj0 [(.cptr [(.int .i64 v1)])])) fun r1 => (oB (qbf Ae Af r1) fun r2 => (some (.agg [(.int .i64 (gI r2.cells 0)), (.sl 9 (gL r2.cells 1))]))))
def qfk := hull qjq
theorem q3j : qfk = qjq := qb _
def qup {R : Type} : EntF Tryd.prog R := entB (nt := 11) (dec := (decT [(.i .i64), (.sl 9)])) (enc := (qd4 (.st [(.i .i64), (.sl 9)]))) tabOk follows Tryd.func17 [(.cell 4 true 2)] hdeT (.s .z (.s (.dv [.cls 3] [] [(4, .c qbu.b)] [(0, .k qcd.b)] []) .z)) S63_ qjq (fun f v => f (v.i 1 0) (v.l 1 1) (v.i 4 0)) (by kernel_rfl) (by kernel_rfl) (by kernel_rfl) fun _ => (by kernel_rfl)
def S64_ : Shp := ⟨[(1, .one (.ptr 0 0)), (2, .one (.l (.i .i64))), (4, .one (.l (.i .i64))), (6, .one (.ptr 1 0)), (7, .one (.l .b)), (10, .one (.l .b))], [.box true [(.l (.i .i64)), (.l (.sl 9))], .box true (lk qc)]⟩
def qrw  (Aa : Int) (Ab : List AV) (K : Ex → Env → Mem → Option Bool) := (fun z_v73 => K .norm (qh [(1, (.ptr 0 0)), (73, (.bool z_v73))]) (qi [(some (.box true [(.int .i64 Aa), (.sl 9 Ab)]))]))
def qef  (v2 v4 : Int) (v7 v10 : Bool) (Aa : Int) (Ab : List AV) (Bj : Int) (Ch : List UInt8) (Ck Cm : Int) (Cn : List AV) (Co Cp Cq Cr : Int) (kn : Bool → Option Bool) : Option Bool :=
  (bif (v2 != (0 : Int)) then (kn true) else (bif (v4 != (1 : Int)) then (kn true) else (bif (!v7) then (kn true) else (bif (Cm != (20 : Int)) then (kn true) else (bif (Co != (5 : Int)) then (kn true) else (bif v10 then (kn true) else (oB (qkm ([97, 46, 101, 120, 97, 109, 112, 108, 101, 46] : List UInt8) (9 : Int)) fun r1 => (oB (qe8 Aa Ab (gS r1.cells 0) (gI r1.cells 1) (gI r1.cells 2) (gL r1.cells 3) (3 : Int) (0 : Int) (100 : Int)) fun r2 => (kn (((gL r2.cells 1).length : Int) != (1 : Int)))))))))))
def qm4 := hull (qef)
theorem qrx : qm4 = qef := qb _
def qs4 : SubB Tryd.prog (TIof Tryd.prog) 133 0 (kret [.t 0] decB) := jnB tabOk follows Tryd.f8 319 (.d [] [(26, .c qrn.b)] [(0, .k qmq.b)] [.sel [1, 73] [0]]) S64_ (qef) (fun f v K => f (v.i 8 0) (v.i 16 0) (v.b 28 0) (v.b 40 0) (v.i 3 0) (v.l 3 1) (v.i 7 0) (v.s 7 1) (v.i 7 2) (v.i 7 3) (v.l 7 4) (v.i 7 5) (v.i 7 6) (v.i 7 7) (v.i 7 8) (qrw (v.i 3 0) (v.l 3 1) K)) (by kernel_rfl) (fun _ _ => (by kernel_rfl))
def qgu : Option Bool :=
  (oB (qh4 (2 : Int)) fun r1 => (oB (qh4 (0 : Int)) fun r2 => (oB (qkm ([97, 46, 101, 120, 97, 109, 112, 108, 101, 46] : List UInt8) (60 : Int)) fun r3 => (oB (qe8 (gI r1.1.cells 0) ([] : List AV) (gS r3.cells 0) (gI r3.cells 1) (gI r3.cells 2) (gL r3.cells 3) (5 : Int) (0 : Int) (100 : Int)) fun r4 => (oB (qgl (gI r4.cells 0) (gL r4.cells 1) ([97, 46, 101, 120, 97, 109, 112, 108, 101, 46] : List UInt8) (1 : Int) (140 : Int)) fun r5 => (oB (qgl (gI r4.cells 0) (gL r4.cells 1) ([97, 46, 101, 120, 97, 109, 112, 108, 101, 46] : List UInt8) (1 : Int) (160 : Int)) fun r6 => (qm4 r1.2 r2.2 r5.2.2 r6.2.2 (gI r4.cells 0) (gL r4.cells 1) (gI r5.2.1.cells 0) (gS r5.2.1.cells 1) (gI r5.2.1.cells 2) (gI r5.2.1.cells 3) (gL r5.2.1.cells 4) (gI r5.2.1.cells 5) (gI r5.2.1.cells 6) (gI r5.2.1.cells 7) (gI r5.2.1.cells 8) (fun v73q7 => (bif v73q7 then (some false) else (oB (qk3 (gI r4.cells 0) (gL r4.cells 1) ([98, 46] : List UInt8) (0 : Int) true (30 : Int) (5 : Int) (0 : Int) (100 : Int)) fun r8 => (oB (qgl (gI r8.cells 0) (gL r8.cells 1) ([98, 46] : List UInt8) (2 : Int) (100 : Int)) fun r9 => (bif hd ([(.agg [(.bool false), (.int .u64 (0 : Int)), (.int .u64 (0 : Int)), (.str ([97, 46] : List UInt8)), (.str ([] : List UInt8)), (.str ([] : List UInt8)), (.int .i64 (0 : Int)), (.int .i64 (0 : Int)), (.int .i64 (0 : Int)), (.int .i64 (0 : Int)), (.int .i64 (0 : Int)), (.int .i64 (0 : Int)), (.int .u64 (0 : Int))])] : List AV) (([(.agg [(.bool false), (.int .u64 (0 : Int)), (.int .u64 (0 : Int)), (.str ([97, 46] : List UInt8)), (.str ([] : List UInt8)), (.str ([] : List UInt8)), (.int .i64 (0 : Int)), (.int .i64 (0 : Int)), (.int .i64 (0 : Int)), (.int .i64 (0 : Int)), (.int .i64 (0 : Int)), (.int .i64 (0 : Int)), (.int .u64 (0 : Int))])] : List AV).length) then (oB (qe8 (gI r8.cells 0) (gL r8.cells 1) ([101, 120, 97, 109, 112, 108, 101, 46] : List UInt8) (2 : Int) (60 : Int) ([(.agg [(.bool false), (.int .u64 (0 : Int)), (.int .u64 (0 : Int)), (.str ([97, 46] : List UInt8)), (.str ([] : List UInt8)), (.str ([] : List UInt8)), (.int .i64 (0 : Int)), (.int .i64 (0 : Int)), (.int .i64 (0 : Int)), (.int .i64 (0 : Int)), (.int .i64 (0 : Int)), (.int .i64 (0 : Int)), (.int .u64 (0 : Int))])] : List AV) (5 : Int) (0 : Int) (100 : Int)) fun r10 => (oB (qjo (gI r10.cells 0) (gL r10.cells 1) ([97, 46, 101, 120, 97, 109, 112, 108, 101, 46] : List UInt8) (110 : Int)) fun r11 => (bif (((((r9.2.2 && ((gI r9.2.1.cells 0) == (2 : Int))) && (((gL r8.cells 1).length : Int) == (2 : Int))) && r11.2) && ((gS r11.1.cells 0) == ([101, 120, 97, 109, 112, 108, 101, 46] : List UInt8))) && ((gI r11.1.cells 2) == (50 : Int))) then (oB (qfj (gI r8.cells 0) (gL r8.cells 1) ([46] : List UInt8)) fun r12 => (bif (((gL r12.cells 1).length : Int) == (0 : Int)) then (oB (qfk (gI r8.cells 0) (gL r8.cells 1) (130 : Int)) fun r13 => (some (((gL r13.cells 1).length : Int) == (1 : Int)))) else (some false))) else (some false)))) else none))))))))))))
def qek := hull qgu
theorem qyo : qek = qgu := qb _
def qgv {R : Type} : EntF Tryd.prog R := entB (nt := 133) (dec := decB) (enc := AV.bool) tabOk follows Tryd.func8 [.t 0] hdeB (.s .z (.s (.r [(0, .c qmk.b)] []) (.s (.r [(0, .c qmk.b)] []) (.s (.d [] [(1, .c qrn.b)] [(0, .k qmq.b)] []) (.s (.r [(2, .k qi2.b)] []) (.s (.r [(2, .k qi2.b)] []) (.s (.s (.sub [.sel [1, 2, 4, 6, 7, 10] [0, 3]] qs4 []) .z) (.s (.r [(2, .k qv9.b)] []) (.s (.r [(2, .k qi2.b)] []) (.s .z (.s (.r [(2, .k qmq.b), (3, .k q1a.b)] []) (.s (.r [(2, .g 3), (7, .g 4), (13, .g 1), (16, .g 3), (21, .g 3), (27, .k qun.b), (34, .k qup.b)] []) .z)))))))))))) (⟨[], []⟩ : Shp) qgu (fun f v => f) (by kernel_rfl) (by kernel_rfl) (by kernel_rfl) fun _ => (by kernel_rfl)
def ql6 : List LT := [(.i .i64), .s, (.i .i64), (.i .i64), .op, .s, (.i .i64), .b, (.i .i64), (.i .i64), (.i .i64)]
def S65_ : Shp := ⟨[(1, .one (.ptr 0 0)), (2, .one (.ptr 1 0)), (3, .one (.own 2)), (4, .one (.l (.i .i64)))], [.box true (lk qdm), .box true [(.l .s), (.l (.i .i64)), (.l (.i .i64)), (.l .nil)], .arr true 13]⟩
def qi3  (Aa : List UInt8) (Ab Ac : Int) (Ad : List AV) (Bj : List UInt8) (Ch Ck : Int) (K : Ex → Env → Mem → Option AV) := (fun z_a2 => K (.exit 0) (qh [(1, (.ptr 0 0)), (2, (.ptr 1 0)), (3, (.own 2 z_a2.length))]) (qi [(some (.box true (qv8 Aa Ab Ac Ad))), (some (.box true [(.str Bj), (.int .i64 Ch), (.int .i64 Ck), .nils])), (some (.arr true 13 z_a2))]))
def qdb  (v4 : Int) (Aa : List UInt8) (Ab Ac : Int) (Ad : List AV) (Bj : List UInt8) (Ch Ck : Int) (a2 : List AV) (next : Int → (List AV) → Option AV) (kx0 : (List AV) → Option AV) : Option AV :=
  (bif ((decide (v4 < (Ad.length : Int))) && (decide (v4 < (10 : Int)))) then (oB (ixB Ad v4) fun y1 => (bif fitC qbp y1.cells then (oB (cutI (gS y1.cells 3) none (some (if (300 : Int) < ((gS y1.cells 3).length : Int) then (300 : Int) else ((gS y1.cells 3).length : Int)))) fun s2 => (oB (cutI (gS y1.cells 4) none (some (if (300 : Int) < ((gS y1.cells 4).length : Int) then (300 : Int) else ((gS y1.cells 4).length : Int)))) fun s3 => (oB (cutI (gS y1.cells 5) none (some (if (300 : Int) < ((gS y1.cells 5).length : Int) then (300 : Int) else ((gS y1.cells 5).length : Int)))) fun s4 => (bif hd a2 a2.length then (bif hd ([(.agg [(.bool (gB y1.cells 0)), (.int .u64 (gI y1.cells 1)), (.int .u64 (gI y1.cells 2)), (.str s2), (.str s3), (.str s4), (.int .i64 (gI y1.cells 6)), (.int .i64 (gI y1.cells 7)), (.int .i64 (gI y1.cells 8)), (.int .i64 (gI y1.cells 9)), (.int .i64 (gI y1.cells 10)), (.int .i64 (gI y1.cells 11)), (.int .u64 (gI y1.cells 12))])] : List AV) (([(.agg [(.bool (gB y1.cells 0)), (.int .u64 (gI y1.cells 1)), (.int .u64 (gI y1.cells 2)), (.str s2), (.str s3), (.str s4), (.int .i64 (gI y1.cells 6)), (.int .i64 (gI y1.cells 7)), (.int .i64 (gI y1.cells 8)), (.int .i64 (gI y1.cells 9)), (.int .i64 (gI y1.cells 10)), (.int .i64 (gI y1.cells 11)), (.int .u64 (gI y1.cells 12))])] : List AV).length) then (bif decide ((a2.length + ([(.agg [(.bool (gB y1.cells 0)), (.int .u64 (gI y1.cells 1)), (.int .u64 (gI y1.cells 2)), (.str s2), (.str s3), (.str s4), (.int .i64 (gI y1.cells 6)), (.int .i64 (gI y1.cells 7)), (.int .i64 (gI y1.cells 8)), (.int .i64 (gI y1.cells 9)), (.int .i64 (gI y1.cells 10)), (.int .i64 (gI y1.cells 11)), (.int .u64 (gI y1.cells 12))])] : List AV).length) * 128 ≤ 140737488355328) then (next (IntKind.i64.wrap (v4 + (1 : Int))) (a2 ++ ([(.agg [(.bool (gB y1.cells 0)), (.int .u64 (gI y1.cells 1)), (.int .u64 (gI y1.cells 2)), (.str s2), (.str s3), (.str s4), (.int .i64 (gI y1.cells 6)), (.int .i64 (gI y1.cells 7)), (.int .i64 (gI y1.cells 8)), (.int .i64 (gI y1.cells 9)), (.int .i64 (gI y1.cells 10)), (.int .i64 (gI y1.cells 11)), (.int .u64 (gI y1.cells 12))])] : List AV))) else none) else none) else none)))) else none)) else (kx0 a2))
def qcn  (Aa : List UInt8) (Ab Ac : Int) (Ad : List AV) (Bj : List UInt8) (Ch Ck : Int) (kx0 : (List AV) → Option AV) : Nat → Int → (List AV) → Option AV
  | 0 => (fun _ _ => none)
  | n + 1 => (fun v4 a2 => qdb v4 Aa Ab Ac Ad Bj Ch Ck a2 (qcn Aa Ab Ac Ad Bj Ch Ck kx0 n) kx0)
def qm5 := hull (qcn)
theorem qry : qm5 = qcn := qb _
def qs5 : SubB Tryd.prog (TIof Tryd.prog) 61 0 (kret [(.cell 2 true 4)] (decT [.s, (.i .i64), (.i .i64), (.fr true 13)])) := lpB tabOk follows Tryd.f13 151 (.s (.s (.r [(6, .g 2)] []) (.s .z (.v [.sel [1, 2, 3] [0, 1, 2]]))) (.s (.b (.s (.r [(3, .p (.etac 28 qbp))] []) .z)) (.v [.sel [1, 2, 3, 4] [0, 1, 2]]))) S65_ (qcn) (fun f v K n => f (v.s 3 0) (v.i 3 1) (v.i 3 2) (v.l 3 3) (v.s 7 0) (v.i 7 1) (v.i 7 2) (qi3 (v.s 3 0) (v.i 3 1) (v.i 3 2) (v.l 3 3) (v.s 7 0) (v.i 7 1) (v.i 7 2) K) n) (fun v f K => qdb (v.i 16 0) (v.s 3 0) (v.i 3 1) (v.i 3 2) (v.l 3 3) (v.s 7 0) (v.i 7 1) (v.i 7 2) (v.r 2) f (qi3 (v.s 3 0) (v.i 3 1) (v.i 3 2) (v.l 3 3) (v.s 7 0) (v.i 7 1) (v.i 7 2) K)) (fun f v => f (v.i 16 0) (v.r 2)) (fun k v => (fun z0 z1 => k ((v.ui 16 0 z0).ur 2 z1))) (by kernel_rfl) (fun _ _ => (by kernel_rfl)) (fun _ _ _ => (by kernel_rfl)) (fun _ _ _ => (by kernel_rfl)) (fun _ _ => (by kernel_rfl)) (fun _ _ _ _ _ => (by kernel_rfl))
def qgw (Ae : List UInt8) (Af Ag : Int) (Ah : List AV) : Option AV :=
  (oB (cutI Ae none (some (if (300 : Int) < (Ae.length : Int) then (300 : Int) else (Ae.length : Int)))) fun s1 => (bif (hd ([] : List AV) (([] : List AV).length) && true) then (qm5 s1 Af Ag Ah ([] : List UInt8) (0 : Int) (0 : Int) (fun a2q2 => (bif hd a2q2 a2q2.length then (some (.agg [(.str s1), (.int .i64 Af), (.int .i64 Ag), (.fr true 13 a2q2)])) else none)) FU (0 : Int) ([] : List AV)) else none))
def qim := hull qgw
theorem qyp : qim = qgw := qb _
def qo6 {R : Type} : EntF Tryd.prog R := entB (nt := 61) (dec := (decT [.s, (.i .i64), (.i .i64), (.fr true 13)])) (enc := (qd4 (.st [.s, (.i .i64), (.i .i64), (.fr true 13)]))) tabOk follows Tryd.func13 [(.cell 2 true 4)] hdeT (.s .z (.s .z (.s .z (.s (.s .z (.b (.sub [.own 3 13, .sel [1, 2, 3, 4] [0, 1, 2]] qs5 []))) .z)))) S3_ qgw (fun f v => f (v.s 1 0) (v.i 1 1) (v.i 1 2) (v.l 1 3)) (by kernel_rfl) (by kernel_rfl) (by kernel_rfl) fun _ => (by kernel_rfl)
def qbn : List LT := [(.i .i64), .s, (.i .i64), (.i .i64), (.sl 13), .s, (.i .i64), .b, (.i .i64), (.i .i64), (.i .i64)]
def S66_ : Shp := ⟨[(0, .st [(.l (.i .i64)), (.l (.sl 9))]), (1, .st (lk qbn))], []⟩
def qin (Ae : Int) (Af : List AV) (Ar : Int) (As : List UInt8) (At Au : Int) (Av : List AV) (Aw : List UInt8) (Ax : Int) (Ay : Bool) (Az A0 A1 : Int) : Option AV :=
  (oB (qim As At Au Av) fun r1 => (oB (cutI Aw none (some (if (300 : Int) < (Aw.length : Int) then (300 : Int) else (Aw.length : Int)))) fun s2 => (bif (Ar == (0 : Int)) then (oB (qe8 Ae Af (gS r1.cells 0) (gI r1.cells 1) (gI r1.cells 2) (gL r1.cells 3) Az A0 A1) fun r3 => (some (.agg [(.int .i64 (gI r3.cells 0)), (.sl 9 (gL r3.cells 1))]))) else (bif (Ar == (1 : Int)) then (oB (qk3 Ae Af s2 Ax Ay (gI r1.cells 2) Az A0 A1) fun r4 => (some (.agg [(.int .i64 (gI r4.cells 0)), (.sl 9 (gL r4.cells 1))]))) else (bif (Ar == (2 : Int)) then (oB (qgl Ae Af s2 Ax A1) fun r5 => (some (.agg [(.int .i64 (gI r5.1.cells 0)), (.sl 9 (gL r5.1.cells 1))]))) else (bif (Ar == (4 : Int)) then (oB (qfj Ae Af s2) fun r6 => (some (.agg [(.int .i64 (gI r6.cells 0)), (.sl 9 (gL r6.cells 1))]))) else (bif (Ar == (5 : Int)) then (oB (qfk Ae Af A1) fun r7 => (some (.agg [(.int .i64 (gI r7.cells 0)), (.sl 9 (gL r7.cells 1))]))) else (some (.agg [(.int .i64 Ae), (.sl 9 Af)])))))))))
def qk5 := hull qin
theorem q1b : qk5 = qin := qb _
def q3k {R : Type} : EntF Tryd.prog R := entB (nt := 80) (dec := (decT [(.i .i64), (.sl 9)])) (enc := (qd4 (.st [(.i .i64), (.sl 9)]))) tabOk follows Tryd.func22 [(.cell 4 true 2)] hdeT (.s .z (.s (.r [(2, .k qo6.b)] []) (.s .z (.s .z (.s (.s .z (.b (.s .z (.s (.s (.r [(8, .k qmq.b)] []) .z) (.s .z (.s (.s (.r [(12, .k qv9.b)] []) .z) (.s .z (.s (.s (.r [(4, .k qi2.b)] []) .z) (.s .z (.s (.s (.r [(2, .k qun.b)] []) .z) (.s .z (.s (.s (.r [(3, .k qup.b)] []) .z) .z)))))))))))) .z))))) S66_ qin (fun f v => f (v.i 1 0) (v.l 1 1) (v.i 5 0) (v.s 5 1) (v.i 5 2) (v.i 5 3) (v.l 5 4) (v.s 5 5) (v.i 5 6) (v.b 5 7) (v.i 5 8) (v.i 5 9) (v.i 5 10)) (by kernel_rfl) (by kernel_rfl) (by kernel_rfl) fun _ => (by kernel_rfl)
def S67_ : Shp := ⟨[(1, .one (.l (.sl 11))), (4, .one (.ptr 0 0)), (5, .one (.ptr 1 0)), (7, .one (.l (.i .i64)))], [.box true [(.l (.i .i64)), (.l .nil)], .box true [(.l (.i .i64)), (.l (.sl 9))]]⟩
def S68_ : Shp := ⟨[(0, .one (.l (.i .i64))), (1, .one (.l (.sl 11)))], []⟩
def qk6  (Aa : Int) (K : Ex → Env → Mem → Option AV) := (fun z_b1_0 z_b1_1 => K (.exit 0) (qh [(4, (.ptr 0 0)), (5, (.ptr 1 0))]) (qi [(some (.box true [(.int .i64 Aa), .nils])), (some (.box true [(.int .i64 z_b1_0), (.sl 9 z_b1_1)]))]))
def qc2  (v1 : List AV) (v7 Aa Bj : Int) (Ch : List AV) (next : Int → Int → (List AV) → Option AV) (kx0 : Int → (List AV) → Option AV) : Option AV :=
  (bif ((decide (v7 < (v1.length : Int))) && (decide (v7 < (30 : Int)))) then (oB (ixB v1 v7) fun y1 => (bif fitC ql6 y1.cells then (bif fitV (.st qbn) (.agg [(.int .i64 (gI y1.cells 0)), (.str (gS y1.cells 1)), (.int .i64 (gI y1.cells 2)), (.int .i64 (gI y1.cells 3)), (gC y1.cells 4), (.str (gS y1.cells 5)), (.int .i64 (gI y1.cells 6)), (.bool (gB y1.cells 7)), (.int .i64 (gI y1.cells 8)), (.int .i64 (gI y1.cells 9)), (.int .i64 (gI y1.cells 10))]) then (oB (qk5 Bj Ch (gI y1.cells 0) (gS y1.cells 1) (gI y1.cells 2) (gI y1.cells 3) (aL (gC y1.cells 4)) (gS y1.cells 5) (gI y1.cells 6) (gB y1.cells 7) (gI y1.cells 8) (gI y1.cells 9) (gI y1.cells 10)) fun r2 => (next (IntKind.i64.wrap (v7 + (1 : Int))) (gI r2.cells 0) (gL r2.cells 1))) else none) else none)) else (kx0 Bj Ch))
def qc3  (v1 : List AV) (Aa : Int) (kx0 : Int → (List AV) → Option AV) : Nat → Int → Int → (List AV) → Option AV
  | 0 => (fun _ _ _ => none)
  | n + 1 => (fun v7 Bj Ch => qc2 v1 v7 Aa Bj Ch (qc3 v1 Aa kx0 n) kx0)
def qo7 := hull (qc3)
theorem qu8 : qo7 = qc3 := qb _
def qwb : SubB Tryd.prog (TIof Tryd.prog) 30 0 (kret [(.cell 4 true 2)] (decT [(.i .i64), (.sl 9)])) := lpB tabOk follows Tryd.f9 75 (.s (.s (.r [(5, .g 2)] []) (.s .z (.v [.sel [4, 5] [0, 1]]))) (.s (.b (.d [] [(3, .e 26 ql6)] [(0, .s (.eta 27 (.st qbn))), (0, .k q3k.b)] [])) (.v [.sel [1, 4, 5, 7] [0, 1]]))) S67_ (qc3) (fun f v K n => f (v.l 4 0) (v.i 3 0) (qk6 (v.i 3 0) K) n) (fun v f K => qc2 (v.l 4 0) (v.i 28 0) (v.i 3 0) (v.i 7 0) (v.l 7 1) f (qk6 (v.i 3 0) K)) (fun f v => f (v.i 28 0) (v.i 7 0) (v.l 7 1)) (fun k v => (fun z0 z1 z2 => k (((v.ui 28 0 z0).ui 7 0 z1).ul 7 1 z2))) (by kernel_rfl) (fun _ _ => (by kernel_rfl)) (fun _ _ _ => (by kernel_rfl)) (fun _ _ _ => (by kernel_rfl)) (fun _ _ => (by kernel_rfl)) (fun _ _ _ _ _ => (by kernel_rfl))
def qh0 (v0 : Int) (v1 : List AV) : Option AV :=
  (oB (qh4 v0) fun r1 => (qo7 v1 (0 : Int) (fun b1_0q2 b1_1q3 => (some (.agg [(.int .i64 b1_0q2), (.sl 9 b1_1q3)]))) FU (0 : Int) (gI r1.1.cells 0) ([] : List AV)))
def qnn := hull qh0
theorem qz1 : qnn = qh0 := qb _
def q1c {R : Type} : EntF Tryd.prog R := entB (nt := 30) (dec := (decT [(.i .i64), (.sl 9)])) (enc := (qd4 (.st [(.i .i64), (.sl 9)]))) tabOk follows Tryd.func9 [(.cell 4 true 2)] hdeT (.s .z (.s (.r [(1, .c qmk.b)] []) (.s (.s .z (.b (.sub [.nilc 1 1 9, .sel [1, 4, 5, 7] [0, 1]] qwb []))) .z))) S68_ qh0 (fun f v => f (v.i 0 0) (v.l 4 0)) (by kernel_rfl) (by kernel_rfl) (by kernel_rfl) fun _ => (by kernel_rfl)
def S72_ : Shp := ⟨[(2, .one (.ptr 0 0)), (3, .one (.ptr 1 0)), (36, .one (.l (.i .i64))), (37, .one (.l (.i .i64)))], [.box true (lk qdm), .box true (lk qdm)]⟩
def S73_ : Shp := ⟨[(0, .st (lk qdm)), (1, .st (lk qdm))], []⟩
def qj9  (K : Ex → Env → Mem → Option Bool) := (fun (_ : Unit) => K (.exit 0) (qh []) (qi []))
def qdu  (v36 v37 : Int) (Aa : List UInt8) (Ab Ac : Int) (Ad : List AV) (Bj : List UInt8) (Ch Ck : Int) (Cm : List AV) (next : Int → Option Bool) (kx0 : Unit → Option Bool) : Option Bool :=
  (bif (decide (v37 < v36)) then (oB (ixB Ad v37) fun y1 => (bif fitC qbp y1.cells then (oB (ixB Cm v37) fun y2 => (bif fitC qbp y2.cells then (bif (!(((gB y1.cells 0) == (gB y2.cells 0)) && (((gI y1.cells 1) == (gI y2.cells 1)) && (((gI y1.cells 2) == (gI y2.cells 2)) && (((gS y1.cells 3) == (gS y2.cells 3)) && (((gS y1.cells 4) == (gS y2.cells 4)) && (((gS y1.cells 5) == (gS y2.cells 5)) && (((gI y1.cells 6) == (gI y2.cells 6)) && (((gI y1.cells 7) == (gI y2.cells 7)) && (((gI y1.cells 8) == (gI y2.cells 8)) && (((gI y1.cells 9) == (gI y2.cells 9)) && (((gI y1.cells 10) == (gI y2.cells 10)) && (((gI y1.cells 11) == (gI y2.cells 11)) && (((gI y1.cells 12) == (gI y2.cells 12)) && true)))))))))))))) then (some false) else (next (IntKind.i64.wrap (v37 + (1 : Int))))) else none)) else none)) else (kx0 ()))
def qdv  (v36 : Int) (Aa : List UInt8) (Ab Ac : Int) (Ad : List AV) (Bj : List UInt8) (Ch Ck : Int) (Cm : List AV) (kx0 : Unit → Option Bool) : Nat → Int → Option Bool
  | 0 => (fun _ => none)
  | n + 1 => (fun v37 => qdu v36 v37 Aa Ab Ac Ad Bj Ch Ck Cm (qdv v36 Aa Ab Ac Ad Bj Ch Ck Cm kx0 n) kx0)
def qnu := hull (qdv)
theorem qs6 : qnu = qdv := qb _
def qu9 : SubB Tryd.prog (TIof Tryd.prog) 52 0 (kret [.t 4] decB) := lpB tabOk follows Tryd.f14 75 (.s .z (.s (.s .z (.v [.sel [] []])) (.s (.b (.s .z (.s (.d [] [(3, .e 43 qbp), (8, .e 48 qbp)] [] []) .z))) (.v [.sel [2, 3, 36, 37] [0, 1]])))) S72_ (qdv) (fun f v K n => f (v.i 144 0) (v.s 3 0) (v.i 3 1) (v.i 3 2) (v.l 3 3) (v.s 7 0) (v.i 7 1) (v.i 7 2) (v.l 7 3) (qj9 K) n) (fun v f K => qdu (v.i 144 0) (v.i 148 0) (v.s 3 0) (v.i 3 1) (v.i 3 2) (v.l 3 3) (v.s 7 0) (v.i 7 1) (v.i 7 2) (v.l 7 3) f (qj9 K)) (fun f v => f (v.i 148 0)) (fun k v => (fun z0 => k (v.ui 148 0 z0))) (by kernel_rfl) (fun _ _ => (by kernel_rfl)) (fun _ _ _ => (by kernel_rfl)) (fun _ _ _ => (by kernel_rfl)) (fun _ _ => (by kernel_rfl)) (fun _ _ _ _ _ => (by kernel_rfl))
def qh1 (Ae : List UInt8) (Af Ag : Int) (Ah : List AV) (Ar : List UInt8) (As At : Int) (Au : List AV) : Option Bool :=
  (bif ((((!(Ae == Ar)) || (Af != As)) || (Ag != At)) || ((Ah.length : Int) != (Au.length : Int))) then (some false) else (qnu (Ah.length : Int) Ae Af Ag Ah Ar As At Au (fun (_ : Unit) => (some true)) FU (0 : Int)))
def qjr := hull qh1
theorem qz2 : qjr = qh1 := qb _
def q1d {R : Type} : EntF Tryd.prog R := entB (nt := 52) (dec := decB) (enc := AV.bool) tabOk follows Tryd.func14 [.t 4] hdeB (.s .z (.s (.s (.r [(6, .g 5), (13, .g 5), (20, .g 7)] []) .z) (.s (.s .z (.b (.sub [.sel [2, 3, 36, 37] [0, 1]] qu9 []))) .z))) S73_ qh1 (fun f v => f (v.s 1 0) (v.i 1 1) (v.i 1 2) (v.l 1 3) (v.s 5 0) (v.i 5 1) (v.i 5 2) (v.l 5 3)) (by kernel_rfl) (by kernel_rfl) (by kernel_rfl) fun _ => (by kernel_rfl)
def S74_ : Shp := ⟨[(1, .one (.l (.sl 11))), (5, .one (.ptr 0 0)), (9, .one (.ptr 1 0)), (10, .one (.l (.i .i64))), (36, .one (.l (.sl 11))), (37, .one (.l (.i .i64))), (38, .one (.l (.i .i64)))], [.box true [(.l .s), (.l (.i .i64))], .box true [(.l (.i .i64)), (.l (.sl 9))]]⟩
def S75_ : Shp := ⟨[(14, .one (.ptr 0 0))], [.box true (lk qc)]⟩
def qyq (x0 : Int) (x1 : List UInt8) (x2 x3 : Int) (x4 : List AV) (x5 : List UInt8) (x6 : Int) (x7 : Bool) (x8 x9 x10 : Int) : List AV := [.int .i64 x0, .str x1, .int .i64 x2, .int .i64 x3, .sl 13 x4, .str x5, .int .i64 x6, .bool x7, .int .i64 x8, .int .i64 x9, .int .i64 x10]
def S76_ : Shp := ⟨[(5, .one (.ptr 0 0)), (14, .one (.ptr 1 0)), (17, .one (.ptr 2 0)), (18, .one (.ptr 3 0)), (19, .one (.ptr 4 0)), (104, .one (.l (.sl 11))), (105, .one (.l (.i .i64))), (106, .one (.l (.i .i64)))], [.box true [(.l .s), (.l (.i .i64))], .box true (lk qc), .box true (lk qbn), .box true (lk qdm), .box true (lk qdm)]⟩
def S77_ : Shp := ⟨[(5, .one (.ptr 0 0)), (14, .one (.ptr 1 0)), (17, .one (.ptr 2 0)), (104, .one (.l (.sl 11))), (105, .one (.l (.i .i64))), (106, .one (.l (.i .i64)))], [.box true [(.l .s), (.l (.i .i64))], .box true (lk qc), .box true (lk qbn)]⟩
def S78_ : Shp := ⟨[(5, .one (.ptr 0 0)), (14, .one (.ptr 1 0)), (104, .one (.l (.sl 11))), (105, .one (.l (.i .i64))), (106, .one (.l (.i .i64)))], [.box true [(.l .s), (.l (.i .i64))], .box true (lk qc)]⟩
def S79_ : Shp := ⟨[(0, .one (.l (.i .i64))), (1, .one (.l (.sl 11))), (2, .st [(.l .s), (.l (.i .i64))])], []⟩
def qg4  (v1 : List AV) (Aa : List UInt8) (Ab Bj : Int) (Ch : List AV) (K : Ex → Env → Mem → Option Bool) := (fun z_v10 => K (.exit 0) (qh [(1, (.sl 11 v1)), (5, (.ptr 0 0)), (9, (.ptr 1 0)), (10, (.int .i64 z_v10))]) (qi [(some (.box true [(.str Aa), (.int .i64 Ab)])), (some (.box true [(.int .i64 Bj), (.sl 9 Ch)]))]))
def qce  (v1 : List AV) (v10 : Int) (v36 : List AV) (v37 v38 : Int) (Aa : List UInt8) (Ab Bj : Int) (Ch : List AV) (next : Int → Int → Option Bool) (kx0 : Int → Option Bool) : Option Bool :=
  (bif (decide (v38 < v37)) then (oB (ixB v36 v38) fun y1 => (bif fitC qbn y1.cells then (next (if (if (4294967295 : Int) < (gI y1.cells 10) then (4294967295 : Int) else (gI y1.cells 10)) > v10 then (if (4294967295 : Int) < (gI y1.cells 10) then (4294967295 : Int) else (gI y1.cells 10)) else v10) (IntKind.i64.wrap (v38 + (1 : Int)))) else none)) else (kx0 v10))
def qcf  (v1 v36 : List AV) (v37 : Int) (Aa : List UInt8) (Ab Bj : Int) (Ch : List AV) (kx0 : Int → Option Bool) : Nat → Int → Int → Option Bool
  | 0 => (fun _ _ => none)
  | n + 1 => (fun v10 v38 => qce v1 v10 v36 v37 v38 Aa Ab Bj Ch (qcf v1 v36 v37 Aa Ab Bj Ch kx0 n) kx0)
def qd1 := hull (qcf)
theorem qnw : qd1 = qcf := qb _
def qo8 : SubB Tryd.prog (TIof Tryd.prog) 220 0 (kret [.t 6] decB) := lpB tabOk follows Tryd.f4 607 (.s .z (.s (.s .z (.v [.sel [1, 5, 9, 10] [0, 1]])) (.s (.b (.s (.r [(0, .p (.etac 40 qbn))] []) .z)) (.v [.sel [1, 5, 9, 10, 36, 37, 38] [0, 1]])))) S74_ (qcf) (fun f v K n => f (v.l 4 0) (v.l 144 0) (v.i 148 0) (v.s 3 0) (v.i 3 1) (v.i 7 0) (v.l 7 1) (qg4 (v.l 4 0) (v.s 3 0) (v.i 3 1) (v.i 7 0) (v.l 7 1) K) n) (fun v f K => qce (v.l 4 0) (v.i 40 0) (v.l 144 0) (v.i 148 0) (v.i 152 0) (v.s 3 0) (v.i 3 1) (v.i 7 0) (v.l 7 1) f (qg4 (v.l 4 0) (v.s 3 0) (v.i 3 1) (v.i 7 0) (v.l 7 1) K)) (fun f v => f (v.i 40 0) (v.i 152 0)) (fun k v => (fun z0 z1 => k ((v.ui 40 0 z0).ui 152 0 z1))) (by kernel_rfl) (fun _ _ => (by kernel_rfl)) (fun _ _ _ => (by kernel_rfl)) (fun _ _ _ => (by kernel_rfl)) (fun _ _ => (by kernel_rfl)) (fun _ _ _ _ _ => (by kernel_rfl))
def qnx  (K : Ex → Env → Mem → Option Bool) := (fun z_v6 => K .norm (qh [(6, (.bool z_v6))]) (qi []))
def qdc  (Aa : Int) (Ab : List UInt8) (Ac Ad : Int) (Ai : List AV) (Aj Ak Al Am : Int) (kn : Bool → Option Bool) : Option Bool :=
  (bif (((Aa == (0 : Int)) && (Al == (0 : Int))) && ((Ai.length : Int) == (0 : Int))) then (oB (qek) fun r1 => (kn r1)) else (kn false))
def qi4 := hull (qdc)
theorem qny : qi4 = qdc := qb _
def qo9 : SubB Tryd.prog (TIof Tryd.prog) 220 0 (kret [.t 6] decB) := jnB tabOk follows Tryd.f4 2431 (.r [(4, .g 3), (9, .g 5), (16, .c qgv.b)] [.sel [6] []]) S75_ (qdc) (fun f v K => f (v.i 3 0) (v.s 3 1) (v.i 3 2) (v.i 3 3) (v.l 3 4) (v.i 3 5) (v.i 3 6) (v.i 3 7) (v.i 3 8) (qnx K)) (by kernel_rfl) (fun _ _ => (by kernel_rfl))
def qnz  (v104 : List AV) (v105 v106 : Int) (Aa : List UInt8) (Ab Bj : Int) (Ch : List UInt8) (Ck Cm : Int) (Cn : List AV) (Co Cp Cq Cr Bv : Int) (Ca : List UInt8) (Cb Cc : Int) (Cl : List AV) (Cd : List UInt8) (Ce : Int) (Cf : Bool) (Cg Cs Ct : Int) (K : Ex → Env → Mem → Option Bool) := (fun z_v178 => K .norm (qh [(5, (.ptr 0 0)), (14, (.ptr 1 0)), (17, (.ptr 2 0)), (104, (.sl 11 v104)), (105, (.int .i64 v105)), (106, (.int .i64 v106)), (178, (.bool z_v178))]) (qi [(some (.box true [(.str Aa), (.int .i64 Ab)])), (some (.box true (qgr Bj Ch Ck Cm Cn Co Cp Cq Cr))), (some (.box true (qyq Bv Ca Cb Cc Cl Cd Ce Cf Cg Cs Ct)))]))
def qdd  (v104 : List AV) (v105 v106 : Int) (Aa : List UInt8) (Ab Bj : Int) (Ch : List UInt8) (Ck Cm : Int) (Cn : List AV) (Co Cp Cq Cr Bv : Int) (Ca : List UInt8) (Cb Cc : Int) (Cl : List AV) (Cd : List UInt8) (Ce : Int) (Cf : Bool) (Cg Cs Ct : Int) (Bw : List UInt8) (Bx By : Int) (Bz : List AV) (Cu : List UInt8) (Cw Cx : Int) (Cy : List AV) (kn : Bool → Option Bool) : Option Bool :=
  (bif ((Bv == (0 : Int)) && (Bj == (0 : Int))) then (oB (qjr Bw Bx By Bz Cu Cw Cx Cy) fun r1 => (bif r1 then (bif (Bx == Ab) then (kn true) else (kn (Bx == (5 : Int)))) else (kn false))) else (kn false))
def qi5 := hull (qdd)
theorem qn0 : qi5 = qdd := qb _
def qpa : SubB Tryd.prog (TIof Tryd.prog) 220 0 (kret [.t 6] decB) := jnB tabOk follows Tryd.f4 20866559 (.r [(4, .g 3), (11, .c q1d.b)] [.sel [5, 14, 17, 104, 105, 106, 178] [0, 1, 2]]) S76_ (qdd) (fun f v K => f (v.l 416 0) (v.i 420 0) (v.i 424 0) (v.s 3 0) (v.i 3 1) (v.i 7 0) (v.s 7 1) (v.i 7 2) (v.i 7 3) (v.l 7 4) (v.i 7 5) (v.i 7 6) (v.i 7 7) (v.i 7 8) (v.i 11 0) (v.s 11 1) (v.i 11 2) (v.i 11 3) (v.l 11 4) (v.s 11 5) (v.i 11 6) (v.b 11 7) (v.i 11 8) (v.i 11 9) (v.i 11 10) (v.s 15 0) (v.i 15 1) (v.i 15 2) (v.l 15 3) (v.s 19 0) (v.i 19 1) (v.i 19 2) (v.l 19 3) (qnz (v.l 416 0) (v.i 420 0) (v.i 424 0) (v.s 3 0) (v.i 3 1) (v.i 7 0) (v.s 7 1) (v.i 7 2) (v.i 7 3) (v.l 7 4) (v.i 7 5) (v.i 7 6) (v.i 7 7) (v.i 7 8) (v.i 11 0) (v.s 11 1) (v.i 11 2) (v.i 11 3) (v.l 11 4) (v.s 11 5) (v.i 11 6) (v.b 11 7) (v.i 11 8) (v.i 11 9) (v.i 11 10) K)) (by kernel_rfl) (fun _ _ => (by kernel_rfl))
def qn1  (v104 : List AV) (v105 v106 : Int) (Aa : List UInt8) (Ab Bj : Int) (Ch : List UInt8) (Ck Cm : Int) (Cn : List AV) (Co Cp Cq Cr : Int) (K : Ex → Env → Mem → Option Bool) := (fun z_v217 => K .norm (qh [(5, (.ptr 0 0)), (14, (.ptr 1 0)), (104, (.sl 11 v104)), (105, (.int .i64 v105)), (106, (.int .i64 v106)), (217, (.bool z_v217))]) (qi [(some (.box true [(.str Aa), (.int .i64 Ab)])), (some (.box true (qgr Bj Ch Ck Cm Cn Co Cp Cq Cr)))]))
def qde  (v104 : List AV) (v105 v106 : Int) (Aa : List UInt8) (Ab Bj : Int) (Ch : List UInt8) (Ck Cm : Int) (Cn : List AV) (Co Cp Cq Cr Bv : Int) (Ca : List UInt8) (Cb Cc : Int) (Cl : List AV) (Cd : List UInt8) (Ce : Int) (Cf : Bool) (Cg Cs Ct : Int) (kn : Bool → Option Bool) : Option Bool :=
  (bif ((Bv == (1 : Int)) && (Cd == Aa)) then (bif Cf then (bif (Bj == (2 : Int)) then (kn true) else (bif (!Cf) then (bif (Bj == (1 : Int)) then (kn (Ce == Ab)) else (kn false)) else (kn false))) else (bif (!Cf) then (bif (Bj == (1 : Int)) then (kn (Ce == Ab)) else (kn false)) else (kn false))) else (kn false))
def qi6 := hull (qde)
theorem qn2 : qi6 = qde := qb _
def qpb : SubB Tryd.prog (TIof Tryd.prog) 220 0 (kret [.t 6] decB) := jnB tabOk follows Tryd.f4 25060863 (.r [(4, .g 6)] [.sel [5, 14, 104, 105, 106, 217] [0, 1]]) S77_ (qde) (fun f v K => f (v.l 416 0) (v.i 420 0) (v.i 424 0) (v.s 3 0) (v.i 3 1) (v.i 7 0) (v.s 7 1) (v.i 7 2) (v.i 7 3) (v.l 7 4) (v.i 7 5) (v.i 7 6) (v.i 7 7) (v.i 7 8) (v.i 11 0) (v.s 11 1) (v.i 11 2) (v.i 11 3) (v.l 11 4) (v.s 11 5) (v.i 11 6) (v.b 11 7) (v.i 11 8) (v.i 11 9) (v.i 11 10) (qn1 (v.l 416 0) (v.i 420 0) (v.i 424 0) (v.s 3 0) (v.i 3 1) (v.i 7 0) (v.s 7 1) (v.i 7 2) (v.i 7 3) (v.l 7 4) (v.i 7 5) (v.i 7 6) (v.i 7 7) (v.i 7 8) K)) (by kernel_rfl) (fun _ _ => (by kernel_rfl))
def qg5  (K : Ex → Env → Mem → Option Bool) := (fun (_ : Unit) => K (.exit 2) (qh []) (qi []))
def qcg  (v104 : List AV) (v105 v106 : Int) (Aa : List UInt8) (Ab Bj : Int) (Ch : List UInt8) (Ck Cm : Int) (Cn : List AV) (Co Cp Cq Cr : Int) (next : Int → Option Bool) (kx2 : Unit → Option Bool) : Option Bool :=
  (bif (decide (v106 < v105)) then (oB (ixB v104 v106) fun y1 => (bif fitC qbn y1.cells then (bif (((((decide ((gI y1.cells 10) < (0 : Int))) || (decide ((gI y1.cells 10) > (4294967295 : Int)))) || ((gI y1.cells 8) != Co)) || ((gI y1.cells 9) != Cp)) || ((if (4294967295 : Int) < (IntKind.i64.wrap ((gI y1.cells 10) + (if (2147483647 : Int) < (if (0 : Int) > (gI y1.cells 3) then (0 : Int) else (gI y1.cells 3)) then (2147483647 : Int) else (if (0 : Int) > (gI y1.cells 3) then (0 : Int) else (gI y1.cells 3))))) then (4294967295 : Int) else (IntKind.i64.wrap ((gI y1.cells 10) + (if (2147483647 : Int) < (if (0 : Int) > (gI y1.cells 3) then (0 : Int) else (gI y1.cells 3)) then (2147483647 : Int) else (if (0 : Int) > (gI y1.cells 3) then (0 : Int) else (gI y1.cells 3)))))) != Cq)) then (next (IntKind.i64.wrap (v106 + (1 : Int)))) else (oB (qim (gS y1.cells 1) (gI y1.cells 2) (gI y1.cells 3) (gL y1.cells 4)) fun r2 => (qi5 v104 v105 v106 Aa Ab Bj Ch Ck Cm Cn Co Cp Cq Cr (gI y1.cells 0) (gS y1.cells 1) (gI y1.cells 2) (gI y1.cells 3) (gL y1.cells 4) (gS y1.cells 5) (gI y1.cells 6) (gB y1.cells 7) (gI y1.cells 8) (gI y1.cells 9) (gI y1.cells 10) (gS r2.cells 0) (gI r2.cells 1) (gI r2.cells 2) (gL r2.cells 3) Ch Ck (gI r2.cells 2) Cn (fun v178q3 => (bif v178q3 then (oB (qek) fun r4 => (some r4)) else (qi6 v104 v105 v106 Aa Ab Bj Ch Ck Cm Cn Co Cp Cq Cr (gI y1.cells 0) (gS y1.cells 1) (gI y1.cells 2) (gI y1.cells 3) (gL y1.cells 4) (gS y1.cells 5) (gI y1.cells 6) (gB y1.cells 7) (gI y1.cells 8) (gI y1.cells 9) (gI y1.cells 10) (fun v217q5 => (bif v217q5 then (oB (qek) fun r6 => (some r6)) else (next (IntKind.i64.wrap (v106 + (1 : Int)))))))))))) else none)) else (kx2 ()))
def qch  (v104 : List AV) (v105 : Int) (Aa : List UInt8) (Ab Bj : Int) (Ch : List UInt8) (Ck Cm : Int) (Cn : List AV) (Co Cp Cq Cr : Int) (kx2 : Unit → Option Bool) : Nat → Int → Option Bool
  | 0 => (fun _ => none)
  | n + 1 => (fun v106 => qcg v104 v105 v106 Aa Ab Bj Ch Ck Cm Cn Co Cp Cq Cr (qch v104 v105 Aa Ab Bj Ch Ck Cm Cn Co Cp Cq Cr kx2 n) kx2)
def qd2 := hull (qch)
theorem qn3 : qd2 = qch := qb _
def qpc : SubB Tryd.prog (TIof Tryd.prog) 220 0 (kret [.t 6] decB) := lpB tabOk follows Tryd.f4 9727 (.s .z (.s (.s .z (.v [.sel [] []])) (.s (.b (.s (.r [(0, .p (.etac 108 qbn))] []) (.s (.s (.r [(4, .g 3), (9, .g 5), (16, .g 5), (23, .g 12)] []) .z) (.s (.r [(2, .k qo6.b)] []) (.s .z (.s .z (.s (.s (.sub [.sel [5, 14, 17, 18, 19, 104, 105, 106] [0, 1, 2, 3, 4]] qpa []) (.s (.s (.r [(0, .c qgv.b)] []) .z) .z)) (.s (.sub [.sel [5, 14, 17, 104, 105, 106] [0, 1, 2]] qpb []) (.s (.s (.r [(0, .c qgv.b)] []) .z) .z))))))))) (.v [.sel [5, 14, 104, 105, 106] [0, 1]])))) S78_ (qch) (fun f v K n => f (v.l 416 0) (v.i 420 0) (v.s 3 0) (v.i 3 1) (v.i 7 0) (v.s 7 1) (v.i 7 2) (v.i 7 3) (v.l 7 4) (v.i 7 5) (v.i 7 6) (v.i 7 7) (v.i 7 8) (qg5 K) n) (fun v f K => qcg (v.l 416 0) (v.i 420 0) (v.i 424 0) (v.s 3 0) (v.i 3 1) (v.i 7 0) (v.s 7 1) (v.i 7 2) (v.i 7 3) (v.l 7 4) (v.i 7 5) (v.i 7 6) (v.i 7 7) (v.i 7 8) f (qg5 K)) (fun f v => f (v.i 424 0)) (fun k v => (fun z0 => k (v.ui 424 0 z0))) (by kernel_rfl) (fun _ _ => (by kernel_rfl)) (fun _ _ _ => (by kernel_rfl)) (fun _ _ _ => (by kernel_rfl)) (fun _ _ => (by kernel_rfl)) (fun _ _ _ _ _ => (by kernel_rfl))
def qeg (v0 : Int) (v1 : List AV) (Bg : List UInt8) (Bh : Int) : Option Bool :=
  (oB (qh4 v0) fun r1 => (bif (r1.2 != (0 : Int)) then (oB (qek) fun r2 => (some r2)) else (oB (cutI v1 none (some (if (30 : Int) < (v1.length : Int) then (30 : Int) else (v1.length : Int)))) fun s3 => (oB (qnn v0 s3) fun r4 => (qd1 s3 s3 (s3.length : Int) Bg Bh (gI r4.cells 0) (gL r4.cells 1) (fun v10q5 => (oB (qgl (gI r4.cells 0) (gL r4.cells 1) Bg Bh v10q5) fun r6 => (bif (!r6.2.2) then (qi4 (gI r6.2.1.cells 0) (gS r6.2.1.cells 1) (gI r6.2.1.cells 2) (gI r6.2.1.cells 3) (gL r6.2.1.cells 4) (gI r6.2.1.cells 5) (gI r6.2.1.cells 6) (gI r6.2.1.cells 7) (gI r6.2.1.cells 8) (fun v6q7 => (some v6q7))) else (bif ((((decide ((gI r6.2.1.cells 7) ≤ v10q5)) || ((gI r6.2.1.cells 3) != (IntKind.i64.wrap ((gI r6.2.1.cells 7) - v10q5)))) || ((gI r6.2.1.cells 8) != v10q5)) || (!((gS r6.2.1.cells 1) == Bg))) then (some false) else (qd2 s3 (s3.length : Int) Bg Bh (gI r6.2.1.cells 0) (gS r6.2.1.cells 1) (gI r6.2.1.cells 2) (gI r6.2.1.cells 3) (gL r6.2.1.cells 4) (gI r6.2.1.cells 5) (gI r6.2.1.cells 6) (gI r6.2.1.cells 7) (gI r6.2.1.cells 8) (fun (_ : Unit) => (some false)) FU (0 : Int)))))) FU (0 : Int) (0 : Int))))))
def qe9 := hull qeg
theorem qrz : qe9 = qeg := qb _
def qs7 {R : Type} : EntF Tryd.prog R := entB (nt := 220) (dec := decB) (enc := AV.bool) tabOk follows Tryd.func4 [.t 6] hdeB (.s .z (.s (.s (.r [(1, .c qmk.b)] []) (.s .z (.s (.s (.r [(0, .c qgv.b)] []) .z) .z))) (.s .z (.s (.r [(2, .k q1c.b)] []) (.s .z (.s (.s .z (.b (.sub [.sel [1, 5, 9, 10, 36, 37, 38] [0, 2]] qo8 []))) (.s (.r [(3, .k qi2.b)] []) (.s (.s .z (.s (.s (.sub [.sel [14] [3]] qo9 []) .z) .z)) (.s (.s (.r [(5, .g 8), (15, .g 4), (21, .g 6)] []) .z) (.s (.s .z (.b (.sub [.sel [5, 14, 104, 105, 106] [0, 3]] qpc []))) .z)))))))))) S79_ qeg (fun f v => f (v.i 0 0) (v.l 4 0) (v.s 9 0) (v.i 9 1)) (by kernel_rfl) (by kernel_rfl) (by kernel_rfl) fun _ => (by kernel_rfl)
end
end Go.Proofs.YtmficjbenbhneaaDoor.Dn
