import Derived.Test.YtmficjbenbhneaaDoorProg
import Derived.Test.YtmficjbenbhneaaDoorReLibD
set_option linter.all false
namespace Go.Proofs.YtmficjbenbhneaaDoor.Dn
open Go Go.Pev
set_option linter.unusedVariables false
set_option linter.unusedSimpArgs false
set_option maxRecDepth 100000
set_option maxHeartbeats 4000000
theorem zT : True := True.intro
theorem zA {a b : Prop} (x : a) (y : b) : a ∧ b := ⟨x, y⟩
theorem tabOk : Tab.ok (TIof Tryd.prog) Tryd.prog := fun _ _ h => h
theorem follows : Tryd.prog.follows .mixedOrders = true := by kernel_rfl
def S0_ : Shp := ⟨[(0, .one (.l (.i .i64)))], []⟩
def q41 : AV → Option (AV × Int) := decN [(.st [(.i .i64), .nil]), (.one (.i .i64))] fun z => ((gC (tpL z) 0), aI (gC (tpL z) 1))
noncomputable section
def qit (v0 : Int) : Option (AV × Int) :=
  (bif ((decide (v0 < (1 : Int))) || (decide (v0 > (256 : Int)))) then (some ((.agg [(.int .i64 (0 : Int)), .nils]), (1 : Int))) else (some ((.agg [(.int .i64 v0), .nils]), (0 : Int))))
def qgg := hull qit
theorem qut : qgg = qit := qb _
def qmd {R : Type} : EntF Tryd.prog R := entB (nt := 13) (dec := q41) (enc := (fun r => .tup [qdy (.st [(.i .i64), .nil]) r.1, .int .i64 r.2])) tabOk follows Tryd.func7 [(.cell 2 true 2), .t 3] (hdeN fun _ => rfl) (.s .z (.s (.s (.r [(3, .g 2)] []) .z) .z)) S0_ qit (fun f v => f (v.i 0 0)) (by kernel_rfl) (by kernel_rfl) (by kernel_rfl) fun _ => (by kernel_rfl)
def S1_ : Shp := ⟨[(0, .one (.l .s)), (1, .one (.l (.i .i64)))], []⟩
def qlk (v0 : List UInt8) (v1 : Int) : Option AV :=
  (bif hd ([(.agg [(.bool false), (.int .u64 (0 : Int)), (.int .u64 (1 : Int)), (.str ([] : List UInt8)), (.str ([] : List UInt8)), (.str ([] : List UInt8)), (.int .i64 (0 : Int)), (.int .i64 (0 : Int)), (.int .i64 (0 : Int)), (.int .i64 (0 : Int)), (.int .i64 (0 : Int)), (.int .i64 (0 : Int)), (.int .u64 (0 : Int))])] : List AV) (([(.agg [(.bool false), (.int .u64 (0 : Int)), (.int .u64 (1 : Int)), (.str ([] : List UInt8)), (.str ([] : List UInt8)), (.str ([] : List UInt8)), (.int .i64 (0 : Int)), (.int .i64 (0 : Int)), (.int .i64 (0 : Int)), (.int .i64 (0 : Int)), (.int .i64 (0 : Int)), (.int .i64 (0 : Int)), (.int .u64 (0 : Int))])] : List AV).length) then (some (.agg [(.str v0), (.int .i64 (1 : Int)), (.int .i64 v1), (.fr true 13 ([(.agg [(.bool false), (.int .u64 (0 : Int)), (.int .u64 (1 : Int)), (.str ([] : List UInt8)), (.str ([] : List UInt8)), (.str ([] : List UInt8)), (.int .i64 (0 : Int)), (.int .i64 (0 : Int)), (.int .i64 (0 : Int)), (.int .i64 (0 : Int)), (.int .i64 (0 : Int)), (.int .i64 (0 : Int)), (.int .u64 (0 : Int))])] : List AV))])) else none)
def qkd := hull qlk
theorem qz5 : qkd = qlk := qb _
def qq4 {R : Type} : EntF Tryd.prog R := entB (nt := 11) (dec := (decT [.s, (.i .i64), (.i .i64), (.fr true 13)])) (enc := (qdy (.st [.s, (.i .i64), (.i .i64), (.fr true 13)]))) tabOk follows Tryd.func21 [(.cell 4 true 4)] hdeT (.z) S1_ qlk (fun f v => f (v.s 0 0) (v.i 4 0)) (by kernel_rfl) (by kernel_rfl) (by kernel_rfl) fun _ => (by kernel_rfl)
def qh8 : Nat := 37
def qbm : List LT := [.b, (.i .u64), (.i .u64), .s, .s, .s, (.i .i64), (.i .i64), (.i .i64), (.i .i64), (.i .i64), (.i .i64), (.i .u64)]
def qcw : List LT := [.s, (.i .i64), (.i .i64), (.sl 13)]
def S2_ : Shp := ⟨[(1, .one (.ptr 0 0)), (3, .one (.own 1)), (7, .one (.l (.sl 13))), (8, .one (.l (.i .i64))), (9, .one (.l (.i .i64)))], [.box true (lk qcw), .arr true 16]⟩
def S3_ : Shp := ⟨[(0, .st (lk qcw))], []⟩
def qke  (K : Ex → Env → Mem → Option (List AV)) := (fun z_a0 => K (.exit 0) (qi [(3, (.own 0 z_a0.length))]) (qj [(some (.arr true 16 z_a0))]))
def qdz  (v7 : List AV) (v8 v9 : Int) (Aa : List UInt8) (Ab Ac : Int) (Ad a1 : List AV) (next : Int → (List AV) → Option (List AV)) (kx0 : (List AV) → Option (List AV)) : Option (List AV) :=
  (bif (decide (v9 < v8)) then (oB (ixB v7 v9) fun y1 => (bif fitC qbm y1.cells then (bif hd a1 a1.length then (bif hd ([(.agg [(.str Aa), (.int .i64 Ab), (.int .i64 Ac), (.bool (gB y1.cells 0)), (.int .u64 (gI y1.cells 1)), (.int .u64 (gI y1.cells 2)), (.str (gS y1.cells 3)), (.str (gS y1.cells 4)), (.str (gS y1.cells 5)), (.int .i64 (gI y1.cells 6)), (.int .i64 (gI y1.cells 7)), (.int .i64 (gI y1.cells 8)), (.int .i64 (gI y1.cells 9)), (.int .i64 (gI y1.cells 10)), (.int .i64 (gI y1.cells 11)), (.int .u64 (gI y1.cells 12))])] : List AV) (([(.agg [(.str Aa), (.int .i64 Ab), (.int .i64 Ac), (.bool (gB y1.cells 0)), (.int .u64 (gI y1.cells 1)), (.int .u64 (gI y1.cells 2)), (.str (gS y1.cells 3)), (.str (gS y1.cells 4)), (.str (gS y1.cells 5)), (.int .i64 (gI y1.cells 6)), (.int .i64 (gI y1.cells 7)), (.int .i64 (gI y1.cells 8)), (.int .i64 (gI y1.cells 9)), (.int .i64 (gI y1.cells 10)), (.int .i64 (gI y1.cells 11)), (.int .u64 (gI y1.cells 12))])] : List AV).length) then (bif decide ((a1.length + ([(.agg [(.str Aa), (.int .i64 Ab), (.int .i64 Ac), (.bool (gB y1.cells 0)), (.int .u64 (gI y1.cells 1)), (.int .u64 (gI y1.cells 2)), (.str (gS y1.cells 3)), (.str (gS y1.cells 4)), (.str (gS y1.cells 5)), (.int .i64 (gI y1.cells 6)), (.int .i64 (gI y1.cells 7)), (.int .i64 (gI y1.cells 8)), (.int .i64 (gI y1.cells 9)), (.int .i64 (gI y1.cells 10)), (.int .i64 (gI y1.cells 11)), (.int .u64 (gI y1.cells 12))])] : List AV).length) * 160 ≤ 140737488355328) then (next (IntKind.i64.wrap (v9 + (1 : Int))) (a1 ++ ([(.agg [(.str Aa), (.int .i64 Ab), (.int .i64 Ac), (.bool (gB y1.cells 0)), (.int .u64 (gI y1.cells 1)), (.int .u64 (gI y1.cells 2)), (.str (gS y1.cells 3)), (.str (gS y1.cells 4)), (.str (gS y1.cells 5)), (.int .i64 (gI y1.cells 6)), (.int .i64 (gI y1.cells 7)), (.int .i64 (gI y1.cells 8)), (.int .i64 (gI y1.cells 9)), (.int .i64 (gI y1.cells 10)), (.int .i64 (gI y1.cells 11)), (.int .u64 (gI y1.cells 12))])] : List AV))) else none) else none) else none) else none)) else (kx0 a1))
def qcx  (v7 : List AV) (v8 : Int) (Aa : List UInt8) (Ab Ac : Int) (Ad : List AV) (kx0 : (List AV) → Option (List AV)) : Nat → Int → (List AV) → Option (List AV)
  | 0 => (fun _ _ => none)
  | n + 1 => (fun v9 a1 => qdz v7 v8 v9 Aa Ab Ac Ad a1 (qcx v7 v8 Aa Ab Ac Ad kx0 n) kx0)
def qob := hull (qcx)
theorem quf : qob = qcx := qb _
def quu : SubB Tryd.prog (TIof Tryd.prog) 26 0 (kret [.t 2] (decF true 16)) := lpB tabOk follows Tryd.f56 75 (.s .z (.s (.s .z (.v [.sel [3] [1]])) (.s (.b (.s (.r [(0, .p (.etac 11 qbm))] []) .z)) (.v [.sel [1, 3, 7, 8, 9] [0, 1]])))) S2_ (qcx) (fun f v K n => f (v.l 28 0) (v.i 32 0) (v.s 3 0) (v.i 3 1) (v.i 3 2) (v.l 3 3) (qke K) n) (fun v f K => qdz (v.l 28 0) (v.i 32 0) (v.i 36 0) (v.s 3 0) (v.i 3 1) (v.i 3 2) (v.l 3 3) (v.r 1) f (qke K)) (fun f v => f (v.i 36 0) (v.r 1)) (fun k v => (fun z0 z1 => k ((v.ui 36 0 z0).ur 1 z1))) (by kernel_rfl) (fun _ _ => (by kernel_rfl)) (fun _ _ _ => (by kernel_rfl)) (fun _ _ _ => (by kernel_rfl)) (fun _ _ => (by kernel_rfl)) (fun _ _ _ _ _ => (by kernel_rfl))
def qhc (Ae : List UInt8) (Af Ag : Int) (Ah : List AV) : Option (List AV) :=
  (bif (hd ([] : List AV) (([] : List AV).length) && true) then (qob Ah (Ah.length : Int) Ae Af Ag Ah (fun a0q1 => (bif hd a0q1 a0q1.length then (some a0q1) else none)) FU (0 : Int) ([] : List AV)) else none)
def qm9 := hull qhc
theorem qyy : qm9 = qhc := qb _
def qz6 {R : Type} : EntF Tryd.prog R := entB (nt := 26) (dec := (decF true 16)) (enc := (AV.fr true 16)) tabOk follows Tryd.func56 [.t 2] hdeF (.s .z (.s .z (.s (.s .z (.b (.sub [.own 3 16, .sel [1, 3, 7, 8, 9] [0, 1]] quu []))) .z))) S3_ qhc (fun f v => f (v.s 1 0) (v.i 1 1) (v.i 1 2) (v.l 1 3)) (by kernel_rfl) (by kernel_rfl) (by kernel_rfl) fun _ => (by kernel_rfl)
def qkf : List LT := [.s, (.i .i64), (.i .i64), .b, (.i .u64), (.i .u64), .s, .s, .s, (.i .i64), (.i .i64), (.i .i64), (.i .i64), (.i .i64), (.i .i64), (.i .u64)]
def S4_ : Shp := ⟨[(0, .one (.l .s)), (1, .one (.l .s))], []⟩
def qdk (v0 v1 : List UInt8) : Option Bool :=
  (bif (decide ((v0.length : Int) ≥ (v1.length : Int))) then (oB (cutI v0 (some (IntKind.i64.wrap ((v0.length : Int) - (v1.length : Int)))) none) fun s1 => (some (s1 == v1))) else (some false))
def qju := hull qdk
theorem qoc : qju = qdk := qb _
def qpi {R : Type} : EntF Tryd.prog R := entB (nt := 21) (dec := decB) (enc := AV.bool) tabOk follows Tryd.func51 [.t 4] hdeB (.z) S4_ qdk (fun f v => f (v.s 0 0) (v.s 4 0)) (by kernel_rfl) (by kernel_rfl) (by kernel_rfl) fun _ => (by kernel_rfl)
def qen (v0 v1 : List UInt8) : Option Bool :=
  (oB (qju v0 v1) fun r1 => (some r1))
def qfn := hull qen
theorem qsc : qfn = qen := qb _
def qle {R : Type} : EntF Tryd.prog R := entB (nt := 8) (dec := decB) (enc := AV.bool) tabOk follows Tryd.func23 [.t 4] hdeB (.s .z (.s (.r [(2, .c qpi.b)] []) .z)) S4_ qen (fun f v => f (v.s 0 0) (v.s 4 0)) (by kernel_rfl) (by kernel_rfl) (by kernel_rfl) fun _ => (by kernel_rfl)
theorem q5x {R : Type} : qes Tryd.prog 78 (ql7 (R := R)) := q8m Tryd.func78 (by kernel_rfl) (by kernel_rfl) (by kernel_rfl) (by kernel_rfl)
theorem q5y {R : Type} : qes Tryd.prog 97 (ql8 (R := R)) := q8n Tryd.func97 (by kernel_rfl) (by kernel_rfl) (by kernel_rfl) (by kernel_rfl)
def S5_ : Shp := ⟨[(0, .one (.l .s)), (1, .one (.l (.i .u8)))], []⟩
def qdl (v0 : List UInt8) (v1 : Int) : Option Int :=
  (oB (qn2 v0 v1) fun r1 => (some r1))
def qjv := hull qdl
theorem qod : qjv = qdl := qb _
def qpj {R : Type} : EntF Tryd.prog R := entB (nt := 8) (dec := (decI .i64)) (enc := (AV.int .i64)) tabOk follows Tryd.func90 [.t 4] hdeI (.s .z (.s (.r [(2, .c (eK q5y))] []) .z)) S5_ qdl (fun f v => f (v.s 0 0) (v.i 4 0)) (by kernel_rfl) (by kernel_rfl) (by kernel_rfl) fun _ => (by kernel_rfl)
def qeo (v0 v1 : List UInt8) : Option Int :=
  (bif (((v1.length : Int) == (0 : Int)) || (v1 == v0)) then (some (0 : Int)) else (bif ((v1.length : Int) == (1 : Int)) then (oB (ixB v1 (0 : Int)) fun c1 => (oB (qjv v0 (c1.toNat : Int)) fun r2 => (some r2))) else (bif (decide ((v1.length : Int) ≥ (v0.length : Int))) then (some (-1 : Int)) else none)))
def qnl := hull qeo
theorem qsd : qnl = qeo := qb _
def qug {R : Type} : EntF Tryd.prog R := entB (nt := 143) (dec := (decI .i64)) (enc := (AV.int .i64)) tabOk follows Tryd.func79 [.t 4] hdeI (.s .z (.s .z (.s (.b (.s (.r [(3, .g 3)] []) (.s .z (.s .z (.s (.s (.r [(3, .c qpj.b)] []) .z) .z))))) (.s .z (.s .z (.s .z (.s .z (.s .z (.s (.b .x) .z))))))))) S4_ qeo (fun f v => f (v.s 0 0) (v.s 4 0)) (by kernel_rfl) (by kernel_rfl) (by kernel_rfl) fun _ => (by kernel_rfl)
def qhd (v0 v1 : List UInt8) : Option Int :=
  (oB (qnl v0 v1) fun r1 => (some r1))
def qix := hull qhd
theorem qyz : qix = qhd := qb _
def qpp {R : Type} : EntF Tryd.prog R := entB (nt := 8) (dec := (decI .i64)) (enc := (AV.int .i64)) tabOk follows Tryd.func69 [.t 4] hdeI (.s .z (.s (.r [(2, .c qug.b)] []) .z)) S4_ qhd (fun f v => f (v.s 0 0) (v.s 4 0)) (by kernel_rfl) (by kernel_rfl) (by kernel_rfl) fun _ => (by kernel_rfl)
def S6_ : Shp := ⟨[(0, .one (.l .s)), (1, .one (.l .s)), (5, .one (.l (.i .i64)))], []⟩
def qlf  (v0 v1 : List UInt8) (v5 : Int) (next : (List UInt8) → Int → Option Int) : Option Int :=
  (oB (qix v0 v1) fun r1 => (bif (r1 == (-1 : Int)) then (some v5) else (oB (cutI v0 (some (IntKind.i64.wrap (r1 + (v1.length : Int)))) none) fun s2 => (next s2 (IntKind.i64.wrap (v5 + (1 : Int)))))))
def qg6  (v1 : List UInt8) : Nat → (List UInt8) → Int → Option Int
  | 0 => (fun _ _ => none)
  | n + 1 => (fun v0 v5 => qlf v0 v1 v5 (qg6 v1 n))
def qxl := hull (qg6)
def quh : SubB Tryd.prog (TIof Tryd.prog) 34 0 (kret [.t 4] (decI .i64)) := lpB tabOk follows Tryd.f68 79 (.b (.s (.r [(2, .c qpp.b)] []) (.s .z (.s .z (.v [.sel [0, 1, 5] []]))))) S6_ (qg6) (fun f v K n => f (v.s 4 0) n) (fun v f K => qlf (v.s 0 0) (v.s 4 0) (v.i 20 0) f) (fun f v => f (v.s 0 0) (v.i 20 0)) (fun k v => (fun z0 z1 => k ((v.us 0 0 z0).ui 20 0 z1))) (by kernel_rfl) (fun _ _ => (by kernel_rfl)) (fun _ _ _ => (by kernel_rfl)) (fun _ _ _ => (by kernel_rfl)) (fun _ _ => (by kernel_rfl)) (fun _ _ _ _ _ => (by kernel_rfl))
def qhe (v0 v1 : List UInt8) : Option Int :=
  (bif ((v1.length : Int) == (0 : Int)) then none else (bif ((v1.length : Int) == (1 : Int)) then (oB (ixB v1 (0 : Int)) fun c1 => (oB (qn1 v0 (c1.toNat : Int)) fun r2 => (some r2))) else (qxl v1 FU v0 (0 : Int))))
def qna := hull qhe
theorem qy0 : qna = qhe := qb _
def qz7 {R : Type} : EntF Tryd.prog R := entB (nt := 34) (dec := (decI .i64)) (enc := (AV.int .i64)) tabOk follows Tryd.func68 [.t 4] hdeI (.s .z (.s (.s .z (.s (.s (.r [(1, .c (eK (qbb5 (f := 76))))] []) .z) .z)) (.s (.s .z (.s (.s (.r [(3, .c (eK q5x))] []) .z) .z)) (.s .z (.b (.sub [.sel [0, 1, 5] []] quh [])))))) S4_ qhe (fun f v => f (v.s 0 0) (v.s 4 0)) (by kernel_rfl) (by kernel_rfl) (by kernel_rfl) fun _ => (by kernel_rfl)
def S7_ : Shp := ⟨[(0, .one (.l .s)), (1, .one (.l .s)), (2, .one (.l (.i .i64))), (3, .one (.l (.i .i64)))], []⟩
def S8_ : Shp := ⟨[(0, .one (.l .s)), (1, .one (.l .s)), (2, .one (.l (.i .i64))), (3, .one (.l (.i .i64))), (9, .one (.own 0)), (10, .one (.l (.i .i64)))], [.arr true 1]⟩
def qpk  (v0 v1 : List UInt8) (v2 : Int) (K : Ex → Env → Mem → Option (List AV)) := (fun z_v3 => K .norm (qi [(0, (.str v0)), (1, (.str v1)), (2, (.int .i64 v2)), (3, (.int .i64 z_v3))]) (qj []))
def qdw  (v0 v1 : List UInt8) (v2 v3 : Int) (kn : Int → Option (List AV)) : Option (List AV) :=
  (bif (decide (v3 < (0 : Int))) then (oB (qna v0 v1) fun r1 => (kn (IntKind.i64.wrap (r1 + (1 : Int))))) else (kn v3))
def qkg := hull (qdw)
theorem qpl : qkg = qdw := qb _
def qqs : SubB Tryd.prog (TIof Tryd.prog) 66 0 (kret [.t 8] (decX (.one (.sl 1)) fun z => aL z)) := jnB tabOk follows Tryd.f52 23 (.s .z (.s (.r [(2, .c qz7.b)] [.sel [0, 1, 2, 3] []]) (.v [.sel [0, 1, 2, 3] []]))) S7_ (qdw) (fun f v K => f (v.s 0 0) (v.s 4 0) (v.i 8 0) (v.i 12 0) (qpk (v.s 0 0) (v.s 4 0) (v.i 8 0) K)) (by kernel_rfl) (fun _ _ => (by kernel_rfl))
def qhy  (K : Ex → Env → Mem → Option (List AV)) := (fun z_v0 z_v10 z_a0 => K (.exit 0) (qi [(0, (.str z_v0)), (9, (.own 0 z_a0.length)), (10, (.int .i64 z_v10))]) (qj [(some (.arr true 1 z_a0))]))
def qcp  (v0 v1 : List UInt8) (v2 v3 v10 : Int) (a0 : List AV) (next : (List UInt8) → Int → (List AV) → Option (List AV)) (kx0 : (List UInt8) → Int → (List AV) → Option (List AV)) : Option (List AV) :=
  (bif (decide (v10 < v3)) then (oB (qix v0 v1) fun r1 => (bif (decide (r1 < (0 : Int))) then (kx0 v0 v10 a0) else (oB (cutI v0 none (some (IntKind.i64.wrap (r1 + v2)))) fun s2 => (bif hd a0 a0.length then (bif decide (0 ≤ v10 ∧ v10 < a0.length) then (bif hd a0 a0.length then (oB (a0[v10.toNat]?) fun y3 => (oB (putE y3 0 1 [(.str s2)]) fun z4 => (oB (cutI v0 (some (IntKind.i64.wrap (r1 + (v1.length : Int)))) none) fun s5 => (bif hd (a0.set v10.toNat z4) a0.length then (next s5 (IntKind.i64.wrap (v10 + (1 : Int))) (a0.set v10.toNat z4)) else none)))) else none) else none) else none)))) else (kx0 v0 v10 a0))
def qbl  (v1 : List UInt8) (v2 v3 : Int) (kx0 : (List UInt8) → Int → (List AV) → Option (List AV)) : Nat → (List UInt8) → Int → (List AV) → Option (List AV)
  | 0 => (fun _ _ _ => none)
  | n + 1 => (fun v0 v10 a0 => qcp v0 v1 v2 v3 v10 a0 (qbl v1 v2 v3 kx0 n) kx0)
def qkh := hull (qbl)
theorem qpm : qkh = qbl := qb _
def qqt : SubB Tryd.prog (TIof Tryd.prog) 66 0 (kret [.t 8] (decX (.one (.sl 1)) fun z => aL z)) := lpB tabOk follows Tryd.f52 2303 (.s (.s .z (.s .z (.v [.sel [0, 9, 10] [0]]))) (.b (.s (.r [(2, .c qpp.b)] []) (.s (.s .z (.s (.v [.sel [0, 9, 10] [0]]) .z)) (.s .z (.s .z (.v [.hd 9, .sel [0, 1, 2, 3, 9, 10] [0]]))))))) S8_ (qbl) (fun f v K n => f (v.s 4 0) (v.i 8 0) (v.i 12 0) (qhy K) n) (fun v f K => qcp (v.s 0 0) (v.s 4 0) (v.i 8 0) (v.i 12 0) (v.i 40 0) (v.r 0) f (qhy K)) (fun f v => f (v.s 0 0) (v.i 40 0) (v.r 0)) (fun k v => (fun z0 z1 z2 => k (((v.us 0 0 z0).ui 40 0 z1).ur 0 z2))) (by kernel_rfl) (fun _ _ => (by kernel_rfl)) (fun _ _ _ => (by kernel_rfl)) (fun _ _ _ => (by kernel_rfl)) (fun _ _ => (by kernel_rfl)) (fun _ _ _ _ _ => (by kernel_rfl))
def qey (v0 v1 : List UInt8) (v2 v3 : Int) : Option (List AV) :=
  (bif (v3 == (0 : Int)) then (some ([] : List AV)) else (bif (v1 == ([] : List UInt8)) then none else (qkg v0 v1 v2 v3 (fun v3q1 => (bif decide (0 ≤ (if (IntKind.i64.wrap ((v0.length : Int) + (1 : Int))) < v3q1 then (IntKind.i64.wrap ((v0.length : Int) + (1 : Int))) else v3q1) ∧ (if (IntKind.i64.wrap ((v0.length : Int) + (1 : Int))) < v3q1 then (IntKind.i64.wrap ((v0.length : Int) + (1 : Int))) else v3q1) ≤ (if (IntKind.i64.wrap ((v0.length : Int) + (1 : Int))) < v3q1 then (IntKind.i64.wrap ((v0.length : Int) + (1 : Int))) else v3q1) ∧ (if (IntKind.i64.wrap ((v0.length : Int) + (1 : Int))) < v3q1 then (IntKind.i64.wrap ((v0.length : Int) + (1 : Int))) else v3q1) * 16 ≤ 281474976710656) then (bif (hd (List.replicate (if (IntKind.i64.wrap ((v0.length : Int) + (1 : Int))) < v3q1 then (IntKind.i64.wrap ((v0.length : Int) + (1 : Int))) else v3q1).toNat ((.str ([] : List UInt8)) : AV)) ((List.replicate (if (IntKind.i64.wrap ((v0.length : Int) + (1 : Int))) < v3q1 then (IntKind.i64.wrap ((v0.length : Int) + (1 : Int))) else v3q1).toNat ((.str ([] : List UInt8)) : AV)).length) && true) then (qkh v1 v2 (IntKind.i64.wrap ((if (IntKind.i64.wrap ((v0.length : Int) + (1 : Int))) < v3q1 then (IntKind.i64.wrap ((v0.length : Int) + (1 : Int))) else v3q1) - (1 : Int))) (fun v0q2 v10q3 a0q4 => (bif hd a0q4 a0q4.length then (bif decide (0 ≤ v10q3 ∧ v10q3 < a0q4.length) then (bif hd a0q4 a0q4.length then (oB (a0q4[v10q3.toNat]?) fun y5 => (oB (putE y5 0 1 [(.str v0q2)]) fun z6 => (bif hd (a0q4.set v10q3.toNat z6) a0q4.length then (oB (cutI (a0q4.set v10q3.toNat z6) none (some (IntKind.i64.wrap (v10q3 + (1 : Int))))) fun s7 => (some s7)) else none))) else none) else none) else none)) FU v0 (0 : Int) (List.replicate (if (IntKind.i64.wrap ((v0.length : Int) + (1 : Int))) < v3q1 then (IntKind.i64.wrap ((v0.length : Int) + (1 : Int))) else v3q1).toNat ((.str ([] : List UInt8)) : AV))) else none) else none)))))
def qoe := hull qey
theorem qui : qoe = qey := qb _
def quv {R : Type} : EntF Tryd.prog R := entB (nt := 66) (dec := (decX (.one (.sl 1)) fun z => aL z)) (enc := (fun r => .sl 1 r)) tabOk follows Tryd.func52 [.t 8] (hdeX fun _ => rfl) (.s .z (.s (.s .z (.s (.s .z (.v [.eta 8 (.one (.sl 1))])) .z)) (.s (.s .z (.s (.s (.r [(2, .c (eK (qbb5 (f := 67))))] []) .z) .z)) (.s (.sub [.sel [0, 1, 2, 3] []] qqs []) (.s .z (.s .z (.s .z (.s .z (.s (.b (.sub [.sel [0, 1, 2, 3, 9, 10] [0]] qqt [])) .z))))))))) S7_ qey (fun f v => f (v.s 0 0) (v.s 4 0) (v.i 8 0) (v.i 12 0)) (by kernel_rfl) (by kernel_rfl) (by kernel_rfl) fun _ => (by kernel_rfl)
def qhf (v0 v1 : List UInt8) : Option (List AV) :=
  (oB (qoe v0 v1 (0 : Int) (-1 : Int)) fun r1 => (some r1))
def qiy := hull qhf
theorem qy1 : qiy = qhf := qb _
def qpq {R : Type} : EntF Tryd.prog R := entB (nt := 8) (dec := (decX (.one (.sl 1)) fun z => aL z)) (enc := (fun r => .sl 1 r)) tabOk follows Tryd.func24 [.t 4] (hdeX fun _ => rfl) (.s .z (.s (.r [(2, .k quv.b)] []) .z)) S4_ qhf (fun f v => f (v.s 0 0) (v.s 4 0)) (by kernel_rfl) (by kernel_rfl) (by kernel_rfl) fun _ => (by kernel_rfl)
def S9_ : Shp := ⟨[(0, .one (.l .s)), (4, .one (.l (.i .u8))), (13, .one (.l (.i .i64))), (14, .one (.l (.i .i64)))], []⟩
def S10_ : Shp := ⟨[(0, .one (.l .s)), (13, .one (.l (.i .i64))), (14, .one (.l (.i .i64)))], []⟩
def S11_ : Shp := ⟨[(0, .one (.l .s))], []⟩
def qq5  (v0 : List UInt8) (v13 v14 : Int) (K : Ex → Env → Mem → Option Bool) := (fun z_v41 => K .norm (qi [(0, (.str v0)), (13, (.int .i64 v13)), (14, (.int .i64 v14)), (41, (.bool z_v41))]) (qj []))
def qeb  (v0 : List UInt8) (v4 v13 v14 : Int) (kn : Bool → Option Bool) : Option Bool :=
  (bif ((decide (v4 < (97 : Int))) || (decide (v4 > (122 : Int)))) then (bif (decide (v4 < (48 : Int))) then (kn ((v4 != (45 : Int)) && (v4 != (95 : Int)))) else (kn (((decide (v4 > (57 : Int))) && (v4 != (45 : Int))) && (v4 != (95 : Int))))) else (kn false))
def qhz := hull (qeb)
theorem qq6 : qhz = qeb := qb _
def qse : SubB Tryd.prog (TIof Tryd.prog) 43 0 (kret [.t 2] decB) := jnB tabOk follows Tryd.f25 11467 (.r [(3, .g 2), (15, .g 2), (19, .g 2)] [.sel [0, 13, 14, 41] []]) S9_ (qeb) (fun f v K => f (v.s 0 0) (v.i 16 0) (v.i 52 0) (v.i 56 0) (qq5 (v.s 0 0) (v.i 52 0) (v.i 56 0) K)) (by kernel_rfl) (fun _ _ => (by kernel_rfl))
def qiu  (K : Ex → Env → Mem → Option Bool) := (fun (_ : Unit) => K (.exit 0) (qi []) (qj []))
def qc6  (v0 : List UInt8) (v13 v14 : Int) (next : Int → Option Bool) (kx0 : Unit → Option Bool) : Option Bool :=
  (bif (decide (v14 < v13)) then (oB (ixB v0 v14) fun c1 => (qhz v0 (c1.toNat : Int) v13 v14 (fun v41q2 => (bif v41q2 then (some false) else (next (IntKind.i64.wrap (v14 + (1 : Int)))))))) else (kx0 ()))
def qc7  (v0 : List UInt8) (v13 : Int) (kx0 : Unit → Option Bool) : Nat → Int → Option Bool
  | 0 => (fun _ => none)
  | n + 1 => (fun v14 => qc6 v0 v13 v14 (qc7 v0 v13 kx0 n) kx0)
def qmu := hull (qc7)
theorem qq7 : qmu = qc7 := qb _
def qsf : SubB Tryd.prog (TIof Tryd.prog) 43 0 (kret [.t 2] decB) := lpB tabOk follows Tryd.f25 75 (.s .z (.s (.s .z (.v [.sel [] []])) (.s (.b (.s .z (.s .z (.s (.sub [.sel [0, 4, 13, 14] []] qse []) .z)))) (.v [.sel [0, 13, 14] []])))) S10_ (qc7) (fun f v K n => f (v.s 0 0) (v.i 52 0) (qiu K) n) (fun v f K => qc6 (v.s 0 0) (v.i 52 0) (v.i 56 0) f (qiu K)) (fun f v => f (v.i 56 0)) (fun k v => (fun z0 => k (v.ui 56 0 z0))) (by kernel_rfl) (fun _ _ => (by kernel_rfl)) (fun _ _ _ => (by kernel_rfl)) (fun _ _ _ => (by kernel_rfl)) (fun _ _ => (by kernel_rfl)) (fun _ _ _ _ _ => (by kernel_rfl))
def qgi (v0 : List UInt8) : Option Bool :=
  (bif ((v0 == ([] : List UInt8)) || (decide ((v0.length : Int) > (63 : Int)))) then (some false) else (qmu v0 (v0.length : Int) (fun (_ : Unit) => (some true)) FU (0 : Int)))
def qll := hull qgi
theorem qxm : qll = qgi := qb _
def qy2 {R : Type} : EntF Tryd.prog R := entB (nt := 43) (dec := decB) (enc := AV.bool) tabOk follows Tryd.func25 [.t 2] hdeB (.s .z (.s (.s (.r [(3, .g 3)] []) .z) (.s (.s .z (.b (.sub [.sel [0, 13, 14] []] qsf []))) .z))) S11_ qgi (fun f v => f (v.s 0 0)) (by kernel_rfl) (by kernel_rfl) (by kernel_rfl) fun _ => (by kernel_rfl)
def S12_ : Shp := ⟨[(3, .one (.l (.i .i64))), (4, .one (.l .s)), (20, .one (.l (.sl 1))), (21, .one (.l (.i .i64))), (22, .one (.l (.i .i64)))], []⟩
def S13_ : Shp := ⟨[(20, .one (.l (.sl 1))), (21, .one (.l (.i .i64))), (22, .one (.l (.i .i64)))], []⟩
def quw  (v0 : List UInt8) (K : Ex → Env → Mem → Option Bool) := (fun z_v14 => K .norm (qi [(0, (.str v0)), (14, (.bool z_v14))]) (qj []))
def qfo  (v0 : List UInt8) (kn : Bool → Option Bool) : Option Bool :=
  (bif (decide ((v0.length : Int) ≥ (255 : Int))) then (kn true) else (oB (qfn v0 ([46] : List UInt8)) fun r1 => (kn (!r1))))
def qpr := hull (qfo)
theorem qux : qpr = qfo := qb _
def qxn : SubB Tryd.prog (TIof Tryd.prog) 39 0 (kret [.t 2] decB) := jnB tabOk follows Tryd.f10 19 (.r [(5, .c qle.b)] [.sel [0, 14] []]) S11_ (qfo) (fun f v K => f (v.s 0 0) (quw (v.s 0 0) K)) (by kernel_rfl) (fun _ _ => (by kernel_rfl))
def quy  (v20 : List AV) (v21 v22 : Int) (K : Ex → Env → Mem → Option Bool) := (fun z_v37 => K .norm (qi [(20, (.sl 1 v20)), (21, (.int .i64 v21)), (22, (.int .i64 v22)), (37, (.bool z_v37))]) (qj []))
def qfp  (v3 : Int) (v4 : List UInt8) (v20 : List AV) (v21 v22 : Int) (kn : Bool → Option Bool) : Option Bool :=
  (oB (qll v4) fun r1 => (bif (!r1) then (bif (decide (v3 > (0 : Int))) then (kn true) else (kn (!(v4 == ([42] : List UInt8))))) else (kn false)))
def qps := hull (qfp)
theorem quz : qps = qfp := qb _
def qxo : SubB Tryd.prog (TIof Tryd.prog) 39 0 (kret [.t 2] decB) := jnB tabOk follows Tryd.f10 10647 (.r [(1, .c qy2.b)] [.sel [20, 21, 22, 37] []]) S12_ (qfp) (fun f v K => f (v.i 12 0) (v.s 16 0) (v.l 80 0) (v.i 84 0) (v.i 88 0) (quy (v.l 80 0) (v.i 84 0) (v.i 88 0) K)) (by kernel_rfl) (fun _ _ => (by kernel_rfl))
def qlg  (K : Ex → Env → Mem → Option Bool) := (fun (_ : Unit) => K (.exit 0) (qi []) (qj []))
def qd6  (v20 : List AV) (v21 v22 : Int) (next : Int → Option Bool) (kx0 : Unit → Option Bool) : Option Bool :=
  (bif (decide (v22 < v21)) then (oB (ixB v20 v22) fun y1 => (bif fitC [.s] y1.cells then (qps v22 (gS y1.cells 0) v20 v21 v22 (fun v37q2 => (bif v37q2 then (some false) else (next (IntKind.i64.wrap (v22 + (1 : Int))))))) else none)) else (kx0 ()))
def qd7  (v20 : List AV) (v21 : Int) (kx0 : Unit → Option Bool) : Nat → Int → Option Bool
  | 0 => (fun _ => none)
  | n + 1 => (fun v22 => qd6 v20 v21 v22 (qd7 v20 v21 kx0 n) kx0)
def qki := hull (qd7)
theorem qu0 : qki = qd7 := qb _
def qxp : SubB Tryd.prog (TIof Tryd.prog) 39 0 (kret [.t 2] decB) := lpB tabOk follows Tryd.f10 151 (.s .z (.s (.s .z (.v [.sel [] []])) (.s (.b (.s (.r [(1, .p (.etac 25 [.s]))] []) (.s (.sub [.sel [3, 4, 20, 21, 22] []] qxo []) .z))) (.v [.sel [20, 21, 22] []])))) S13_ (qd7) (fun f v K n => f (v.l 80 0) (v.i 84 0) (qlg K) n) (fun v f K => qd6 (v.l 80 0) (v.i 84 0) (v.i 88 0) f (qlg K)) (fun f v => f (v.i 88 0)) (fun k v => (fun z0 => k (v.ui 88 0 z0))) (by kernel_rfl) (fun _ _ => (by kernel_rfl)) (fun _ _ _ => (by kernel_rfl)) (fun _ _ _ => (by kernel_rfl)) (fun _ _ => (by kernel_rfl)) (fun _ _ _ _ _ => (by kernel_rfl))
def qiz (v0 : List UInt8) : Option Bool :=
  (bif (v0 == ([46] : List UInt8)) then (some true) else (qpr v0 (fun v14q1 => (bif v14q1 then (some false) else (oB (cutI v0 none (some (IntKind.i64.wrap ((v0.length : Int) - (1 : Int))))) fun s2 => (oB (qiy s2 ([46] : List UInt8)) fun r3 => (qki r3 (r3.length : Int) (fun (_ : Unit) => (some true)) FU (0 : Int))))))))
def qbu := hull qiz
theorem q2i : qbu = qiz := qb _
def qch {R : Type} : EntF Tryd.prog R := entB (nt := 39) (dec := decB) (enc := AV.bool) tabOk follows Tryd.func10 [.t 2] hdeB (.s .z (.s .z (.s (.s (.sub [.sel [0] []] qxn []) .z) (.s (.s (.r [(5, .k qpq.b)] []) (.b (.sub [.sel [20, 21, 22] []] qxp []))) .z)))) S11_ qiz (fun f v => f (v.s 0 0)) (by kernel_rfl) (by kernel_rfl) (by kernel_rfl) fun _ => (by kernel_rfl)
def qi0 : Option (List AV) :=
  (bif hd ([(.agg [(.int .i64 (1 : Int)), (.str ([65] : List UInt8)), (.str ([52] : List UInt8))]), (.agg [(.int .i64 (2 : Int)), (.str ([78, 83] : List UInt8)), (.str ([104] : List UInt8))]), (.agg [(.int .i64 (5 : Int)), (.str ([67, 78, 65, 77, 69] : List UInt8)), (.str ([104] : List UInt8))]), (.agg [(.int .i64 (6 : Int)), (.str ([83, 79, 65] : List UInt8)), (.str ([104, 109, 118, 119, 120, 121, 122] : List UInt8))]), (.agg [(.int .i64 (12 : Int)), (.str ([80, 84, 82] : List UInt8)), (.str ([104] : List UInt8))]), (.agg [(.int .i64 (15 : Int)), (.str ([77, 88] : List UInt8)), (.str ([65, 104] : List UInt8))]), (.agg [(.int .i64 (16 : Int)), (.str ([84, 88, 84] : List UInt8)), (.str ([116] : List UInt8))]), (.agg [(.int .i64 (28 : Int)), (.str ([65, 65, 65, 65] : List UInt8)), (.str ([54] : List UInt8))]), (.agg [(.int .i64 (33 : Int)), (.str ([83, 82, 86] : List UInt8)), (.str ([65, 66, 67, 104] : List UInt8))]), (.agg [(.int .i64 (39 : Int)), (.str ([68, 78, 65, 77, 69] : List UInt8)), (.str ([104] : List UInt8))]), (.agg [(.int .i64 (43 : Int)), (.str ([68, 83] : List UInt8)), (.str ([65, 98, 99, 114] : List UInt8))]), (.agg [(.int .i64 (46 : Int)), (.str ([82, 82, 83, 73, 71] : List UInt8)), (.str ([65, 115, 98, 120, 121, 122, 70, 104, 114] : List UInt8))]), (.agg [(.int .i64 (47 : Int)), (.str ([78, 83, 69, 67] : List UInt8)), (.str ([104, 110] : List UInt8))]), (.agg [(.int .i64 (48 : Int)), (.str ([68, 78, 83, 75, 69, 89] : List UInt8)), (.str ([65, 98, 99, 114] : List UInt8))])] : List AV) (([(.agg [(.int .i64 (1 : Int)), (.str ([65] : List UInt8)), (.str ([52] : List UInt8))]), (.agg [(.int .i64 (2 : Int)), (.str ([78, 83] : List UInt8)), (.str ([104] : List UInt8))]), (.agg [(.int .i64 (5 : Int)), (.str ([67, 78, 65, 77, 69] : List UInt8)), (.str ([104] : List UInt8))]), (.agg [(.int .i64 (6 : Int)), (.str ([83, 79, 65] : List UInt8)), (.str ([104, 109, 118, 119, 120, 121, 122] : List UInt8))]), (.agg [(.int .i64 (12 : Int)), (.str ([80, 84, 82] : List UInt8)), (.str ([104] : List UInt8))]), (.agg [(.int .i64 (15 : Int)), (.str ([77, 88] : List UInt8)), (.str ([65, 104] : List UInt8))]), (.agg [(.int .i64 (16 : Int)), (.str ([84, 88, 84] : List UInt8)), (.str ([116] : List UInt8))]), (.agg [(.int .i64 (28 : Int)), (.str ([65, 65, 65, 65] : List UInt8)), (.str ([54] : List UInt8))]), (.agg [(.int .i64 (33 : Int)), (.str ([83, 82, 86] : List UInt8)), (.str ([65, 66, 67, 104] : List UInt8))]), (.agg [(.int .i64 (39 : Int)), (.str ([68, 78, 65, 77, 69] : List UInt8)), (.str ([104] : List UInt8))]), (.agg [(.int .i64 (43 : Int)), (.str ([68, 83] : List UInt8)), (.str ([65, 98, 99, 114] : List UInt8))]), (.agg [(.int .i64 (46 : Int)), (.str ([82, 82, 83, 73, 71] : List UInt8)), (.str ([65, 115, 98, 120, 121, 122, 70, 104, 114] : List UInt8))]), (.agg [(.int .i64 (47 : Int)), (.str ([78, 83, 69, 67] : List UInt8)), (.str ([104, 110] : List UInt8))]), (.agg [(.int .i64 (48 : Int)), (.str ([68, 78, 83, 75, 69, 89] : List UInt8)), (.str ([65, 98, 99, 114] : List UInt8))])] : List AV).length) then (some ([(.agg [(.int .i64 (1 : Int)), (.str ([65] : List UInt8)), (.str ([52] : List UInt8))]), (.agg [(.int .i64 (2 : Int)), (.str ([78, 83] : List UInt8)), (.str ([104] : List UInt8))]), (.agg [(.int .i64 (5 : Int)), (.str ([67, 78, 65, 77, 69] : List UInt8)), (.str ([104] : List UInt8))]), (.agg [(.int .i64 (6 : Int)), (.str ([83, 79, 65] : List UInt8)), (.str ([104, 109, 118, 119, 120, 121, 122] : List UInt8))]), (.agg [(.int .i64 (12 : Int)), (.str ([80, 84, 82] : List UInt8)), (.str ([104] : List UInt8))]), (.agg [(.int .i64 (15 : Int)), (.str ([77, 88] : List UInt8)), (.str ([65, 104] : List UInt8))]), (.agg [(.int .i64 (16 : Int)), (.str ([84, 88, 84] : List UInt8)), (.str ([116] : List UInt8))]), (.agg [(.int .i64 (28 : Int)), (.str ([65, 65, 65, 65] : List UInt8)), (.str ([54] : List UInt8))]), (.agg [(.int .i64 (33 : Int)), (.str ([83, 82, 86] : List UInt8)), (.str ([65, 66, 67, 104] : List UInt8))]), (.agg [(.int .i64 (39 : Int)), (.str ([68, 78, 65, 77, 69] : List UInt8)), (.str ([104] : List UInt8))]), (.agg [(.int .i64 (43 : Int)), (.str ([68, 83] : List UInt8)), (.str ([65, 98, 99, 114] : List UInt8))]), (.agg [(.int .i64 (46 : Int)), (.str ([82, 82, 83, 73, 71] : List UInt8)), (.str ([65, 115, 98, 120, 121, 122, 70, 104, 114] : List UInt8))]), (.agg [(.int .i64 (47 : Int)), (.str ([78, 83, 69, 67] : List UInt8)), (.str ([104, 110] : List UInt8))]), (.agg [(.int .i64 (48 : Int)), (.str ([68, 78, 83, 75, 69, 89] : List UInt8)), (.str ([65, 98, 99, 114] : List UInt8))])] : List AV)) else none)
def qme := hull qi0
theorem q2j : qme = qi0 := qb _
def qtu {R : Type} : EntF Tryd.prog R := entB (nt := 16) (dec := (decF true 3)) (enc := (AV.fr true 3)) tabOk follows Tryd.func94 [.t 0] hdeF (.z) (⟨[], []⟩ : Shp) qi0 (fun f v => f) (by kernel_rfl) (by kernel_rfl) (by kernel_rfl) fun _ => (by kernel_rfl)
def qf4 : List LT := [(.i .i64), .s, .s]
def qz8 (x0 : Int) (x1 x2 : List UInt8) : List AV := [.int .i64 x0, .str x1, .str x2]
def S14_ : Shp := ⟨[(0, .one (.l (.i .i64))), (2, .one (.ptr 0 0)), (6, .one (.l (.sl 3))), (7, .one (.l (.i .i64))), (8, .one (.l (.i .i64)))], [.box true (lk qf4)]⟩
def qq8 : AV → Option (AV × Bool) := decN [(.st [(.i .i64), .s, .s]), (.one .b)] fun z => ((gC (tpL z) 0), aB (gC (tpL z) 1))
def qnm  (Aa : Int) (Ab Ac : List UInt8) (K : Ex → Env → Mem → Option (AV × Bool)) := (fun (_ : Unit) => K (.exit 0) (qi [(2, (.ptr 0 0))]) (qj [(some (.box true (qz8 Aa Ab Ac)))]))
def qez  (v0 : Int) (v6 : List AV) (v7 v8 Aa : Int) (Ab Ac : List UInt8) (next : Int → Option (AV × Bool)) (kx0 : Unit → Option (AV × Bool)) : Option (AV × Bool) :=
  (bif (decide (v8 < v7)) then (oB (ixB v6 v8) fun y1 => (bif fitC qf4 y1.cells then (bif ((gI y1.cells 0) == v0) then (some ((.agg [(.int .i64 (gI y1.cells 0)), (.str (gS y1.cells 1)), (.str (gS y1.cells 2))]), true)) else (next (IntKind.i64.wrap (v8 + (1 : Int))))) else none)) else (kx0 ()))
def qe0  (v0 : Int) (v6 : List AV) (v7 Aa : Int) (Ab Ac : List UInt8) (kx0 : Unit → Option (AV × Bool)) : Nat → Int → Option (AV × Bool)
  | 0 => (fun _ => none)
  | n + 1 => (fun v8 => qez v0 v6 v7 v8 Aa Ab Ac (qe0 v0 v6 v7 Aa Ab Ac kx0 n) kx0)
def qtv := hull (qe0)
theorem qy3 : qtv = qe0 := qb _
def qz9 : SubB Tryd.prog (TIof Tryd.prog) 19 0 (kret [(.cell 2 true 3), .t 3] qq8) := lpB tabOk follows Tryd.f80 37 (.s .z (.s (.s .z (.v [.sel [2] [0]])) (.s (.b (.s (.r [(0, .p (.etac 10 qf4))] []) .z)) (.v [.sel [0, 2, 6, 7, 8] [0]])))) S14_ (qe0) (fun f v K n => f (v.i 0 0) (v.l 24 0) (v.i 28 0) (v.i 3 0) (v.s 3 1) (v.s 3 2) (qnm (v.i 3 0) (v.s 3 1) (v.s 3 2) K) n) (fun v f K => qez (v.i 0 0) (v.l 24 0) (v.i 28 0) (v.i 32 0) (v.i 3 0) (v.s 3 1) (v.s 3 2) f (qnm (v.i 3 0) (v.s 3 1) (v.s 3 2) K)) (fun f v => f (v.i 32 0)) (fun k v => (fun z0 => k (v.ui 32 0 z0))) (by kernel_rfl) (fun _ _ => (by kernel_rfl)) (fun _ _ _ => (by kernel_rfl)) (fun _ _ _ => (by kernel_rfl)) (fun _ _ => (by kernel_rfl)) (fun _ _ _ _ _ => (by kernel_rfl))
def qkj (v0 : Int) : Option (AV × Bool) :=
  (oB (qme) fun r1 => (qtv v0 r1 (r1.length : Int) (0 : Int) ([] : List UInt8) ([] : List UInt8) (fun (_ : Unit) => (some ((.agg [(.int .i64 (0 : Int)), (.str ([] : List UInt8)), (.str ([] : List UInt8))]), false))) FU (0 : Int)))
def q0a := hull qkj
theorem q42 : q0a = qkj := qb _
def q5z {R : Type} : EntF Tryd.prog R := entB (nt := 19) (dec := qq8) (enc := (fun r => .tup [qdy (.st [(.i .i64), .s, .s]) r.1, .bool r.2])) tabOk follows Tryd.func80 [(.cell 2 true 3), .t 3] (hdeN fun _ => rfl) (.s .z (.s (.s (.r [(0, .k qtu.b)] []) (.b (.sub [.sel [0, 2, 6, 7, 8] [0]] qz9 []))) .z)) S0_ qkj (fun f v => f (v.i 0 0)) (by kernel_rfl) (by kernel_rfl) (by kernel_rfl) fun _ => (by kernel_rfl)
def qi1 (v0 : Int) : Option Bool :=
  (oB (q0a v0) fun r1 => (some r1.2))
def qmf := hull qi1
theorem q2k : qmf = qi1 := qb _
def qtw {R : Type} : EntF Tryd.prog R := entB (nt := 11) (dec := decB) (enc := AV.bool) tabOk follows Tryd.func71 [.t 2] hdeB (.s .z (.s (.r [(1, .c q5z.b)] []) .z)) S0_ qi1 (fun f v => f (v.i 0 0)) (by kernel_rfl) (by kernel_rfl) (by kernel_rfl) fun _ => (by kernel_rfl)
def q9r : List LT := [.b, (.i .u64), (.i .u64)]
def S15_ : Shp := ⟨[(0, .st (lk q9r))], []⟩
def qkk (Ae : Bool) (Af Ag : Int) : Option Bool :=
  (bif Ae then (some true) else (bif (Af == (0 : Int)) then (some (decide (Ag ≤ (4294967295 : Int)))) else (some false)))
def qsg := hull qkk
theorem q43 : qsg = qkk := qb _
def q50 {R : Type} : EntF Tryd.prog R := entB (nt := 15) (dec := decB) (enc := AV.bool) tabOk follows Tryd.func81 [.t 2] hdeB (.z) S15_ qkk (fun f v => f (v.b 1 0) (v.i 1 1) (v.i 1 2)) (by kernel_rfl) (by kernel_rfl) (by kernel_rfl) fun _ => (by kernel_rfl)
def qdm (v0 v1 : List UInt8) : Option Bool :=
  (bif (decide ((v0.length : Int) ≥ (v1.length : Int))) then (oB (cutI v0 none (some (v1.length : Int))) fun s1 => (some (s1 == v1))) else (some false))
def qjw := hull qdm
theorem qof : qjw = qdm := qb _
def qpn {R : Type} : EntF Tryd.prog R := entB (nt := 18) (dec := decB) (enc := AV.bool) tabOk follows Tryd.func99 [.t 4] hdeB (.z) S4_ qdm (fun f v => f (v.s 0 0) (v.s 4 0)) (by kernel_rfl) (by kernel_rfl) (by kernel_rfl) fun _ => (by kernel_rfl)
def qep (v0 v1 : List UInt8) : Option Bool :=
  (oB (qjw v0 v1) fun r1 => (some r1))
def qnn := hull qep
theorem qsh : qnn = qep := qb _
def quj {R : Type} : EntF Tryd.prog R := entB (nt := 8) (dec := decB) (enc := AV.bool) tabOk follows Tryd.func95 [.t 4] hdeB (.s .z (.s (.r [(2, .c qpn.b)] []) .z)) S4_ qep (fun f v => f (v.s 0 0) (v.s 4 0)) (by kernel_rfl) (by kernel_rfl) (by kernel_rfl) fun _ => (by kernel_rfl)
def qkl (v0 : List UInt8) : Option Bool :=
  (oB (qbu v0) fun r1 => (bif r1 then (oB (qnn v0 ([42] : List UInt8)) fun r2 => (some (!r2))) else (some false)))
def qe1 := hull qkl
theorem q44 : qe1 = qkl := qb _
def qf5 {R : Type} : EntF Tryd.prog R := entB (nt := 10) (dec := decB) (enc := AV.bool) tabOk follows Tryd.func82 [.t 2] hdeB (.s .z (.s (.r [(1, .c qch.b), (4, .c quj.b)] []) .z)) S11_ qkl (fun f v => f (v.s 0 0)) (by kernel_rfl) (by kernel_rfl) (by kernel_rfl) fun _ => (by kernel_rfl)
def qlm (v0 : Int) : Option Bool :=
  (some ((decide (v0 ≥ (0 : Int))) && (decide (v0 < (4294967296 : Int)))))
def qog := hull qlm
theorem q0b : qog = qlm := qb _
def q2l {R : Type} : EntF Tryd.prog R := entB (nt := 9) (dec := decB) (enc := AV.bool) tabOk follows Tryd.func83 [.t 2] hdeB (.s .z (.s (.r [(3, .g 2)] []) .z)) S0_ qlm (fun f v => f (v.i 0 0)) (by kernel_rfl) (by kernel_rfl) (by kernel_rfl) fun _ => (by kernel_rfl)
def S16_ : Shp := ⟨[(0, .one (.l (.i .i64))), (1, .one (.l (.i .i64)))], []⟩
def qln (v0 v1 : Int) : Option Bool :=
  (some ((decide (v0 ≥ (0 : Int))) && (decide (v0 ≤ v1))))
def qr := hull qln
theorem q0c : qr = qln := qb _
def qt {R : Type} : EntF Tryd.prog R := entB (nt := 12) (dec := decB) (enc := AV.bool) tabOk follows Tryd.func84 [.t 4] hdeB (.s .z (.s (.r [(3, .g 3)] []) .z)) S16_ qln (fun f v => f (v.i 0 0) (v.i 4 0)) (by kernel_rfl) (by kernel_rfl) (by kernel_rfl) fun _ => (by kernel_rfl)
def qoh (v0 : List UInt8) : Option Bool :=
  (some ((decide ((v0.length : Int) ≥ (1 : Int))) && (decide ((v0.length : Int) ≤ (255 : Int)))))
def qkm := hull qoh
theorem q45 : qkm = qoh := qb _
def qoi {R : Type} : EntF Tryd.prog R := entB (nt := 11) (dec := decB) (enc := AV.bool) tabOk follows Tryd.func85 [.t 2] hdeB (.s .z (.s (.r [(4, .g 3)] []) .z)) S11_ qoh (fun f v => f (v.s 0 0)) (by kernel_rfl) (by kernel_rfl) (by kernel_rfl) fun _ => (by kernel_rfl)
def S17_ : Shp := ⟨[(1, .one (.l (.i .u64))), (4, .one (.l (.sl 3))), (5, .one (.l (.i .i64))), (6, .one (.l (.i .i64)))], []⟩
def qoj  (K : Ex → Env → Mem → Option Int) := (fun z_v1 => K (.exit 0) (qi [(1, (.int .u64 z_v1))]) (qj []))
def qf6  (v1 : Int) (v4 : List AV) (v5 v6 : Int) (next : Int → Int → Option Int) (kx0 : Int → Option Int) : Option Int :=
  (bif (decide (v6 < v5)) then (oB (ixB v4 v6) fun y1 => (bif fitC qf4 y1.cells then (bif decide ((gI y1.cells 0) < 0) then none else (next (qe8 .or .u64 v1 (IntKind.u64.wrap ((1 : Int) * 2 ^ min (gI y1.cells 0).toNat IntKind.u64.bits))) (IntKind.i64.wrap (v6 + (1 : Int))))) else none)) else (kx0 v1))
def qf7  (v4 : List AV) (v5 : Int) (kx0 : Int → Option Int) : Nat → Int → Int → Option Int
  | 0 => (fun _ _ => none)
  | n + 1 => (fun v1 v6 => qf6 v1 v4 v5 v6 (qf7 v4 v5 kx0 n) kx0)
def qu1 := hull (qf7)
theorem q0d : qu1 = qf7 := qb _
def q2m : SubB Tryd.prog (TIof Tryd.prog) 17 0 (kret [.t 0] (decI .u64)) := lpB tabOk follows Tryd.f86 75 (.s .z (.s (.s .z (.v [.sel [1] []])) (.s (.b (.s (.r [(0, .p (.etac 8 qf4))] []) .z)) (.v [.sel [1, 4, 5, 6] []])))) S17_ (qf7) (fun f v K n => f (v.l 16 0) (v.i 20 0) (qoj K) n) (fun v f K => qf6 (v.i 4 0) (v.l 16 0) (v.i 20 0) (v.i 24 0) f (qoj K)) (fun f v => f (v.i 4 0) (v.i 24 0)) (fun k v => (fun z0 z1 => k ((v.ui 4 0 z0).ui 24 0 z1))) (by kernel_rfl) (fun _ _ => (by kernel_rfl)) (fun _ _ _ => (by kernel_rfl)) (fun _ _ _ => (by kernel_rfl)) (fun _ _ => (by kernel_rfl)) (fun _ _ _ _ _ => (by kernel_rfl))
def qmg : Option Int :=
  (oB (qme) fun r1 => (qu1 r1 (r1.length : Int) (fun v1q2 => (some v1q2)) FU (0 : Int) (0 : Int)))
def qu2 := hull qmg
theorem q51 : qu2 = qmg := qb _
def q74 {R : Type} : EntF Tryd.prog R := entB (nt := 17) (dec := (decI .u64)) (enc := (AV.int .u64)) tabOk follows Tryd.func86 [.t 0] hdeI (.s .z (.s .z (.s (.s (.r [(0, .k qtu.b)] []) (.b (.sub [.sel [1, 4, 5, 6] []] q2m []))) .z))) (⟨[], []⟩ : Shp) qmg (fun f v => f) (by kernel_rfl) (by kernel_rfl) (by kernel_rfl) fun _ => (by kernel_rfl)
def qtx (x0 : Bool) (x1 x2 : Int) (x3 x4 x5 : List UInt8) (x6 x7 x8 x9 x10 x11 x12 : Int) : List AV := [.bool x0, .int .u64 x1, .int .u64 x2, .str x3, .str x4, .str x5, .int .i64 x6, .int .i64 x7, .int .i64 x8, .int .i64 x9, .int .i64 x10, .int .i64 x11, .int .u64 x12]
def S18_ : Shp := ⟨[(0, .one (.l (.i .i64))), (3, .one (.ptr 0 0)), (5, .one (.l (.i .i64)))], [.box true (lk qbm)]⟩
def S19_ : Shp := ⟨[(3, .one (.ptr 0 0)), (5, .one (.l (.i .i64)))], [.box true (lk qbm)]⟩
def S20_ : Shp := ⟨[(3, .one (.ptr 0 0))], [.box true (lk qbm)]⟩
def S21_ : Shp := ⟨[(0, .one (.l (.i .i64))), (1, .st (lk qbm))], []⟩
def qxq  (v0 v5 : Int) (Aa : Bool) (Ab Ac : Int) (Ad Ai Aj : List UInt8) (Ak Al Am An Ao Ap Aq : Int) (K : Ex → Env → Mem → Option Bool) := (fun z_v6 => K .norm (qi [(0, (.int .i64 v0)), (3, (.ptr 0 0)), (5, (.int .i64 v5)), (6, (.bool z_v6))]) (qj [(some (.box true (qtx Aa Ab Ac Ad Ai Aj Ak Al Am An Ao Ap Aq)))]))
def qgj  (v0 v5 : Int) (Aa : Bool) (Ab Ac : Int) (Ad Ai Aj : List UInt8) (Ak Al Am An Ao Ap Aq : Int) (kn : Bool → Option Bool) : Option Bool :=
  (bif (v5 == (1 : Int)) then (kn true) else (kn (v5 == (28 : Int))))
def qq9 := hull (qgj)
theorem qxr : qq9 = qgj := qb _
def qy4 : SubB Tryd.prog (TIof Tryd.prog) 324 0 (kret [.t 4] decB) := jnB tabOk follows Tryd.f72 37 (.s .z (.s (.v [.sel [0, 3, 5, 6] [0]]) (.v [.sel [0, 3, 5, 6] [0]]))) S18_ (qgj) (fun f v K => f (v.i 0 0) (v.i 20 0) (v.b 3 0) (v.i 3 1) (v.i 3 2) (v.s 3 3) (v.s 3 4) (v.s 3 5) (v.i 3 6) (v.i 3 7) (v.i 3 8) (v.i 3 9) (v.i 3 10) (v.i 3 11) (v.i 3 12) (qxq (v.i 0 0) (v.i 20 0) (v.b 3 0) (v.i 3 1) (v.i 3 2) (v.s 3 3) (v.s 3 4) (v.s 3 5) (v.i 3 6) (v.i 3 7) (v.i 3 8) (v.i 3 9) (v.i 3 10) (v.i 3 11) (v.i 3 12) K)) (by kernel_rfl) (fun _ _ => (by kernel_rfl))
def qu3  (v5 : Int) (Aa : Bool) (Ab Ac : Int) (Ad Ai Aj : List UInt8) (Ak Al Am An Ao Ap Aq : Int) (K : Ex → Env → Mem → Option Bool) := (fun z_v27 => K .norm (qi [(3, (.ptr 0 0)), (5, (.int .i64 v5)), (27, (.bool z_v27))]) (qj [(some (.box true (qtx Aa Ab Ac Ad Ai Aj Ak Al Am An Ao Ap Aq)))]))
def qfq  (v5 : Int) (Aa : Bool) (Ab Ac : Int) (Ad Ai Aj : List UInt8) (Ak Al Am An Ao Ap Aq : Int) (kn : Bool → Option Bool) : Option Bool :=
  (bif (v5 == (2 : Int)) then (kn true) else (bif (v5 == (5 : Int)) then (kn true) else (bif (v5 == (12 : Int)) then (kn true) else (kn (v5 == (39 : Int))))))
def qpt := hull (qfq)
theorem qu4 : qpt = qfq := qb _
def qxs : SubB Tryd.prog (TIof Tryd.prog) 324 0 (kret [.t 4] decB) := jnB tabOk follows Tryd.f72 181 (.s .z (.s (.v [.sel [3, 5, 27] [0]]) (.s .z (.s (.v [.sel [3, 5, 27] [0]]) (.s .z (.s (.v [.sel [3, 5, 27] [0]]) (.v [.sel [3, 5, 27] [0]]))))))) S19_ (qfq) (fun f v K => f (v.i 20 0) (v.b 3 0) (v.i 3 1) (v.i 3 2) (v.s 3 3) (v.s 3 4) (v.s 3 5) (v.i 3 6) (v.i 3 7) (v.i 3 8) (v.i 3 9) (v.i 3 10) (v.i 3 11) (v.i 3 12) (qu3 (v.i 20 0) (v.b 3 0) (v.i 3 1) (v.i 3 2) (v.s 3 3) (v.s 3 4) (v.s 3 5) (v.i 3 6) (v.i 3 7) (v.i 3 8) (v.i 3 9) (v.i 3 10) (v.i 3 11) (v.i 3 12) K)) (by kernel_rfl) (fun _ _ => (by kernel_rfl))
def qu5  (K : Ex → Env → Mem → Option Bool) := (fun z_v4 => K .norm (qi [(4, (.bool z_v4))]) (qj []))
def qfr  (Aa : Bool) (Ab Ac : Int) (Ad Ai Aj : List UInt8) (Ak Al Am An Ao Ap Aq : Int) (kn : Bool → Option Bool) : Option Bool :=
  (bif ((Aa == false) && ((Ab == (0 : Int)) && ((Ac == (0 : Int)) && ((Ad == Ad) && ((Ai == Ai) && ((Aj == ([] : List UInt8)) && ((Ak == Ak) && ((Al == Al) && ((Am == Am) && ((An == An) && ((Ao == Ao) && ((Ap == (0 : Int)) && ((Aq == (0 : Int)) && true))))))))))))) then (oB (qe1 Ad) fun r1 => (bif r1 then (oB (qe1 Ai) fun r2 => (bif r2 then (oB (qog Ak) fun r3 => (bif r3 then (oB (qr Al (2147483647 : Int)) fun r4 => (bif r4 then (oB (qr Am (2147483647 : Int)) fun r5 => (bif r5 then (oB (qr An (2147483647 : Int)) fun r6 => (bif r6 then (oB (qr Ao (2147483647 : Int)) fun r7 => (kn r7)) else (kn false))) else (kn false))) else (kn false))) else (kn false))) else (kn false))) else (kn false))) else (kn false))
def qpu := hull (qfr)
theorem qu6 : qpu = qfr := qb _
def qxt : SubB Tryd.prog (TIof Tryd.prog) 324 0 (kret [.t 4] decB) := jnB tabOk follows Tryd.f72 2549 (.r [(20, .c qf5.b), (25, .c qf5.b), (30, .c q2l.b), (35, .c qt.b), (40, .c qt.b), (45, .c qt.b), (50, .c qt.b)] [.sel [4] []]) S20_ (qfr) (fun f v K => f (v.b 3 0) (v.i 3 1) (v.i 3 2) (v.s 3 3) (v.s 3 4) (v.s 3 5) (v.i 3 6) (v.i 3 7) (v.i 3 8) (v.i 3 9) (v.i 3 10) (v.i 3 11) (v.i 3 12) (qu5 K)) (by kernel_rfl) (fun _ _ => (by kernel_rfl))
def qu7  (K : Ex → Env → Mem → Option Bool) := (fun z_v4 => K .norm (qi [(4, (.bool z_v4))]) (qj []))
def qfs  (Aa : Bool) (Ab Ac : Int) (Ad Ai Aj : List UInt8) (Ak Al Am An Ao Ap Aq : Int) (kn : Bool → Option Bool) : Option Bool :=
  (bif ((Aa == false) && ((Ab == (0 : Int)) && ((Ac == (0 : Int)) && ((Ad == Ad) && ((Ai == ([] : List UInt8)) && ((Aj == Aj) && ((Ak == Ak) && ((Al == Al) && ((Am == Am) && ((An == An) && ((Ao == Ao) && ((Ap == Ap) && ((Aq == (0 : Int)) && true))))))))))))) then (oB (qkm Aj) fun r1 => (bif r1 then (oB (qe1 Ad) fun r2 => (bif r2 then (oB (qmf Ak) fun r3 => (bif (r3 && (Ak != (46 : Int))) then (oB (qr Al (127 : Int)) fun r4 => (bif r4 then (oB (qr Am (2147483647 : Int)) fun r5 => (bif r5 then (oB (qr An (4294967295 : Int)) fun r6 => (bif r6 then (oB (qr Ao (4294967295 : Int)) fun r7 => (bif r7 then (oB (qr Ap (65535 : Int)) fun r8 => (kn r8)) else (kn false))) else (kn false))) else (kn false))) else (kn false))) else (kn false))) else (kn false))) else (kn false))) else (kn false))
def qpv := hull (qfs)
theorem qu8 : qpv = qfs := qb _
def qxu : SubB Tryd.prog (TIof Tryd.prog) 324 0 (kret [.t 4] decB) := jnB tabOk follows Tryd.f72 2621429 (.r [(22, .c qoi.b), (27, .c qf5.b), (32, .c qtw.b), (35, .g 3), (42, .c qt.b), (47, .c qt.b), (52, .c qt.b), (57, .c qt.b), (62, .c qt.b)] [.sel [4] []]) S20_ (qfs) (fun f v K => f (v.b 3 0) (v.i 3 1) (v.i 3 2) (v.s 3 3) (v.s 3 4) (v.s 3 5) (v.i 3 6) (v.i 3 7) (v.i 3 8) (v.i 3 9) (v.i 3 10) (v.i 3 11) (v.i 3 12) (qu7 K)) (by kernel_rfl) (fun _ _ => (by kernel_rfl))
def qu9  (K : Ex → Env → Mem → Option Bool) := (fun z_v4 => K .norm (qi [(4, (.bool z_v4))]) (qj []))
def qft  (Aa : Bool) (Ab Ac : Int) (Ad Ai Aj : List UInt8) (Ak Al Am An Ao Ap Aq : Int) (kn : Bool → Option Bool) : Option Bool :=
  (bif ((Aa == false) && ((Ab == (0 : Int)) && ((Ac == (0 : Int)) && ((Ad == ([] : List UInt8)) && ((Ai == ([] : List UInt8)) && ((Aj == Aj) && ((Ak == Ak) && ((Al == Al) && ((Am == Am) && ((An == (0 : Int)) && ((Ao == (0 : Int)) && ((Ap == (0 : Int)) && ((Aq == (0 : Int)) && true))))))))))))) then (oB (qkm Aj) fun r1 => (bif r1 then (bif (Ak == (256 : Int)) then (bif (Al == (3 : Int)) then (oB (qr Am (255 : Int)) fun r2 => (kn r2)) else (kn false)) else (bif ((Ak == (257 : Int)) && (Al == (3 : Int))) then (oB (qr Am (255 : Int)) fun r3 => (kn r3)) else (kn false))) else (kn false))) else (kn false))
def qpw := hull (qft)
theorem qva : qpw = qft := qb _
def qxv : SubB Tryd.prog (TIof Tryd.prog) 324 0 (kret [.t 4] decB) := jnB tabOk follows Tryd.f72 41943029 (.r [(14, .c qoi.b), (27, .g 3), (34, .c qt.b)] [.sel [4] []]) S20_ (qft) (fun f v K => f (v.b 3 0) (v.i 3 1) (v.i 3 2) (v.s 3 3) (v.s 3 4) (v.s 3 5) (v.i 3 6) (v.i 3 7) (v.i 3 8) (v.i 3 9) (v.i 3 10) (v.i 3 11) (v.i 3 12) (qu9 K)) (by kernel_rfl) (fun _ _ => (by kernel_rfl))
def qi2 (v0 : Int) (Ar : Bool) (As At : Int) (Au Av Aw : List UInt8) (Ax Ay Az A0 A1 A2 A3 : Int) : Option Bool :=
  (qq9 v0 v0 Ar As At Au Av Aw Ax Ay Az A0 A1 A2 A3 (fun v6q1 => (bif v6q1 then (bif ((Ar == Ar) && ((As == As) && ((At == At) && ((Au == ([] : List UInt8)) && ((Av == ([] : List UInt8)) && ((Aw == ([] : List UInt8)) && ((Ax == (0 : Int)) && ((Ay == (0 : Int)) && ((Az == (0 : Int)) && ((A0 == (0 : Int)) && ((A1 == (0 : Int)) && ((A2 == (0 : Int)) && ((A3 == (0 : Int)) && true))))))))))))) then (oB (qsg Ar As At) fun r2 => (some (r2 && ((Ar == (v0 == (28 : Int))) && true)))) else (some false)) else (qpt v0 Ar As At Au Av Aw Ax Ay Az A0 A1 A2 A3 (fun v27q3 => (bif v27q3 then (bif ((Ar == false) && ((As == (0 : Int)) && ((At == (0 : Int)) && ((Au == Au) && ((Av == ([] : List UInt8)) && ((Aw == ([] : List UInt8)) && ((Ax == (0 : Int)) && ((Ay == (0 : Int)) && ((Az == (0 : Int)) && ((A0 == (0 : Int)) && ((A1 == (0 : Int)) && ((A2 == (0 : Int)) && ((A3 == (0 : Int)) && true))))))))))))) then (oB (qe1 Au) fun r4 => (some r4)) else (some false)) else (bif (v0 == (6 : Int)) then (qpu Ar As At Au Av Aw Ax Ay Az A0 A1 A2 A3 (fun v4q5 => (some v4q5))) else (bif (v0 == (15 : Int)) then (bif ((Ar == false) && ((As == (0 : Int)) && ((At == (0 : Int)) && ((Au == Au) && ((Av == ([] : List UInt8)) && ((Aw == ([] : List UInt8)) && ((Ax == Ax) && ((Ay == (0 : Int)) && ((Az == (0 : Int)) && ((A0 == (0 : Int)) && ((A1 == (0 : Int)) && ((A2 == (0 : Int)) && ((A3 == (0 : Int)) && true))))))))))))) then (oB (qe1 Au) fun r6 => (bif r6 then (oB (qr Ax (65535 : Int)) fun r7 => (some r7)) else (some false))) else (some false)) else (bif (v0 == (16 : Int)) then (some (((Ar == false) && ((As == (0 : Int)) && ((At == (0 : Int)) && ((Au == ([] : List UInt8)) && ((Av == ([] : List UInt8)) && ((Aw == Aw) && ((Ax == (0 : Int)) && ((Ay == (0 : Int)) && ((Az == (0 : Int)) && ((A0 == (0 : Int)) && ((A1 == (0 : Int)) && ((A2 == (0 : Int)) && ((A3 == (0 : Int)) && true))))))))))))) && (decide ((Aw.length : Int) ≤ (255 : Int))))) else (bif (v0 == (33 : Int)) then (bif ((Ar == false) && ((As == (0 : Int)) && ((At == (0 : Int)) && ((Au == Au) && ((Av == ([] : List UInt8)) && ((Aw == ([] : List UInt8)) && ((Ax == Ax) && ((Ay == Ay) && ((Az == Az) && ((A0 == (0 : Int)) && ((A1 == (0 : Int)) && ((A2 == (0 : Int)) && ((A3 == (0 : Int)) && true))))))))))))) then (oB (qe1 Au) fun r8 => (bif r8 then (oB (qr Ax (65535 : Int)) fun r9 => (bif r9 then (oB (qr Ay (65535 : Int)) fun r10 => (bif r10 then (oB (qr Az (65535 : Int)) fun r11 => (some r11)) else (some false))) else (some false))) else (some false))) else (some false)) else (bif (v0 == (43 : Int)) then (bif ((Ar == false) && ((As == (0 : Int)) && ((At == (0 : Int)) && ((Au == ([] : List UInt8)) && ((Av == ([] : List UInt8)) && ((Aw == Aw) && ((Ax == Ax) && ((Ay == Ay) && ((Az == Az) && ((A0 == (0 : Int)) && ((A1 == (0 : Int)) && ((A2 == (0 : Int)) && ((A3 == (0 : Int)) && true))))))))))))) then (oB (qkm Aw) fun r12 => (bif r12 then (oB (qr Ax (65535 : Int)) fun r13 => (bif r13 then (oB (qr Ay (255 : Int)) fun r14 => (bif r14 then (oB (qr Az (255 : Int)) fun r15 => (some r15)) else (some false))) else (some false))) else (some false))) else (some false)) else (bif (v0 == (46 : Int)) then (qpv Ar As At Au Av Aw Ax Ay Az A0 A1 A2 A3 (fun v4q16 => (some v4q16))) else (bif (v0 == (47 : Int)) then (bif ((Ar == false) && ((As == (0 : Int)) && ((At == (0 : Int)) && ((Au == Au) && ((Av == ([] : List UInt8)) && ((Aw == ([] : List UInt8)) && ((Ax == (0 : Int)) && ((Ay == (0 : Int)) && ((Az == (0 : Int)) && ((A0 == (0 : Int)) && ((A1 == (0 : Int)) && ((A2 == (0 : Int)) && ((A3 == A3) && true))))))))))))) then (oB (qbu Au) fun r17 => (bif r17 then (bif (A3 != (0 : Int)) then (oB (qu2) fun r18 => (some ((qe8 .andNot .u64 A3 r18) == (0 : Int)))) else (some false)) else (some false))) else (some false)) else (bif (v0 == (48 : Int)) then (qpw Ar As At Au Av Aw Ax Ay Az A0 A1 A2 A3 (fun v4q19 => (some v4q19))) else (some false)))))))))))))))
def qqu := hull qi2
theorem q2n : qqu = qi2 := qb _
def q46 {R : Type} : EntF Tryd.prog R := entB (nt := 324) (dec := decB) (enc := AV.bool) tabOk follows Tryd.func72 [.t 4] hdeB (.s .z (.s (.s .z (.b (.s (.sub [.sel [0, 3, 5] [0]] qy4 []) (.s (.s (.r [(8, .c q50.b), (11, .g 6)] []) .z) (.s (.sub [.sel [3, 5] [0]] qxs []) (.s (.s (.r [(8, .c qf5.b)] []) .z) (.s .z (.s (.s (.sub [.sel [3] [0]] qxt []) .z) (.s .z (.s (.s (.r [(10, .c qf5.b), (15, .c qt.b)] []) .z) (.s .z (.s (.s (.r [(6, .g 4)] []) .z) (.s .z (.s (.s (.r [(14, .c qf5.b), (19, .c qt.b), (24, .c qt.b), (29, .c qt.b)] []) .z) (.s .z (.s (.s (.r [(14, .c qoi.b), (19, .c qt.b), (24, .c qt.b), (29, .c qt.b)] []) .z) (.s .z (.s (.s (.sub [.sel [3] [0]] qxu []) .z) (.s .z (.s (.s (.d [] [(10, .c qch.b), (20, .c q74.b)] [] []) .z) (.s .z (.s (.s (.sub [.sel [3] [0]] qxv []) .z) .z)))))))))))))))))))))) .z)) S21_ qi2 (fun f v => f (v.i 0 0) (v.b 5 0) (v.i 5 1) (v.i 5 2) (v.s 5 3) (v.s 5 4) (v.s 5 5) (v.i 5 6) (v.i 5 7) (v.i 5 8) (v.i 5 9) (v.i 5 10) (v.i 5 11) (v.i 5 12)) (by kernel_rfl) (by kernel_rfl) (by kernel_rfl) fun _ => (by kernel_rfl)
def S22_ : Shp := ⟨[(0, .st (lk qkf))], []⟩
def qi3 (Ae : List UInt8) (Af Ag : Int) (Ah : Bool) (A4 A5 : Int) (A6 A7 A8 : List UInt8) (A9 Ba Bb Bc Bd Be Bf : Int) : Option Bool :=
  (oB (qbu Ae) fun r1 => (bif r1 then (oB (qmf Af) fun r2 => (bif ((r2 && (decide (Ag ≥ (0 : Int)))) && (decide (Ag ≤ (2147483647 : Int)))) then (oB (qqu Af Ah A4 A5 A6 A7 A8 A9 Ba Bb Bc Bd Be Bf) fun r3 => (some r3)) else (some false))) else (some false)))
def qqv := hull qi3
theorem q2o : qqv = qi3 := qb _
def q47 {R : Type} : EntF Tryd.prog R := entB (nt := 28) (dec := decB) (enc := AV.bool) tabOk follows Tryd.func58 [.t 2] hdeB (.s .z (.s (.r [(2, .c qch.b), (6, .c qtw.b), (9, .g 3), (14, .g 3), (23, .c q46.b)] []) .z)) S22_ qi3 (fun f v => f (v.s 1 0) (v.i 1 1) (v.i 1 2) (v.b 1 3) (v.i 1 4) (v.i 1 5) (v.s 1 6) (v.s 1 7) (v.s 1 8) (v.i 1 9) (v.i 1 10) (v.i 1 11) (v.i 1 12) (v.i 1 13) (v.i 1 14) (v.i 1 15)) (by kernel_rfl) (by kernel_rfl) (by kernel_rfl) fun _ => (by kernel_rfl)
def qe2 (Ae : List UInt8) (Af Ag : Int) (Ah : Bool) (A4 A5 : Int) (A6 A7 A8 : List UInt8) (A9 Ba Bb Bc Bd Be Bf : Int) : Option Bool :=
  (oB (qqv Ae Af Ag Ah A4 A5 A6 A7 A8 A9 Ba Bb Bc Bd Be Bf) fun r1 => (some (!r1)))
def qok := hull qe2
theorem quk : qok = qe2 := qb _
def qvb {R : Type} : EntF Tryd.prog R := entB (nt := 6) (dec := decB) (enc := AV.bool) tabOk follows Tryd.func57 [.t 2] hdeB (.s .z (.s (.r [(1, .c q47.b)] []) .z)) S22_ qe2 (fun f v => f (v.s 1 0) (v.i 1 1) (v.i 1 2) (v.b 1 3) (v.i 1 4) (v.i 1 5) (v.s 1 6) (v.s 1 7) (v.s 1 8) (v.i 1 9) (v.i 1 10) (v.i 1 11) (v.i 1 12) (v.i 1 13) (v.i 1 14) (v.i 1 15)) (by kernel_rfl) (by kernel_rfl) (by kernel_rfl) fun _ => (by kernel_rfl)
def S23_ : Shp := ⟨[(1, .one (.fn 57 [])), (7, .one (.l (.sl 16))), (8, .one (.l (.i .i64))), (9, .one (.l (.i .i64)))], []⟩
def S24_ : Shp := ⟨[(0, .one (.l (.sl 16))), (1, .one (.fn 57 []))], []⟩
def qci  (K : Ex → Env → Mem → Option Int) := (fun (_ : Unit) => K (.exit 0) (qi []) (qj []))
def qn  (v7 : List AV) (v8 v9 : Int) (next : Int → Option Int) (kx0 : Unit → Option Int) : Option Int :=
  (bif (decide (v9 < v8)) then (oB (ixB v7 v9) fun y1 => (bif fitC qkf y1.cells then (oB (qok (gS y1.cells 0) (gI y1.cells 1) (gI y1.cells 2) (gB y1.cells 3) (gI y1.cells 4) (gI y1.cells 5) (gS y1.cells 6) (gS y1.cells 7) (gS y1.cells 8) (gI y1.cells 9) (gI y1.cells 10) (gI y1.cells 11) (gI y1.cells 12) (gI y1.cells 13) (gI y1.cells 14) (gI y1.cells 15)) fun r2 => (bif r2 then (some v9) else (next (IntKind.i64.wrap (v9 + (1 : Int)))))) else none)) else (kx0 ()))
def qo  (v7 : List AV) (v8 : Int) (kx0 : Unit → Option Int) : Nat → Int → Option Int
  | 0 => (fun _ => none)
  | n + 1 => (fun v9 => qn v7 v8 v9 (qo v7 v8 kx0 n) kx0)
def qct := hull (qo)
theorem qeu : qct = qo := qb _
def qe3 : SubB Tryd.prog (TIof Tryd.prog) 19 0 (kret [.t 4] (decI .i64)) := lpB tabOk follows Tryd.f55 37 (.s .z (.s (.s .z (.v [.sel [] []])) (.s (.b (.s (.r [(1, .p (.etac 12 qkf))] []) (.s (.r [(2, .c qvb.b)] []) .z))) (.v [.sel [1, 7, 8, 9] []])))) S23_ (qo) (fun f v K n => f (v.l 28 0) (v.i 32 0) (qci K) n) (fun v f K => qn (v.l 28 0) (v.i 32 0) (v.i 36 0) f (qci K)) (fun f v => f (v.i 36 0)) (fun k v => (fun z0 => k (v.ui 36 0 z0))) (by kernel_rfl) (fun _ _ => (by kernel_rfl)) (fun _ _ _ => (by kernel_rfl)) (fun _ _ _ => (by kernel_rfl)) (fun _ _ => (by kernel_rfl)) (fun _ _ _ _ _ => (by kernel_rfl))
def qy (v0 : List AV) : Option Int :=
  (qct v0 (v0.length : Int) (fun (_ : Unit) => (some (-1 : Int))) FU (0 : Int))
def qbw := hull qy
theorem qfm : qbw = qy := qb _
def qf8 {R : Type} : EntF Tryd.prog R := entB (nt := 19) (dec := (decI .i64)) (enc := (AV.int .i64)) tabOk follows Tryd.func55 [.t 4] hdeI (.s .z (.s (.s .z (.b (.sub [.sel [1, 7, 8, 9] []] qe3 []))) .z)) S24_ qy (fun f v => f (v.l 0 0)) (by kernel_rfl) (by kernel_rfl) (by kernel_rfl) fun _ => (by kernel_rfl)
def qgk (Ae : List UInt8) (Af Ag : Int) (Ah : List AV) : Option Bool :=
  (bif (((decide ((Ah.length : Int) < (1 : Int))) || (decide ((Ah.length : Int) > (64 : Int)))) || (Ag == (0 : Int))) then (some false) else (oB (qm9 Ae Af Ag Ah) fun r1 => (oB (qbw r1) fun r2 => (some (decide (r2 < (0 : Int)))))))
def qlo := hull qgk
theorem qxw : qlo = qgk := qb _
def qy5 {R : Type} : EntF Tryd.prog R := entB (nt := 22) (dec := decB) (enc := AV.bool) tabOk follows Tryd.func38 [.t 2] hdeB (.s .z (.s (.s (.r [(5, .g 4), (11, .g 3)] []) .z) (.s (.r [(1, .k qz6.b), (2, .c qf8.b)] []) .z))) S3_ qgk (fun f v => f (v.s 1 0) (v.i 1 1) (v.i 1 2) (v.l 1 3)) (by kernel_rfl) (by kernel_rfl) (by kernel_rfl) fun _ => (by kernel_rfl)
def qg7 : Nat := 59
def qc : List LT := [(.i .i64), .s, (.i .i64), (.i .i64), (.sl 13), (.i .i64), (.i .i64), (.i .i64), (.i .i64)]
def S25_ : Shp := ⟨[(0, .st (lk qc)), (1, .one (.l (.i .i64)))], []⟩
def qg8 (Ae : Int) (Af : List UInt8) (Ag Ah : Int) (A4 : List AV) (A5 A6 A7 A8 v1 : Int) : Option Bool :=
  (some (decide (v1 < A7)))
def qbf := hull qg8
theorem qsi : qbf = qg8 := qb _
def qb3 {R : Type} : EntF Tryd.prog R := entB (nt := 9) (dec := decB) (enc := AV.bool) tabOk follows Tryd.func30 [.t 4] hdeB (.z) S25_ qg8 (fun f v => f (v.i 1 0) (v.s 1 1) (v.i 1 2) (v.i 1 3) (v.l 1 4) (v.i 1 5) (v.i 1 6) (v.i 1 7) (v.i 1 8) (v.i 4 0)) (by kernel_rfl) (by kernel_rfl) (by kernel_rfl) fun _ => (by kernel_rfl)
def S26_ : Shp := ⟨[(0, .st (lk qc)), (1, .one (.l .s)), (2, .one (.l (.i .i64)))], []⟩
def qg9 (Ae : Int) (Af : List UInt8) (Ag Ah : Int) (A4 : List AV) (A5 A6 A7 A8 : Int) (v1 : List UInt8) (v2 : Int) : Option Bool :=
  (some ((Af == v1) && (Ag == v2)))
def qcm := hull qg9
theorem qsj : qcm = qg9 := qb _
def qdq {R : Type} : EntF Tryd.prog R := entB (nt := 19) (dec := decB) (enc := AV.bool) tabOk follows Tryd.func31 [.t 6] hdeB (.s .z (.s (.r [(6, .g 5)] []) .z)) S26_ qg9 (fun f v => f (v.i 1 0) (v.s 1 1) (v.i 1 2) (v.i 1 3) (v.l 1 4) (v.i 1 5) (v.i 1 6) (v.i 1 7) (v.i 1 8) (v.s 4 0) (v.i 8 0)) (by kernel_rfl) (by kernel_rfl) (by kernel_rfl) fun _ => (by kernel_rfl)
def S27_ : Shp := ⟨[(0, .st (lk qc)), (1, .cptr [(.i .i64)]), (2, .cptr [.s, (.i .i64)])], []⟩
def qi4 (Ae : Int) (Af : List UInt8) (Ag Ah : Int) (A4 : List AV) (A5 A6 A7 A8 Ar : Int) (Bg : List UInt8) (Bh : Int) : Option Bool :=
  (oB (qbf Ae Af Ag Ah A4 A5 A6 A7 A8 Ar) fun r1 => (bif r1 then (oB (qcm Ae Af Ag Ah A4 A5 A6 A7 A8 Bg Bh) fun r2 => (some r2)) else (some false)))
def qya := hull qi4
theorem q2p : qya = qi4 := qb _
def q48 {R : Type} : EntF Tryd.prog R := entB (nt := 16) (dec := decB) (enc := AV.bool) tabOk follows Tryd.func29 [.t 4] hdeB (.s .z (.s (.r [(2, .c qb3.b), (9, .c qdq.b)] []) .z)) S27_ qi4 (fun f v => f (v.i 1 0) (v.s 1 1) (v.i 1 2) (v.i 1 3) (v.l 1 4) (v.i 1 5) (v.i 1 6) (v.i 1 7) (v.i 1 8) (v.i 6 0) (v.s 10 0) (v.i 10 1)) (by kernel_rfl) (by kernel_rfl) (by kernel_rfl) fun _ => (by kernel_rfl)
def qi5 (Ae : Int) (Af : List UInt8) (Ag Ah : Int) (A4 : List AV) (A5 A6 A7 A8 Ar : Int) (Bg : List UInt8) (Bh : Int) : Option Bool :=
  (oB (qbf Ae Af Ag Ah A4 A5 A6 A7 A8 Ar) fun r1 => (bif (r1 && (Ae == (0 : Int))) then (oB (qcm Ae Af Ag Ah A4 A5 A6 A7 A8 Bg (5 : Int)) fun r2 => (some r2)) else (some false)))
def qyb := hull qi5
theorem q2q : qyb = qi5 := qb _
def q49 {R : Type} : EntF Tryd.prog R := entB (nt := 19) (dec := decB) (enc := AV.bool) tabOk follows Tryd.func32 [.t 4] hdeB (.s .z (.s (.r [(2, .c qb3.b), (4, .g 3), (12, .c qdq.b)] []) .z)) S27_ qi5 (fun f v => f (v.i 1 0) (v.s 1 1) (v.i 1 2) (v.i 1 3) (v.l 1 4) (v.i 1 5) (v.i 1 6) (v.i 1 7) (v.i 1 8) (v.i 6 0) (v.s 10 0) (v.i 10 1)) (by kernel_rfl) (by kernel_rfl) (by kernel_rfl) fun _ => (by kernel_rfl)
def S28_ : Shp := ⟨[(0, .st (lk qc)), (1, .one (.l .s))], []⟩
def qgl (Ae : Int) (Af : List UInt8) (Ag Ah : Int) (A4 : List AV) (A5 A6 A7 A8 : Int) (v1 : List UInt8) : Option Bool :=
  (some ((Ae == (2 : Int)) && (Af == v1)))
def qcc := hull qgl
theorem qra : qcc = qgl := qb _
def qc8 {R : Type} : EntF Tryd.prog R := entB (nt := 15) (dec := decB) (enc := AV.bool) tabOk follows Tryd.func34 [.t 4] hdeB (.s .z (.s (.r [(4, .g 5)] []) .z)) S28_ qgl (fun f v => f (v.i 1 0) (v.s 1 1) (v.i 1 2) (v.i 1 3) (v.l 1 4) (v.i 1 5) (v.i 1 6) (v.i 1 7) (v.i 1 8) (v.s 4 0)) (by kernel_rfl) (by kernel_rfl) (by kernel_rfl) fun _ => (by kernel_rfl)
def qi6 (Ae : Int) (Af : List UInt8) (Ag Ah : Int) (A4 : List AV) (A5 A6 A7 A8 Ar : Int) (Bg : List UInt8) (Bh : Int) : Option Bool :=
  (oB (qbf Ae Af Ag Ah A4 A5 A6 A7 A8 Ar) fun r1 => (bif r1 then (oB (qcc Ae Af Ag Ah A4 A5 A6 A7 A8 Bg) fun r2 => (some r2)) else (some false)))
def qyc := hull qi6
theorem q2r : qyc = qi6 := qb _
def q5a {R : Type} : EntF Tryd.prog R := entB (nt := 14) (dec := decB) (enc := AV.bool) tabOk follows Tryd.func33 [.t 4] hdeB (.s .z (.s (.r [(2, .c qb3.b), (7, .c qc8.b)] []) .z)) S27_ qi6 (fun f v => f (v.i 1 0) (v.s 1 1) (v.i 1 2) (v.i 1 3) (v.l 1 4) (v.i 1 5) (v.i 1 6) (v.i 1 7) (v.i 1 8) (v.i 6 0) (v.s 10 0) (v.i 10 1)) (by kernel_rfl) (by kernel_rfl) (by kernel_rfl) fun _ => (by kernel_rfl)
def S29_ : Shp := ⟨[(0, .st (lk qc)), (1, .cptr qcw)], []⟩
def qi7 (Ae : Int) (Af : List UInt8) (Ag Ah : Int) (A4 : List AV) (A5 A6 A7 A8 : Int) (Ar : List UInt8) (As At : Int) (Au : List AV) : Option Bool :=
  (oB (qcm Ae Af Ag Ah A4 A5 A6 A7 A8 Ar As) fun r1 => (bif r1 then (some true) else (oB (qcc Ae Af Ag Ah A4 A5 A6 A7 A8 Ar) fun r2 => (some r2))))
def qyd := hull qi7
theorem q2s : qyd = qi7 := qb _
def q5b {R : Type} : EntF Tryd.prog R := entB (nt := 16) (dec := decB) (enc := AV.bool) tabOk follows Tryd.func37 [.t 3] hdeB (.s .z (.s (.r [(5, .c qdq.b), (10, .c qc8.b)] []) .z)) S29_ qi7 (fun f v => f (v.i 1 0) (v.s 1 1) (v.i 1 2) (v.i 1 3) (v.l 1 4) (v.i 1 5) (v.i 1 6) (v.i 1 7) (v.i 1 8) (v.s 6 0) (v.i 6 1) (v.i 6 2) (v.l 6 3)) (by kernel_rfl) (by kernel_rfl) (by kernel_rfl) fun _ => (by kernel_rfl)
def qi8 (Ae : Int) (Af : List UInt8) (Ag Ah : Int) (A4 : List AV) (A5 A6 A7 A8 : Int) (Ar : List UInt8) (As At : Int) (Au : List AV) : Option Bool :=
  (oB (qcc Ae Af Ag Ah A4 A5 A6 A7 A8 Ar) fun r1 => (some (!r1)))
def qye := hull qi8
theorem q2t : qye = qi8 := qb _
def q5c {R : Type} : EntF Tryd.prog R := entB (nt := 9) (dec := decB) (enc := AV.bool) tabOk follows Tryd.func41 [.t 3] hdeB (.s .z (.s (.r [(3, .c qc8.b)] []) .z)) S29_ qi8 (fun f v => f (v.i 1 0) (v.s 1 1) (v.i 1 2) (v.i 1 3) (v.l 1 4) (v.i 1 5) (v.i 1 6) (v.i 1 7) (v.i 1 8) (v.s 6 0) (v.i 6 1) (v.i 6 2) (v.l 6 3)) (by kernel_rfl) (by kernel_rfl) (by kernel_rfl) fun _ => (by kernel_rfl)
def S30_ : Shp := ⟨[(0, .st (lk qc)), (1, .cptr qc)], []⟩
def qhg (Ae : Int) (Af : List UInt8) (Ag Ah : Int) (A4 : List AV) (A5 A6 A7 A8 Ar : Int) (As : List UInt8) (At Au : Int) (Av : List AV) (Aw Ax Ay Az : Int) : Option Bool :=
  (oB (qcm Ae Af Ag Ah A4 A5 A6 A7 A8 As At) fun r1 => (some r1))
def qty := hull qhg
theorem qy6 : qty = qhg := qb _
def q0e {R : Type} : EntF Tryd.prog R := entB (nt := 12) (dec := decB) (enc := AV.bool) tabOk follows Tryd.func60 [.t 3] hdeB (.s .z (.s (.r [(7, .c qdq.b)] []) .z)) S30_ qhg (fun f v => f (v.i 1 0) (v.s 1 1) (v.i 1 2) (v.i 1 3) (v.l 1 4) (v.i 1 5) (v.i 1 6) (v.i 1 7) (v.i 1 8) (v.i 6 0) (v.s 6 1) (v.i 6 2) (v.i 6 3) (v.l 6 4) (v.i 6 5) (v.i 6 6) (v.i 6 7) (v.i 6 8)) (by kernel_rfl) (by kernel_rfl) (by kernel_rfl) fun _ => (by kernel_rfl)
theorem q52 {R : Type} : qes Tryd.prog 70 (ql9 (R' := R)) := q8o Tryd.func70 (by kernel_rfl) (by kernel_rfl) (by kernel_rfl) (by kernel_rfl)
def qev (v0 v1 : List UInt8) : Option Int :=
  (oB (qtm v0 v1) fun r1 => (some r1))
def qjx := hull qev
theorem qol : qjx = qev := qb _
def qpo {R : Type} : EntF Tryd.prog R := entB (nt := 8) (dec := (decI .i64)) (enc := (AV.int .i64)) tabOk follows Tryd.func53 [.t 4] hdeI (.s .z (.s (.r [(2, .c (eK q52))] []) .z)) S4_ qev (fun f v => f (v.s 0 0) (v.s 4 0)) (by kernel_rfl) (by kernel_rfl) (by kernel_rfl) fun _ => (by kernel_rfl)
def qfu (v0 v1 : List UInt8) : Option Int :=
  (oB (qjx v0 v1) fun r1 => (some r1))
def qhh := hull qfu
theorem qvc : qhh = qfu := qb _
def qno {R : Type} : EntF Tryd.prog R := entB (nt := 8) (dec := (decI .i64)) (enc := (AV.int .i64)) tabOk follows Tryd.func26 [.t 4] hdeI (.s .z (.s (.r [(2, .c qpo.b)] []) .z)) S4_ qfu (fun f v => f (v.s 0 0) (v.s 4 0)) (by kernel_rfl) (by kernel_rfl) (by kernel_rfl) fun _ => (by kernel_rfl)
def qvd  (v0 : List UInt8) (K : Ex → Env → Mem → Option (List AV)) := (fun z_v9 => K .norm (qi [(0, (.str v0)), (9, (.bool z_v9))]) (qj []))
def qfv  (v0 : List UInt8) (kn : Bool → Option (List AV)) : Option (List AV) :=
  (bif (v0 == ([46] : List UInt8)) then (kn true) else (oB (qbu v0) fun r1 => (kn (!r1))))
def qpx := hull (qfv)
theorem qve : qpx = qfv := qb _
def qxx : SubB Tryd.prog (TIof Tryd.prog) 16 0 (kret [.t 2] (decX (.one (.sl 1)) fun z => aL z)) := jnB tabOk follows Tryd.f27 9 (.r [(4, .c qch.b)] [.sel [0, 9] []]) S11_ (qfv) (fun f v K => f (v.s 0 0) (qvd (v.s 0 0) K)) (by kernel_rfl) (fun _ _ => (by kernel_rfl))
def qh9 (v0 : List UInt8) : Option (List AV) :=
  (qpx v0 (fun v9q1 => (bif v9q1 then (some ([] : List AV)) else (oB (cutI v0 none (some (IntKind.i64.wrap ((v0.length : Int) - (1 : Int))))) fun s2 => (oB (qiy s2 ([46] : List UInt8)) fun r3 => (some r3))))))
def qf9 := hull qh9
theorem q0f : qf9 = qh9 := qb _
def qlp {R : Type} : EntF Tryd.prog R := entB (nt := 16) (dec := (decX (.one (.sl 1)) fun z => aL z)) (enc := (fun r => .sl 1 r)) tabOk follows Tryd.func27 [.t 2] (hdeX fun _ => rfl) (.s .z (.s (.s (.sub [.sel [0] []] qxx []) (.s (.s .z (.v [.eta 2 (.one (.sl 1))])) .z)) (.s (.r [(5, .k qpq.b)] []) .z))) S11_ qh9 (fun f v => f (v.s 0 0)) (by kernel_rfl) (by kernel_rfl) (by kernel_rfl) fun _ => (by kernel_rfl)
def S31_ : Shp := ⟨[(7, .one (.l (.sl 1))), (8, .one (.l (.sl 1))), (9, .one (.l (.i .i64)))], []⟩
def qjy  (v7 v8 : List AV) (K : Ex → Env → Mem → Option Int) := (fun (_ : Unit) => K (.exit 1) (qi [(7, (.sl 1 v7)), (8, (.sl 1 v8))]) (qj []))
def qha  (v7 v8 : List AV) (v9 : Int) (next : Int → Option Int) (kx1 : Unit → Option Int) : Option Int :=
  (bif ((decide (v9 ≤ (v7.length : Int))) && (decide (v9 ≤ (v8.length : Int)))) then (oB (ixB v7 (IntKind.i64.wrap ((v7.length : Int) - v9))) fun y1 => (bif fitC [.s] y1.cells then (oB (ixB v8 (IntKind.i64.wrap ((v8.length : Int) - v9))) fun y2 => (bif fitC [.s] y2.cells then (oB (qhh (gS y1.cells 0) (gS y2.cells 0)) fun r3 => (bif (r3 != (0 : Int)) then (some r3) else (next (IntKind.i64.wrap (v9 + (1 : Int)))))) else none)) else none)) else (kx1 ()))
def qcn  (v7 v8 : List AV) (kx1 : Unit → Option Int) : Nat → Int → Option Int
  | 0 => (fun _ => none)
  | n + 1 => (fun v9 => qha v7 v8 v9 (qcn v7 v8 kx1 n) kx1)
def qnp := hull (qcn)
theorem qsk : qnp = qcn := qb _
def qul : SubB Tryd.prog (TIof Tryd.prog) 79 0 (kret [.t 4] (decI .i64)) := lpB tabOk follows Tryd.f11 303 (.s (.s (.r [(5, .g 4)] []) (.s .z (.v [.sel [7, 8] []]))) (.s (.b (.s (.d [] [(5, .e 54 [.s]), (12, .e 61 [.s])] [(0, .c qno.b)] []) .z)) (.v [.sel [7, 8, 9] []]))) S31_ (qcn) (fun f v K n => f (v.l 28 0) (v.l 32 0) (qjy (v.l 28 0) (v.l 32 0) K) n) (fun v f K => qha (v.l 28 0) (v.l 32 0) (v.i 36 0) f (qjy (v.l 28 0) (v.l 32 0) K)) (fun f v => f (v.i 36 0)) (fun k v => (fun z0 => k (v.ui 36 0 z0))) (by kernel_rfl) (fun _ _ => (by kernel_rfl)) (fun _ _ _ => (by kernel_rfl)) (fun _ _ _ => (by kernel_rfl)) (fun _ _ => (by kernel_rfl)) (fun _ _ _ _ _ => (by kernel_rfl))
def qhi (v0 v1 : List UInt8) : Option Int :=
  (oB (qbu v0) fun r1 => (oB (qbu v1) fun r2 => (bif (r1 && (!r2)) then (some (-1 : Int)) else (bif (r2 && (!r1)) then (some (1 : Int)) else (bif (!r1) then (oB (qhh v0 v1) fun r3 => (some r3)) else (oB (qf9 v0) fun r4 => (oB (qf9 v1) fun r5 => (qnp r4 r5 (fun (_ : Unit) => (bif (decide ((r4.length : Int) < (r5.length : Int))) then (some (-1 : Int)) else (bif (decide ((r4.length : Int) > (r5.length : Int))) then (some (1 : Int)) else (some (0 : Int))))) FU (1 : Int)))))))))
def qnb := hull qhi
theorem qy7 : qnb = qhi := qb _
def q0g {R : Type} : EntF Tryd.prog R := entB (nt := 79) (dec := (decI .i64)) (enc := (AV.int .i64)) tabOk follows Tryd.func11 [.t 4] hdeI (.s .z (.s (.r [(1, .c qch.b), (3, .c qch.b)] []) (.s (.b (.s (.r [(2, .g 2)] []) (.s .z (.s (.r [(2, .g 2)] []) (.s .z (.s .z (.s (.s (.r [(2, .c qno.b)] []) .z) .z))))))) (.s (.r [(1, .k qlp.b), (3, .k qlp.b)] []) (.s (.s .z (.b (.sub [.sel [7, 8, 9] []] qul []))) .z))))) S4_ qhi (fun f v => f (v.s 0 0) (v.s 4 0)) (by kernel_rfl) (by kernel_rfl) (by kernel_rfl) fun _ => (by kernel_rfl)
def qkn (v0 : Int) : Option Bool :=
  (some (v0 != v0))
def qi9 := hull qkn
theorem qy8 : qi9 = qkn := qb _
def qpy {R : Type} : EntF Tryd.prog R := entB (nt := 6) (dec := decB) (enc := AV.bool) tabOk follows Tryd.func87 [.t 2] hdeB (.z) S0_ qkn (fun f v => f (v.i 0 0)) (by kernel_rfl) (by kernel_rfl) (by kernel_rfl) fun _ => (by kernel_rfl)
def qfw (v0 v1 : Int) : Option Int :=
  (oB (qi9 v0) fun r1 => (oB (qi9 v1) fun r2 => (bif r1 then (bif r2 then (some (0 : Int)) else (some (-1 : Int))) else (bif r2 then (some (1 : Int)) else (bif (decide (v0 < v1)) then (some (-1 : Int)) else (bif (decide (v0 > v1)) then (some (1 : Int)) else (some (0 : Int))))))))
def qko := hull qfw
theorem qvf : qko = qfw := qb _
def qxy {R : Type} : EntF Tryd.prog R := entB (nt := 20) (dec := (decI .i64)) (enc := (AV.int .i64)) tabOk follows Tryd.func73 [.t 4] hdeI (.s .z (.s (.r [(1, .c qpy.b)] []) (.s (.r [(1, .c qpy.b)] []) .z))) S16_ qfw (fun f v => f (v.i 0 0) (v.i 4 0)) (by kernel_rfl) (by kernel_rfl) (by kernel_rfl) fun _ => (by kernel_rfl)
def S32_ : Shp := ⟨[(0, .st (lk qc)), (1, .st (lk qc))], []⟩
def qja (Ae : Int) (Af : List UInt8) (Ag Ah : Int) (A4 : List AV) (A5 A6 A7 A8 Ar : Int) (As : List UInt8) (At Au : Int) (Av : List AV) (Aw Ax Ay Az : Int) : Option Int :=
  (oB (qnb Af As) fun r1 => (bif (r1 != (0 : Int)) then (some r1) else (oB (qko Ag At) fun r2 => (some r2))))
def qqw := hull qja
theorem q2u : qqw = qja := qb _
def q5d {R : Type} : EntF Tryd.prog R := entB (nt := 23) (dec := (decI .i64)) (enc := (AV.int .i64)) tabOk follows Tryd.func63 [.t 4] hdeI (.s .z (.s (.s (.r [(6, .c q0g.b)] []) .z) (.s (.r [(6, .c qxy.b)] []) .z))) S32_ qja (fun f v => f (v.i 1 0) (v.s 1 1) (v.i 1 2) (v.i 1 3) (v.l 1 4) (v.i 1 5) (v.i 1 6) (v.i 1 7) (v.i 1 8) (v.i 5 0) (v.s 5 1) (v.i 5 2) (v.i 5 3) (v.l 5 4) (v.i 5 5) (v.i 5 6) (v.i 5 7) (v.i 5 8)) (by kernel_rfl) (by kernel_rfl) (by kernel_rfl) fun _ => (by kernel_rfl)
def qhj (Ae : Int) (Af : List UInt8) (Ag Ah : Int) (A4 : List AV) (A5 A6 A7 A8 Ar : Int) (As : List UInt8) (At Au : Int) (Av : List AV) (Aw Ax Ay Az : Int) : Option Bool :=
  (oB (qqw Ae Af Ag Ah A4 A5 A6 A7 A8 Ar As At Au Av Aw Ax Ay Az) fun r1 => (some (decide (r1 > (0 : Int)))))
def qtz := hull qhj
theorem qy9 : qtz = qhj := qb _
def q0h {R : Type} : EntF Tryd.prog R := entB (nt := 8) (dec := decB) (enc := AV.bool) tabOk follows Tryd.func62 [.t 3] hdeB (.s .z (.s (.r [(2, .c q5d.b)] []) .z)) S30_ qhj (fun f v => f (v.i 1 0) (v.s 1 1) (v.i 1 2) (v.i 1 3) (v.l 1 4) (v.i 1 5) (v.i 1 6) (v.i 1 7) (v.i 1 8) (v.i 6 0) (v.s 6 1) (v.i 6 2) (v.i 6 3) (v.l 6 4) (v.i 6 5) (v.i 6 6) (v.i 6 7) (v.i 6 8)) (by kernel_rfl) (by kernel_rfl) (by kernel_rfl) fun _ => (by kernel_rfl)
def S33_ : Shp := ⟨[(0, .st (lk qc)), (1, .cptr [.s, (.i .i64)])], []⟩
def qia (Ae : Int) (Af : List UInt8) (Ag Ah : Int) (A4 : List AV) (A5 A6 A7 A8 : Int) (Ar : List UInt8) (As : Int) : Option Bool :=
  (oB (qcm Ae Af Ag Ah A4 A5 A6 A7 A8 Ar As) fun r1 => (bif r1 then (some true) else (oB (qcc Ae Af Ag Ah A4 A5 A6 A7 A8 Ar) fun r2 => (some r2))))
def qvg := hull qia
theorem q0i : qvg = qia := qb _
def q2v {R : Type} : EntF Tryd.prog R := entB (nt := 16) (dec := decB) (enc := AV.bool) tabOk follows Tryd.func44 [.t 3] hdeB (.s .z (.s (.r [(5, .c qdq.b), (10, .c qc8.b)] []) .z)) S33_ qia (fun f v => f (v.i 1 0) (v.s 1 1) (v.i 1 2) (v.i 1 3) (v.l 1 4) (v.i 1 5) (v.i 1 6) (v.i 1 7) (v.i 1 8) (v.s 6 0) (v.i 6 1)) (by kernel_rfl) (by kernel_rfl) (by kernel_rfl) fun _ => (by kernel_rfl)
def qib (Ae : Int) (Af : List UInt8) (Ag Ah : Int) (A4 : List AV) (A5 A6 A7 A8 : Int) (Ar : List UInt8) (As : Int) : Option Bool :=
  (oB (qcc Ae Af Ag Ah A4 A5 A6 A7 A8 Ar) fun r1 => (some r1))
def qvh := hull qib
theorem q0j : qvh = qib := qb _
def q2w {R : Type} : EntF Tryd.prog R := entB (nt := 8) (dec := decB) (enc := AV.bool) tabOk follows Tryd.func45 [.t 3] hdeB (.s .z (.s (.r [(3, .c qc8.b)] []) .z)) S33_ qib (fun f v => f (v.i 1 0) (v.s 1 1) (v.i 1 2) (v.i 1 3) (v.l 1 4) (v.i 1 5) (v.i 1 6) (v.i 1 7) (v.i 1 8) (v.s 6 0) (v.i 6 1)) (by kernel_rfl) (by kernel_rfl) (by kernel_rfl) fun _ => (by kernel_rfl)
def qlq (Ae : Int) (Af : List UInt8) (Ag Ah : Int) (A4 : List AV) (A5 A6 A7 A8 : Int) (Ar : List UInt8) (As : Int) : Option Bool :=
  (some (Af == Ar))
def qvi := hull qlq
theorem q0k : qvi = qlq := qb _
def q2x {R : Type} : EntF Tryd.prog R := entB (nt := 10) (dec := decB) (enc := AV.bool) tabOk follows Tryd.func46 [.t 3] hdeB (.z) S33_ qlq (fun f v => f (v.i 1 0) (v.s 1 1) (v.i 1 2) (v.i 1 3) (v.l 1 4) (v.i 1 5) (v.i 1 6) (v.i 1 7) (v.i 1 8) (v.s 6 0) (v.i 6 1)) (by kernel_rfl) (by kernel_rfl) (by kernel_rfl) fun _ => (by kernel_rfl)
def S34_ : Shp := ⟨[(0, .st (lk qc)), (1, .cptr [(.i .i64)])], []⟩
def qhk (Ae : Int) (Af : List UInt8) (Ag Ah : Int) (A4 : List AV) (A5 A6 A7 A8 Ar : Int) : Option Bool :=
  (oB (qbf Ae Af Ag Ah A4 A5 A6 A7 A8 Ar) fun r1 => (some r1))
def qt0 := hull qhk
theorem qza : qt0 = qhk := qb _
def q0l {R : Type} : EntF Tryd.prog R := entB (nt := 7) (dec := decB) (enc := AV.bool) tabOk follows Tryd.func48 [.t 3] hdeB (.s .z (.s (.r [(2, .c qb3.b)] []) .z)) S34_ qhk (fun f v => f (v.i 1 0) (v.s 1 1) (v.i 1 2) (v.i 1 3) (v.l 1 4) (v.i 1 5) (v.i 1 6) (v.i 1 7) (v.i 1 8) (v.i 6 0)) (by kernel_rfl) (by kernel_rfl) (by kernel_rfl) fun _ => (by kernel_rfl)
def qkp (v0 v1 : List UInt8) : Option Bool :=
  (bif ((v1 == ([46] : List UInt8)) || (v0 == v1)) then (some true) else (bif decide (([46] : List UInt8).length + v1.length ≤ 9223372036854775807) then (oB (qfn v0 (([46] : List UInt8) ++ v1)) fun r1 => (some r1)) else none))
def q0m := hull qkp
theorem q5e : q0m = qkp := qb _
def q53 {R : Type} : EntF Tryd.prog R := entB (nt := 18) (dec := decB) (enc := AV.bool) tabOk follows Tryd.func50 [.t 4] hdeB (.s .z (.s (.r [(3, .g 3), (11, .c qle.b)] []) .z)) S4_ qkp (fun f v => f (v.s 0 0) (v.s 4 0)) (by kernel_rfl) (by kernel_rfl) (by kernel_rfl) fun _ => (by kernel_rfl)
def qjb (v0 v1 : List UInt8) : Option Bool :=
  (oB (qbu v0) fun r1 => (bif r1 then (oB (qbu v1) fun r2 => (bif r2 then (oB (q0m v0 v1) fun r3 => (some r3)) else (some false))) else (some false)))
def qiv := hull qjb
theorem q2y : qiv = qjb := qb _
def qt1 {R : Type} : EntF Tryd.prog R := entB (nt := 16) (dec := decB) (enc := AV.bool) tabOk follows Tryd.func20 [.t 4] hdeB (.s .z (.s (.r [(1, .c qch.b), (4, .c qch.b), (9, .c q53.b)] []) .z)) S4_ qjb (fun f v => f (v.s 0 0) (v.s 4 0)) (by kernel_rfl) (by kernel_rfl) (by kernel_rfl) fun _ => (by kernel_rfl)
def S35_ : Shp := ⟨[(0, .st (lk qc)), (1, .cptr [.s])], []⟩
def qhl (Ae : Int) (Af : List UInt8) (Ag Ah : Int) (A4 : List AV) (A5 A6 A7 A8 : Int) (Ar : List UInt8) : Option Bool :=
  (oB (qiv Af Ar) fun r1 => (some (!r1)))
def qt2 := hull qhl
theorem qzb : qt2 = qhl := qb _
def q0n {R : Type} : EntF Tryd.prog R := entB (nt := 10) (dec := decB) (enc := AV.bool) tabOk follows Tryd.func49 [.t 3] hdeB (.s .z (.s (.r [(4, .c qt1.b)] []) .z)) S35_ qhl (fun f v => f (v.i 1 0) (v.s 1 1) (v.i 1 2) (v.i 1 3) (v.l 1 4) (v.i 1 5) (v.i 1 6) (v.i 1 7) (v.i 1 8) (v.s 6 0)) (by kernel_rfl) (by kernel_rfl) (by kernel_rfl) fun _ => (by kernel_rfl)
def ap0 : ApB Tryd.prog := (ApB.cons q0n.b (ApB.cons q0l.b (ApB.cons q2x.b (ApB.cons q2w.b (ApB.cons q2v.b (ApB.cons q0h.b (ApB.cons q0e.b (ApB.cons q5c.b (ApB.cons q5b.b (ApB.cons q5a.b (ApB.cons q49.b (ApB.cons q48.b (apN Tryd.prog)))))))))))))
def S36_ : Shp := ⟨[(0, .st (lk qc)), (1, .cptr [.fn])], []⟩
def qhm (Ae : Int) (Af : List UInt8) (Ag Ah : Int) (A4 : List AV) (A5 A6 A7 A8 : Int) (Ar : AV) : Option Bool :=
  (oB (ap0.ap Ar [(.agg [(.int .i64 Ae), (.str Af), (.int .i64 Ag), (.int .i64 Ah), (.sl 13 A4), (.int .i64 A5), (.int .i64 A6), (.int .i64 A7), (.int .i64 A8)])]) fun r1 => (some (!r1)))
def qt3 := hull qhm
theorem qzc : qt3 = qhm := qb _
def q0o {R : Type} : EntF Tryd.prog R := entB (nt := 8) (dec := decB) (enc := AV.bool) tabOk follows Tryd.func61 [.t 3] hdeB (.s .z (.s (.r [(2, .q ap0)] []) .z)) S36_ qhm (fun f v => f (v.i 1 0) (v.s 1 1) (v.i 1 2) (v.i 1 3) (v.l 1 4) (v.i 1 5) (v.i 1 6) (v.i 1 7) (v.i 1 8) (v.f 6 0)) (by kernel_rfl) (by kernel_rfl) (by kernel_rfl) fun _ => (by kernel_rfl)
def S37_ : Shp := ⟨[(0, .st (lk qc)), (1, .cptr [.fn]), (2, .cptr [(.i .i64)])], []⟩
def qhn (Ae : Int) (Af : List UInt8) (Ag Ah : Int) (A4 : List AV) (A5 A6 A7 A8 : Int) (Ar : AV) (Bg : Int) : Option Bool :=
  (oB (ap0.ap Ar [(.agg [(.int .i64 Ae), (.str Af), (.int .i64 Ag), (.int .i64 Ah), (.sl 13 A4), (.int .i64 A5), (.int .i64 A6), (.int .i64 A7), (.int .i64 A8)])]) fun r1 => (bif r1 then (some true) else (oB (qbf Ae Af Ag Ah A4 A5 A6 A7 A8 Bg) fun r2 => (some r2))))
def qt4 := hull qhn
theorem qzd : qt4 = qhn := qb _
def q0p {R : Type} : EntF Tryd.prog R := entB (nt := 13) (dec := decB) (enc := AV.bool) tabOk follows Tryd.func65 [.t 4] hdeB (.s .z (.s (.r [(2, .q ap0), (6, .c qb3.b)] []) .z)) S37_ qhn (fun f v => f (v.i 1 0) (v.s 1 1) (v.i 1 2) (v.i 1 3) (v.l 1 4) (v.i 1 5) (v.i 1 6) (v.i 1 7) (v.i 1 8) (v.f 6 0) (v.i 10 0)) (by kernel_rfl) (by kernel_rfl) (by kernel_rfl) fun _ => (by kernel_rfl)
def qic (Ae : Int) (Af : List UInt8) (Ag Ah : Int) (A4 : List AV) (A5 A6 A7 A8 : Int) (Ar : AV) : Option Bool :=
  (oB (ap0.ap Ar [(.agg [(.int .i64 Ae), (.str Af), (.int .i64 Ag), (.int .i64 Ah), (.sl 13 A4), (.int .i64 A5), (.int .i64 A6), (.int .i64 A7), (.int .i64 A8)])]) fun r1 => (some (!r1)))
def qvj := hull qic
theorem q0q : qvj = qic := qb _
def q2z {R : Type} : EntF Tryd.prog R := entB (nt := 8) (dec := decB) (enc := AV.bool) tabOk follows Tryd.func47 [.t 3] hdeB (.s .z (.s (.r [(2, .q ap0)] []) .z)) S36_ qic (fun f v => f (v.i 1 0) (v.s 1 1) (v.i 1 2) (v.i 1 3) (v.l 1 4) (v.i 1 5) (v.i 1 6) (v.i 1 7) (v.i 1 8) (v.f 6 0)) (by kernel_rfl) (by kernel_rfl) (by kernel_rfl) fun _ => (by kernel_rfl)
def S38_ : Shp := ⟨[(0, .st (lk qc)), (1, .cptr [.fn]), (2, .cptr [(.i .i64)]), (3, .cptr [(.i .i64)])], []⟩
def qe4 (Ae : Int) (Af : List UInt8) (Ag Ah : Int) (A4 : List AV) (A5 A6 A7 A8 : Int) (Ar : AV) (Bg Bi : Int) : Option Bool :=
  (oB (ap0.ap Ar [(.agg [(.int .i64 Ae), (.str Af), (.int .i64 Ag), (.int .i64 Ah), (.sl 13 A4), (.int .i64 A5), (.int .i64 A6), (.int .i64 A7), (.int .i64 A8)])]) fun r1 => (bif r1 then (oB (qbf Ae Af Ag Ah A4 A5 A6 A7 A8 Bg) fun r2 => (some (r2 && (decide (A5 > Bi))))) else (some false)))
def qom := hull qe4
theorem qum : qom = qe4 := qb _
def qvk {R : Type} : EntF Tryd.prog R := entB (nt := 20) (dec := decB) (enc := AV.bool) tabOk follows Tryd.func59 [.t 5] hdeB (.s .z (.s (.r [(2, .q ap0), (6, .c qb3.b), (9, .g 4)] []) .z)) S38_ qe4 (fun f v => f (v.i 1 0) (v.s 1 1) (v.i 1 2) (v.i 1 3) (v.l 1 4) (v.i 1 5) (v.i 1 6) (v.i 1 7) (v.i 1 8) (v.f 6 0) (v.i 10 0) (v.i 14 0)) (by kernel_rfl) (by kernel_rfl) (by kernel_rfl) fun _ => (by kernel_rfl)
def ap1 : ApB Tryd.prog := (ApB.cons qvk.b (ApB.cons q2z.b (ApB.cons q0p.b (ApB.cons q0o.b ap0))))
def S39_ : Shp := ⟨[(1, .one (.l .fn)), (7, .one (.l (.sl 9))), (8, .one (.l (.i .i64))), (9, .one (.l (.i .i64)))], []⟩
def S40_ : Shp := ⟨[(0, .one (.l (.sl 9))), (1, .one (.l .fn))], []⟩
def qe5  (K : Ex → Env → Mem → Option Int) := (fun (_ : Unit) => K (.exit 0) (qi []) (qj []))
def qbo  (v1 : AV) (v7 : List AV) (v8 v9 : Int) (next : Int → Option Int) (kx0 : Unit → Option Int) : Option Int :=
  (bif (decide (v9 < v8)) then (oB (ixB v7 v9) fun y1 => (bif fitC qc y1.cells then (oB (ap1.ap v1 [(.agg [(.int .i64 (gI y1.cells 0)), (.str (gS y1.cells 1)), (.int .i64 (gI y1.cells 2)), (.int .i64 (gI y1.cells 3)), (.sl 13 (gL y1.cells 4)), (.int .i64 (gI y1.cells 5)), (.int .i64 (gI y1.cells 6)), (.int .i64 (gI y1.cells 7)), (.int .i64 (gI y1.cells 8))])]) fun r2 => (bif r2 then (some v9) else (next (IntKind.i64.wrap (v9 + (1 : Int)))))) else none)) else (kx0 ()))
def qbp  (v1 : AV) (v7 : List AV) (v8 : Int) (kx0 : Unit → Option Int) : Nat → Int → Option Int
  | 0 => (fun _ => none)
  | n + 1 => (fun v9 => qbo v1 v7 v8 v9 (qbp v1 v7 v8 kx0 n) kx0)
def qgx := hull (qbp)
theorem qld : qgx = qbp := qb _
def qlr : SubB Tryd.prog (TIof Tryd.prog) 19 0 (kret [.t 4] (decI .i64)) := lpB tabOk follows Tryd.f28 37 (.s .z (.s (.s .z (.v [.sel [] []])) (.s (.b (.s (.r [(1, .p (.etac 12 qc))] []) (.s (.r [(2, .q ap1)] []) .z))) (.v [.sel [1, 7, 8, 9] []])))) S39_ (qbp) (fun f v K n => f (v.f 4 0) (v.l 28 0) (v.i 32 0) (qe5 K) n) (fun v f K => qbo (v.f 4 0) (v.l 28 0) (v.i 32 0) (v.i 36 0) f (qe5 K)) (fun f v => f (v.i 36 0)) (fun k v => (fun z0 => k (v.ui 36 0 z0))) (by kernel_rfl) (fun _ _ => (by kernel_rfl)) (fun _ _ _ => (by kernel_rfl)) (fun _ _ _ => (by kernel_rfl)) (fun _ _ => (by kernel_rfl)) (fun _ _ _ _ _ => (by kernel_rfl))
def qc2 (v0 : List AV) (v1 : AV) : Option Int :=
  (qgx v1 v0 (v0.length : Int) (fun (_ : Unit) => (some (-1 : Int))) FU (0 : Int))
def qbh := hull qc2
theorem qnc : qbh = qc2 := qb _
def qb5 {R : Type} : EntF Tryd.prog R := entB (nt := 19) (dec := (decI .i64)) (enc := (AV.int .i64)) tabOk follows Tryd.func28 [.t 4] hdeI (.s .z (.s (.s .z (.b (.sub [.sel [1, 7, 8, 9] []] qlr []))) .z)) S40_ qc2 (fun f v => f (v.l 0 0) (v.f 4 0)) (by kernel_rfl) (by kernel_rfl) (by kernel_rfl) fun _ => (by kernel_rfl)
def S41_ : Shp := ⟨[(0, .st [(.l (.i .i64)), (.l (.sl 9))]), (1, .one (.l (.i .i64))), (2, .one (.l (.i .i64))), (3, .one (.l .fn))], []⟩
def qgm (Ae : Int) (Af : List AV) (v1 v2 : Int) (v3 : AV) : Option Bool :=
  (oB (qbh Af (.func qg7 [(.cptr [(.fv v3)]), (.cptr [(.int .i64 v2)]), (.cptr [(.int .i64 v1)])])) fun r1 => (some (decide (r1 ≥ (0 : Int)))))
def qga := hull qgm
theorem qxz : qga = qgm := qb _
def qon {R : Type} : EntF Tryd.prog R := entB (nt := 14) (dec := decB) (enc := AV.bool) tabOk follows Tryd.func39 [.t 8] hdeB (.s .z (.s (.r [(2, .s (.cls 5)), (2, .s (.cls 6)), (2, .s (.cls 7)), (3, .c qb5.b)] []) .z)) S41_ qgm (fun f v => f (v.i 1 0) (v.l 1 1) (v.i 4 0) (v.i 8 0) (v.f 12 0)) (by kernel_rfl) (by kernel_rfl) (by kernel_rfl) fun _ => (by kernel_rfl)
def qek (l : List AV) : Option (List AV) := q12 128 l
def qh0 {R : Type} (xs : List AV) (K : AV → Option R) : Option R := qtl 13 128 xs K
theorem qiq {R : Type} : qk9 Tryd.prog 54 (qh0 (R := R)) := qbfk (ρ := qzx 54 4 31 64) tabOk (qbb6 follows "slices.Clone[[]ddi/api.Data,ddi/api.Data]" (by kernel_rfl) (by kernel_rfl) (by kernel_rfl) (by kernel_rfl) (by kernel_rfl) (by kernel_rfl) (by kernel_rfl) (by kernel_rfl)) (by kernel_rfl) (by decide) (by decide)
def S42_ : Shp := ⟨[(0, .st (lk qc))], []⟩
def qmh (Ae : Int) (Af : List UInt8) (Ag Ah : Int) (A4 : List AV) (A5 A6 A7 A8 : Int) : Option AV :=
  (oB (qek A4) fun r1 => (some (.agg [(.int .i64 Ae), (.str Af), (.int .i64 Ag), (.int .i64 Ah), (.sl 13 r1), (.int .i64 A5), (.int .i64 A6), (.int .i64 A7), (.int .i64 A8)])))
def qe6 := hull qmh
theorem q54 : qe6 = qmh := qb _
def qqx {R : Type} : EntF Tryd.prog R := entB (nt := 10) (dec := (decT [(.i .i64), .s, (.i .i64), (.i .i64), (.sl 13), (.i .i64), (.i .i64), (.i .i64), (.i .i64)])) (enc := (qdy (.st [(.i .i64), .s, (.i .i64), (.i .i64), (.sl 13), (.i .i64), (.i .i64), (.i .i64), (.i .i64)]))) tabOk follows Tryd.func36 [(.cell 2 true 9)] hdeT (.s .z (.s (.r [(3, .k (eB qiq))] []) .z)) S42_ qmh (fun f v => f (v.i 1 0) (v.s 1 1) (v.i 1 2) (v.i 1 3) (v.l 1 4) (v.i 1 5) (v.i 1 6) (v.i 1 7) (v.i 1 8)) (by kernel_rfl) (by kernel_rfl) (by kernel_rfl) fun _ => (by kernel_rfl)
def S43_ : Shp := ⟨[(2, .one (.ptr 0 0)), (4, .one (.ptr 1 0)), (5, .one (.own 2)), (11, .one (.l (.sl 9))), (12, .one (.l (.i .i64))), (13, .one (.l (.i .i64)))], [.box true [(.l (.i .i64)), (.l (.sl 9))], .box true [(.l (.i .i64)), (.l .nil)], .arr true 9]⟩
def S44_ : Shp := ⟨[(0, .st [(.l (.i .i64)), (.l (.sl 9))]), (1, .one (.l (.sl 9)))], []⟩
def qip  (Aa : Int) (Ab : List AV) (Bj : Int) (K : Ex → Env → Mem → Option AV) := (fun z_a2 => K (.exit 0) (qi [(2, (.ptr 0 0)), (4, (.ptr 1 0)), (5, (.own 2 z_a2.length))]) (qj [(some (.box true [(.int .i64 Aa), (.sl 9 Ab)])), (some (.box true [(.int .i64 Bj), .nils])), (some (.arr true 9 z_a2))]))
def qcy  (v11 : List AV) (v12 v13 Aa : Int) (Ab : List AV) (Bj : Int) (a2 : List AV) (next : Int → (List AV) → Option AV) (kx0 : (List AV) → Option AV) : Option AV :=
  (bif (decide (v13 < v12)) then (oB (ixB v11 v13) fun y1 => (bif fitC qc y1.cells then (oB (qe6 (gI y1.cells 0) (gS y1.cells 1) (gI y1.cells 2) (gI y1.cells 3) (gL y1.cells 4) (gI y1.cells 5) (gI y1.cells 6) (gI y1.cells 7) (gI y1.cells 8)) fun r2 => (bif hd a2 a2.length then (bif hd ([(.agg [(.int .i64 (gI r2.cells 0)), (.str (gS r2.cells 1)), (.int .i64 (gI r2.cells 2)), (.int .i64 (gI r2.cells 3)), (.sl 13 (gL r2.cells 4)), (.int .i64 (gI r2.cells 5)), (.int .i64 (gI r2.cells 6)), (.int .i64 (gI r2.cells 7)), (.int .i64 (gI r2.cells 8))])] : List AV) (([(.agg [(.int .i64 (gI r2.cells 0)), (.str (gS r2.cells 1)), (.int .i64 (gI r2.cells 2)), (.int .i64 (gI r2.cells 3)), (.sl 13 (gL r2.cells 4)), (.int .i64 (gI r2.cells 5)), (.int .i64 (gI r2.cells 6)), (.int .i64 (gI r2.cells 7)), (.int .i64 (gI r2.cells 8))])] : List AV).length) then (bif decide ((a2.length + ([(.agg [(.int .i64 (gI r2.cells 0)), (.str (gS r2.cells 1)), (.int .i64 (gI r2.cells 2)), (.int .i64 (gI r2.cells 3)), (.sl 13 (gL r2.cells 4)), (.int .i64 (gI r2.cells 5)), (.int .i64 (gI r2.cells 6)), (.int .i64 (gI r2.cells 7)), (.int .i64 (gI r2.cells 8))])] : List AV).length) * 96 ≤ 140737488355328) then (next (IntKind.i64.wrap (v13 + (1 : Int))) (a2 ++ ([(.agg [(.int .i64 (gI r2.cells 0)), (.str (gS r2.cells 1)), (.int .i64 (gI r2.cells 2)), (.int .i64 (gI r2.cells 3)), (.sl 13 (gL r2.cells 4)), (.int .i64 (gI r2.cells 5)), (.int .i64 (gI r2.cells 6)), (.int .i64 (gI r2.cells 7)), (.int .i64 (gI r2.cells 8))])] : List AV))) else none) else none) else none)) else none)) else (kx0 a2))
def qb9  (v11 : List AV) (v12 Aa : Int) (Ab : List AV) (Bj : Int) (kx0 : (List AV) → Option AV) : Nat → Int → (List AV) → Option AV
  | 0 => (fun _ _ => none)
  | n + 1 => (fun v13 a2 => qcy v11 v12 v13 Aa Ab Bj a2 (qb9 v11 v12 Aa Ab Bj kx0 n) kx0)
def qlh := hull (qb9)
theorem qqy : qlh = qb9 := qb _
def qrb : SubB Tryd.prog (TIof Tryd.prog) 27 0 (kret [(.cell 4 true 2)] (decT [(.i .i64), (.fr true 9)])) := lpB tabOk follows Tryd.f35 75 (.s .z (.s (.s .z (.v [.sel [2, 4, 5] [0, 1, 2]])) (.s (.b (.s (.r [(0, .p (.etac 15 qc))] []) (.r [(2, .k qqx.b)] []))) (.v [.sel [2, 4, 5, 11, 12, 13] [0, 1, 2]])))) S43_ (qb9) (fun f v K n => f (v.l 44 0) (v.i 48 0) (v.i 3 0) (v.l 3 1) (v.i 7 0) (qip (v.i 3 0) (v.l 3 1) (v.i 7 0) K) n) (fun v f K => qcy (v.l 44 0) (v.i 48 0) (v.i 52 0) (v.i 3 0) (v.l 3 1) (v.i 7 0) (v.r 2) f (qip (v.i 3 0) (v.l 3 1) (v.i 7 0) K)) (fun f v => f (v.i 52 0) (v.r 2)) (fun k v => (fun z0 z1 => k ((v.ui 52 0 z0).ur 2 z1))) (by kernel_rfl) (fun _ _ => (by kernel_rfl)) (fun _ _ _ => (by kernel_rfl)) (fun _ _ _ => (by kernel_rfl)) (fun _ _ => (by kernel_rfl)) (fun _ _ _ _ _ => (by kernel_rfl))
def qe7 (Ae : Int) (Af v1 : List AV) : Option AV :=
  (bif decide (0 ≤ (0 : Int) ∧ (0 : Int) ≤ (v1.length : Int) ∧ (v1.length : Int) * 96 ≤ 281474976710656) then (bif (hd (List.replicate (0 : Int).toNat ((.agg [(.int .i64 (0 : Int)), (.str ([] : List UInt8)), (.int .i64 (0 : Int)), (.int .i64 (0 : Int)), .nils, (.int .i64 (0 : Int)), (.int .i64 (0 : Int)), (.int .i64 (0 : Int)), (.int .i64 (0 : Int))]) : AV)) ((List.replicate (0 : Int).toNat ((.agg [(.int .i64 (0 : Int)), (.str ([] : List UInt8)), (.int .i64 (0 : Int)), (.int .i64 (0 : Int)), .nils, (.int .i64 (0 : Int)), (.int .i64 (0 : Int)), (.int .i64 (0 : Int)), (.int .i64 (0 : Int))]) : AV)).length) && true) then (qlh v1 (v1.length : Int) Ae Af (0 : Int) (fun a2q1 => (bif hd a2q1 a2q1.length then (some (.agg [(.int .i64 Ae), (.fr true 9 a2q1)])) else none)) FU (0 : Int) (List.replicate (0 : Int).toNat ((.agg [(.int .i64 (0 : Int)), (.str ([] : List UInt8)), (.int .i64 (0 : Int)), (.int .i64 (0 : Int)), .nils, (.int .i64 (0 : Int)), (.int .i64 (0 : Int)), (.int .i64 (0 : Int)), (.int .i64 (0 : Int))]) : AV))) else none) else none)
def qbc := hull qe7
theorem qun : qbc = qe7 := qb _
def qcd {R : Type} : EntF Tryd.prog R := entB (nt := 27) (dec := (decT [(.i .i64), (.fr true 9)])) (enc := (qdy (.st [(.i .i64), (.fr true 9)]))) tabOk follows Tryd.func35 [(.cell 4 true 2)] hdeT (.s .z (.s .z (.s (.s .z (.b (.sub [.sel [2, 4, 5, 11, 12, 13] [0, 1, 2]] qrb []))) .z))) S44_ qe7 (fun f v => f (v.i 1 0) (v.l 1 1) (v.l 4 0)) (by kernel_rfl) (by kernel_rfl) (by kernel_rfl) fun _ => (by kernel_rfl)
def qls : Nat := 41
def S45_ : Shp := ⟨[(1, .one (.l .fn)), (5, .one (.own 0)), (8, .one (.l (.sl 9))), (9, .one (.l (.i .i64))), (10, .one (.l (.i .i64)))], [.arr true 9]⟩
def qfl  (K : Ex → Env → Mem → Option (List AV)) := (fun z_a0 => K (.exit 0) (qi [(5, (.own 0 z_a0.length))]) (qj [(some (.arr true 9 z_a0))]))
def qbv  (v1 : AV) (v8 : List AV) (v9 v10 : Int) (a0 : List AV) (next : Int → (List AV) → Option (List AV)) (kx0 : (List AV) → Option (List AV)) : Option (List AV) :=
  (bif (decide (v10 < v9)) then (oB (ixB v8 v10) fun y1 => (bif fitC qc y1.cells then (oB (ap1.ap v1 [(.agg [(.int .i64 (gI y1.cells 0)), (.str (gS y1.cells 1)), (.int .i64 (gI y1.cells 2)), (.int .i64 (gI y1.cells 3)), (.sl 13 (gL y1.cells 4)), (.int .i64 (gI y1.cells 5)), (.int .i64 (gI y1.cells 6)), (.int .i64 (gI y1.cells 7)), (.int .i64 (gI y1.cells 8))])]) fun r2 => (bif r2 then (bif hd a0 a0.length then (bif hd ([(.agg [(.int .i64 (gI y1.cells 0)), (.str (gS y1.cells 1)), (.int .i64 (gI y1.cells 2)), (.int .i64 (gI y1.cells 3)), (.sl 13 (gL y1.cells 4)), (.int .i64 (gI y1.cells 5)), (.int .i64 (gI y1.cells 6)), (.int .i64 (gI y1.cells 7)), (.int .i64 (gI y1.cells 8))])] : List AV) (([(.agg [(.int .i64 (gI y1.cells 0)), (.str (gS y1.cells 1)), (.int .i64 (gI y1.cells 2)), (.int .i64 (gI y1.cells 3)), (.sl 13 (gL y1.cells 4)), (.int .i64 (gI y1.cells 5)), (.int .i64 (gI y1.cells 6)), (.int .i64 (gI y1.cells 7)), (.int .i64 (gI y1.cells 8))])] : List AV).length) then (bif decide ((a0.length + ([(.agg [(.int .i64 (gI y1.cells 0)), (.str (gS y1.cells 1)), (.int .i64 (gI y1.cells 2)), (.int .i64 (gI y1.cells 3)), (.sl 13 (gL y1.cells 4)), (.int .i64 (gI y1.cells 5)), (.int .i64 (gI y1.cells 6)), (.int .i64 (gI y1.cells 7)), (.int .i64 (gI y1.cells 8))])] : List AV).length) * 96 ≤ 140737488355328) then (next (IntKind.i64.wrap (v10 + (1 : Int))) (a0 ++ ([(.agg [(.int .i64 (gI y1.cells 0)), (.str (gS y1.cells 1)), (.int .i64 (gI y1.cells 2)), (.int .i64 (gI y1.cells 3)), (.sl 13 (gL y1.cells 4)), (.int .i64 (gI y1.cells 5)), (.int .i64 (gI y1.cells 6)), (.int .i64 (gI y1.cells 7)), (.int .i64 (gI y1.cells 8))])] : List AV))) else none) else none) else none) else (next (IntKind.i64.wrap (v10 + (1 : Int))) a0))) else none)) else (kx0 a0))
def qbe  (v1 : AV) (v8 : List AV) (v9 : Int) (kx0 : (List AV) → Option (List AV)) : Nat → Int → (List AV) → Option (List AV)
  | 0 => (fun _ _ => none)
  | n + 1 => (fun v10 a0 => qbv v1 v8 v9 v10 a0 (qbe v1 v8 v9 kx0 n) kx0)
def qho := hull (qbe)
theorem qlt : qho = qbe := qb _
def qmv : SubB Tryd.prog (TIof Tryd.prog) 23 0 (kret [.t 4] (decF true 9)) := lpB tabOk follows Tryd.f40 75 (.s .z (.s (.s .z (.v [.sel [5] [0]])) (.s (.b (.s (.r [(0, .p (.etac 12 qc))] []) (.s (.r [(2, .q ap1)] []) .z))) (.v [.sel [1, 5, 8, 9, 10] [0]])))) S45_ (qbe) (fun f v K n => f (v.f 4 0) (v.l 32 0) (v.i 36 0) (qfl K) n) (fun v f K => qbv (v.f 4 0) (v.l 32 0) (v.i 36 0) (v.i 40 0) (v.r 0) f (qfl K)) (fun f v => f (v.i 40 0) (v.r 0)) (fun k v => (fun z0 z1 => k ((v.ui 40 0 z0).ur 0 z1))) (by kernel_rfl) (fun _ _ => (by kernel_rfl)) (fun _ _ _ => (by kernel_rfl)) (fun _ _ _ => (by kernel_rfl)) (fun _ _ => (by kernel_rfl)) (fun _ _ _ _ _ => (by kernel_rfl))
def qc9 (v0 : List AV) (v1 : AV) : Option (List AV) :=
  (bif (hd ([] : List AV) (([] : List AV).length) && true) then (qho v1 v0 (v0.length : Int) (fun a0q1 => (bif hd a0q1 a0q1.length then (some a0q1) else none)) FU (0 : Int) ([] : List AV)) else none)
def qx := hull qc9
theorem qnr : qx = qc9 := qb _
def qbq {R : Type} : EntF Tryd.prog R := entB (nt := 23) (dec := (decF true 9)) (enc := (AV.fr true 9)) tabOk follows Tryd.func40 [.t 4] hdeF (.s .z (.s .z (.s (.s .z (.b (.sub [.own 5 9, .sel [1, 5, 8, 9, 10] [0]] qmv []))) .z))) S40_ qc9 (fun f v => f (v.l 0 0) (v.f 4 0)) (by kernel_rfl) (by kernel_rfl) (by kernel_rfl) fun _ => (by kernel_rfl)
def qqz (v0 v1 : Int) : Option Int :=
  (some (if (4294967295 : Int) < (IntKind.i64.wrap (v1 + v0)) then (4294967295 : Int) else (IntKind.i64.wrap (v1 + v0))))
def qpz := hull qqz
theorem q55 : qpz = qqz := qb _
def qyf {R : Type} : EntF Tryd.prog R := entB (nt := 9) (dec := (decI .i64)) (enc := (AV.int .i64)) tabOk follows Tryd.func43 [.t 4] hdeI (.z) S16_ qqz (fun f v => f (v.i 0 0) (v.i 4 0)) (by kernel_rfl) (by kernel_rfl) (by kernel_rfl) fun _ => (by kernel_rfl)
def qel : Nat := 60
def qjm : Nat := 61
def qjn : Nat := 62
def q56 {R : Type} (vs : List AV) (m : Mem) (K : AV → Mem → Option R) : Option R := qqk 9 96 vs m K
theorem q57 {R : Type} : qms Tryd.prog 64 (q56 (R := R)) := qbb8 (ρ := qws 64 74 75 0 3 4 23 35) tabOk (qban follows "slices.Insert[[]ddi/cache.Entry,ddi/cache.Entry]" (by kernel_rfl) (by kernel_rfl) Tryd.func74 (by kernel_rfl) (by kernel_rfl) (by kernel_rfl) (by kernel_rfl) (by kernel_rfl) (by kernel_rfl) (by kernel_rfl) (by kernel_rfl) (by kernel_rfl) (by kernel_rfl) (by kernel_rfl) (by kernel_rfl) (by kernel_rfl) (by kernel_rfl) (by kernel_rfl) (by kernel_rfl) (by kernel_rfl)) (by kernel_rfl) (by kernel_rfl) (by decide) (by decide)
def qjo : Nat := 65
def q58 {R : Type} (vs : List AV) (m : Mem) (K : AV → Mem → Option R) : Option R := qqj 9 vs m K
theorem q59 {R : Type} : qms Tryd.prog 66 (q58 (R := R)) := qbb7 (ρ := qwr 66 0 3 4 23 35) tabOk (qbam follows "slices.Delete[[]ddi/cache.Entry,ddi/cache.Entry]" (by kernel_rfl) (by kernel_rfl) (by kernel_rfl) (by kernel_rfl) (by kernel_rfl) (by kernel_rfl) (by kernel_rfl) (by kernel_rfl) (by kernel_rfl) (by kernel_rfl) (by kernel_rfl) (by kernel_rfl) (by kernel_rfl) (by kernel_rfl)) (by kernel_rfl) (by decide)
def qoo (x0 : Int) (x1 : List UInt8) (x2 x3 : Int) (x4 : List AV) (x5 x6 x7 x8 : Int) : List AV := [.int .i64 x0, .str x1, .int .i64 x2, .int .i64 x3, .sl 13 x4, .int .i64 x5, .int .i64 x6, .int .i64 x7, .int .i64 x8]
def S46_ : Shp := ⟨[(3, .one (.ptr 0 0)), (4, .cptr qc), (5, .one (.ptr 1 0)), (6, .one (.ptr 2 0)), (7, .cptr [.fn]), (8, .one (.own 3)), (9, .one (.l (.i .i64)))], [.box true [(.l (.i .i64)), (.l (.sl 9))], .box true [(.l (.i .i64))], .box true [(.l (.i .i64)), (.l .nil)], .arr true 9]⟩
def S47_ : Shp := ⟨[(3, .one (.ptr 0 0)), (5, .one (.ptr 1 0)), (6, .one (.ptr 2 0)), (7, .cptr [.fn]), (8, .one (.own 3))], [.box true [(.l (.i .i64)), (.l (.sl 9))], .box true [(.l (.i .i64))], .box true [(.l (.i .i64)), (.l .nil)], .arr true 9]⟩
def S48_ : Shp := ⟨[(3, .one (.ptr 0 0)), (6, .one (.ptr 1 0)), (7, .cptr [.fn]), (8, .one (.own 2)), (10, .one (.l (.i .i64))), (11, .one (.l (.i .i64))), (12, .one (.ptr 3 0)), (48, .one (.own 2)), (49, .one (.l (.i .i64))), (50, .one (.l (.i .i64)))], [.box true [(.l (.i .i64)), (.l (.sl 9))], .box true [(.l (.i .i64)), (.l .nil)], .arr true 9, .box true (lk qc)]⟩
def S49_ : Shp := ⟨[(3, .one (.ptr 0 0)), (6, .one (.ptr 1 0)), (7, .cptr [.fn]), (8, .one (.own 2)), (10, .one (.l (.i .i64))), (48, .one (.own 2)), (49, .one (.l (.i .i64))), (50, .one (.l (.i .i64)))], [.box true [(.l (.i .i64)), (.l (.sl 9))], .box true [(.l (.i .i64)), (.l .nil)], .arr true 9]⟩
def S50_ : Shp := ⟨[(3, .one (.ptr 0 0)), (6, .one (.ptr 1 0)), (7, .cptr [.fn]), (8, .one (.own 2))], [.box true [(.l (.i .i64)), (.l (.sl 9))], .box true [(.l (.i .i64)), (.l .nil)], .arr true 9]⟩
def S51_ : Shp := ⟨[(0, .st [(.l (.i .i64)), (.l (.sl 9))]), (1, .st (lk qc)), (2, .one (.l (.i .i64)))], []⟩
def qx0  (Bl : Int) (Bm : List UInt8) (Bn Bo : Int) (Bp : List AV) (Bq Br Bs Bt : Int) (Bu : AV) (Aa : Int) (Ab : List AV) (Bj Bv : Int) (a3 : List AV) (K : Ex → Env → Mem → Option AV) := (fun z_v9 => K .norm (qi [(3, (.ptr 0 0)), (4, .cptr (qoo Bl Bm Bn Bo Bp Bq Br Bs Bt)), (5, (.ptr 1 0)), (6, (.ptr 2 0)), (7, .cptr [(.fv Bu)]), (8, (.own 3 a3.length)), (9, (.int .i64 z_v9))]) (qj [(some (.box true [(.int .i64 Aa), (.sl 9 Ab)])), (some (.box true [(.int .i64 Bj)])), (some (.box true [(.int .i64 Bv), .nils])), (some (.arr true 9 a3))]))
def qgn  (Bl : Int) (Bm : List UInt8) (Bn Bo : Int) (Bp : List AV) (Bq Br Bs Bt : Int) (Bu : AV) (v9 Aa : Int) (Ab : List AV) (Bj Bv : Int) (a3 : List AV) (kn : Int → Option AV) : Option AV :=
  (bif (decide (v9 < (0 : Int))) then (kn (a3.length : Int)) else (kn v9))
def qlu := hull (qgn)
theorem qx1 : qlu = qgn := qb _
def qze : SubB Tryd.prog (TIof Tryd.prog) 83 0 (kret [(.cell 6 true 2)] (decT [(.i .i64), (.sl 9)])) := jnB tabOk follows Tryd.f42 47 (.s .z (.s (.v [.sel [3, 4, 5, 6, 7, 8, 9] [0, 1, 2, 3]]) (.v [.sel [3, 4, 5, 6, 7, 8, 9] [0, 1, 2, 3]]))) S46_ (qgn) (fun f v K => f (v.i 18 0) (v.s 18 1) (v.i 18 2) (v.i 18 3) (v.l 18 4) (v.i 18 5) (v.i 18 6) (v.i 18 7) (v.i 18 8) (v.f 30 0) (v.i 36 0) (v.i 3 0) (v.l 3 1) (v.i 7 0) (v.i 11 0) (v.r 3) (qx0 (v.i 18 0) (v.s 18 1) (v.i 18 2) (v.i 18 3) (v.l 18 4) (v.i 18 5) (v.i 18 6) (v.i 18 7) (v.i 18 8) (v.f 30 0) (v.i 3 0) (v.l 3 1) (v.i 7 0) (v.i 11 0) (v.r 3) K)) (by kernel_rfl) (fun _ _ => (by kernel_rfl))
def qvl  (Bu : AV) (Aa : Int) (Ab : List AV) (Bv : Int) (K : Ex → Env → Mem → Option AV) := (fun z_a2 => K .norm (qi [(3, (.ptr 0 0)), (6, (.ptr 1 0)), (7, .cptr [(.fv Bu)]), (8, (.own 2 z_a2.length))]) (qj [(some (.box true [(.int .i64 Aa), (.sl 9 Ab)])), (some (.box true [(.int .i64 Bv), .nils])), (some (.arr true 9 z_a2))]))
def qfx  (Bu : AV) (Aa : Int) (Ab : List AV) (Bj Bv : Int) (a3 : List AV) (kn : (List AV) → Option AV) : Option AV :=
  (bif (decide ((a3.length : Int) > Aa)) then (bif hd a3 a3.length then (oB (qx a3 (.func qjo [(.cptr [(.fv Bu)]), (.cptr [(.int .i64 Bj)])])) fun r1 => (kn r1)) else none) else (kn a3))
def qhp := hull (qfx)
theorem qvm : qhp = qfx := qb _
def qx2 : SubB Tryd.prog (TIof Tryd.prog) 83 0 (kret [(.cell 6 true 2)] (decT [(.i .i64), (.sl 9)])) := jnB tabOk follows Tryd.f42 191 (.s .z (.s (.r [(1, .s (.cls 5)), (2, .c qbq.b)] [.sel [3, 6, 7, 8] [0, 2, 4]]) (.v [.sel [3, 6, 7, 8] [0, 2, 3]]))) S47_ (qfx) (fun f v K => f (v.f 30 0) (v.i 3 0) (v.l 3 1) (v.i 7 0) (v.i 11 0) (v.r 3) (qvl (v.f 30 0) (v.i 3 0) (v.l 3 1) (v.i 11 0) K)) (by kernel_rfl) (fun _ _ => (by kernel_rfl))
def qvn  (Bu : AV) (v10 v11 v49 v50 Aa : Int) (Ab : List AV) (Bj : Int) (a2 : List AV) (K : Ex → Env → Mem → Option AV) := (fun z_v72 => K .norm (qi [(3, (.ptr 0 0)), (6, (.ptr 1 0)), (7, .cptr [(.fv Bu)]), (8, (.own 2 a2.length)), (10, (.int .i64 v10)), (11, (.int .i64 v11)), (48, (.own 2 a2.length)), (49, (.int .i64 v49)), (50, (.int .i64 v50)), (72, (.bool z_v72))]) (qj [(some (.box true [(.int .i64 Aa), (.sl 9 Ab)])), (some (.box true [(.int .i64 Bj), .nils])), (some (.arr true 9 a2))]))
def qfy  (Bu : AV) (v10 v11 v49 v50 Aa : Int) (Ab : List AV) (Bj : Int) (a2 : List AV) (Bw : Int) (Bx : List UInt8) (By Bz : Int) (B0 : List AV) (B1 B2 B3 B4 : Int) (kn : Bool → Option AV) : Option AV :=
  (oB (ap1.ap Bu [(.agg [(.int .i64 Bw), (.str Bx), (.int .i64 By), (.int .i64 Bz), (.sl 13 B0), (.int .i64 B1), (.int .i64 B2), (.int .i64 B3), (.int .i64 B4)])]) fun r1 => (bif (!r1) then (bif (decide (v10 < (0 : Int))) then (kn true) else (bif hd a2 a2.length then (bif decide (0 ≤ v10 ∧ v10 < a2.length) then (bif hd a2 a2.length then (bif hd a2 a2.length then (oB (a2[v10.toNat]?) fun y2 => (oB (rdE y2 8 false 1) fun z3 => (bif fitV (.one (.i .i64)) z3 then (kn (decide (B4 < (aI z3)))) else none))) else none) else none) else none) else none)) else (kn false)))
def qp0 := hull (qfy)
theorem qvo : qp0 = qfy := qb _
def qx3 : SubB Tryd.prog (TIof Tryd.prog) 83 0 (kret [(.cell 6 true 2)] (decT [(.i .i64), (.sl 9)])) := jnB tabOk follows Tryd.f42 10900607 (.d [] [(2, .q ap1), (14, .p (.eta 69 (.one (.i .i64))))] [] [.sel [3, 6, 7, 8, 10, 11, 48, 49, 50, 72] [0, 1, 2]]) S48_ (qfy) (fun f v K => f (v.f 30 0) (v.i 40 0) (v.i 44 0) (v.i 196 0) (v.i 200 0) (v.i 3 0) (v.l 3 1) (v.i 7 0) (v.r 2) (v.i 15 0) (v.s 15 1) (v.i 15 2) (v.i 15 3) (v.l 15 4) (v.i 15 5) (v.i 15 6) (v.i 15 7) (v.i 15 8) (qvn (v.f 30 0) (v.i 40 0) (v.i 44 0) (v.i 196 0) (v.i 200 0) (v.i 3 0) (v.l 3 1) (v.i 7 0) (v.r 2) K)) (by kernel_rfl) (fun _ _ => (by kernel_rfl))
def qli  (Bu : AV) (Aa : Int) (Ab : List AV) (Bj : Int) (a2 : List AV) (K : Ex → Env → Mem → Option AV) := (fun z_v10 => K (.exit 2) (qi [(3, (.ptr 0 0)), (6, (.ptr 1 0)), (7, .cptr [(.fv Bu)]), (8, (.own 2 a2.length)), (10, (.int .i64 z_v10))]) (qj [(some (.box true [(.int .i64 Aa), (.sl 9 Ab)])), (some (.box true [(.int .i64 Bj), .nils])), (some (.arr true 9 a2))]))
def qd8  (Bu : AV) (v10 v49 v50 Aa : Int) (Ab : List AV) (Bj : Int) (a2 : List AV) (next : Int → Int → Option AV) (kx2 : Int → Option AV) : Option AV :=
  (bif (decide (v50 < v49)) then (bif hd a2 a2.length then (bif decide (0 ≤ v50 ∧ v50 < a2.length) then (bif hd a2 a2.length then (oB (a2[v50.toNat]?) fun y1 => (oB (rdE y1 0 true 9) fun z2 => (bif fitV (.st qc) z2 then (bif (hd a2 (a2.length) && (hd a2 (a2.length) && true)) then (qp0 Bu v10 v50 v49 v50 Aa Ab Bj a2 (gI z2.cells 0) (gS z2.cells 1) (gI z2.cells 2) (gI z2.cells 3) (gL z2.cells 4) (gI z2.cells 5) (gI z2.cells 6) (gI z2.cells 7) (gI z2.cells 8) (fun v72q3 => (bif v72q3 then (next v50 (IntKind.i64.wrap (v50 + (1 : Int)))) else (next v10 (IntKind.i64.wrap (v50 + (1 : Int))))))) else none) else none))) else none) else none) else none) else (kx2 v10))
def qd9  (Bu : AV) (v49 Aa : Int) (Ab : List AV) (Bj : Int) (a2 : List AV) (kx2 : Int → Option AV) : Nat → Int → Int → Option AV
  | 0 => (fun _ _ => none)
  | n + 1 => (fun v10 v50 => qd8 Bu v10 v49 v50 Aa Ab Bj a2 (qd9 Bu v49 Aa Ab Bj a2 kx2 n) kx2)
def qkq := hull (qd9)
theorem qvp : qkq = qd9 := qb _
def qx4 : SubB Tryd.prog (TIof Tryd.prog) 83 0 (kret [(.cell 6 true 2)] (decT [(.i .i64), (.sl 9)])) := lpB tabOk follows Tryd.f42 152703 (.s .z (.s (.s .z (.v [.sel [3, 6, 7, 8, 10] [0, 1, 2]])) (.s (.b (.s (.r [(2, .p (.eta 54 (.st qc)))] []) (.s (.sub [.sel [3, 6, 7, 8, 10, 11, 12, 48, 49, 50] [0, 1, 2, 3]] qx3 []) .z))) (.v [.sel [3, 6, 7, 8, 10, 48, 49, 50] [0, 1, 2]])))) S49_ (qd9) (fun f v K n => f (v.f 30 0) (v.i 196 0) (v.i 3 0) (v.l 3 1) (v.i 7 0) (v.r 2) (qli (v.f 30 0) (v.i 3 0) (v.l 3 1) (v.i 7 0) (v.r 2) K) n) (fun v f K => qd8 (v.f 30 0) (v.i 40 0) (v.i 196 0) (v.i 200 0) (v.i 3 0) (v.l 3 1) (v.i 7 0) (v.r 2) f (qli (v.f 30 0) (v.i 3 0) (v.l 3 1) (v.i 7 0) (v.r 2) K)) (fun f v => f (v.i 40 0) (v.i 200 0)) (fun k v => (fun z0 z1 => k ((v.ui 40 0 z0).ui 200 0 z1))) (by kernel_rfl) (fun _ _ => (by kernel_rfl)) (fun _ _ _ => (by kernel_rfl)) (fun _ _ _ => (by kernel_rfl)) (fun _ _ => (by kernel_rfl)) (fun _ _ _ _ _ => (by kernel_rfl))
def qlj  (Aa : Int) (Ab : List AV) (Bj : Int) (K : Ex → Env → Mem → Option AV) := (fun z_a2 => K (.exit 0) (qi [(3, (.ptr 0 0)), (6, (.ptr 1 0)), (8, (.own 2 z_a2.length))]) (qj [(some (.box true [(.int .i64 Aa), (.sl 9 Ab)])), (some (.box true [(.int .i64 Bj), .nils])), (some (.arr true 9 z_a2))]))
def qde  (Bu : AV) (Aa : Int) (Ab : List AV) (Bj : Int) (a2 : List AV) (next : (List AV) → Option AV) (kx0 : (List AV) → Option AV) : Option AV :=
  (bif ((decide ((a2.length : Int) > Aa)) && (decide ((a2.length : Int) > (1 : Int)))) then (bif (hd a2 (a2.length) && (hd a2 (a2.length) && true)) then (qkq Bu (a2.length : Int) Aa Ab Bj a2 (fun v10q1 => (bif hd a2 a2.length then (oB (qr0 a2 v10q1 (IntKind.i64.wrap (v10q1 + (1 : Int)))) fun r2 => (next r2)) else none)) FU (-1 : Int) (0 : Int)) else none) else (kx0 a2))
def qb1  (Bu : AV) (Aa : Int) (Ab : List AV) (Bj : Int) (kx0 : (List AV) → Option AV) : Nat → (List AV) → Option AV
  | 0 => (fun _ => none)
  | n + 1 => (fun a2 => qde Bu Aa Ab Bj a2 (qb1 Bu Aa Ab Bj kx0 n) kx0)
def qp1 := hull (qb1)
theorem qvq : qp1 = qb1 := qb _
def qx5 : SubB Tryd.prog (TIof Tryd.prog) 83 0 (kret [(.cell 6 true 2)] (decT [(.i .i64), (.sl 9)])) := lpB tabOk follows Tryd.f42 1151 (.s (.s (.r [(6, .g 3)] []) (.s .z (.v [.sel [3, 6, 8] [0, 1, 2]]))) (.b (.s .z (.s (.s .z (.b (.sub [.sel [3, 6, 7, 8, 10, 48, 49, 50] [0, 1, 2]] qx4 []))) (.r [(4, .r (rB q59))] [.sel [3, 6, 7, 8] [0, 1, 3]]))))) S50_ (qb1) (fun f v K n => f (v.f 30 0) (v.i 3 0) (v.l 3 1) (v.i 7 0) (qlj (v.i 3 0) (v.l 3 1) (v.i 7 0) K) n) (fun v f K => qde (v.f 30 0) (v.i 3 0) (v.l 3 1) (v.i 7 0) (v.r 2) f (qlj (v.i 3 0) (v.l 3 1) (v.i 7 0) K)) (fun f v => f (v.r 2)) (fun k v => (fun z0 => k (v.ur 2 z0))) (by kernel_rfl) (fun _ _ => (by kernel_rfl)) (fun _ _ _ => (by kernel_rfl)) (fun _ _ _ => (by kernel_rfl)) (fun _ _ => (by kernel_rfl)) (fun _ _ _ _ _ => (by kernel_rfl))
def qjc (Ae : Int) (Af : List AV) (Ar : Int) (As : List UInt8) (At Au : Int) (Av : List AV) (Aw Ax Ay Az v2 : Int) : Option AV :=
  (oB (qx Af (.func qjm [(.cptr [(.fv (.func qel [(.cptr [(.int .i64 Ar), (.str As), (.int .i64 At), (.int .i64 Au), (.sl 13 Av), (.int .i64 Aw), (.int .i64 Ax), (.int .i64 Ay), (.int .i64 Az)])]))])])) fun r1 => (bif hd r1 r1.length then (oB (qbh r1 (.func qjn [(.cptr [(.int .i64 Ar), (.str As), (.int .i64 At), (.int .i64 Au), (.sl 13 Av), (.int .i64 Aw), (.int .i64 Ax), (.int .i64 Ay), (.int .i64 Az)])])) fun r2 => (bif (hd r1 (r1.length) && true) then (qlu Ar As At Au Av Aw Ax Ay Az (.func qel [(.cptr [(.int .i64 Ar), (.str As), (.int .i64 At), (.int .i64 Au), (.sl 13 Av), (.int .i64 Aw), (.int .i64 Ax), (.int .i64 Ay), (.int .i64 Az)])]) r2 Ae Af v2 (0 : Int) r1 (fun v9q3 => (bif hd r1 r1.length then (bif hd ([(.agg [(.int .i64 Ar), (.str As), (.int .i64 At), (.int .i64 Au), (.sl 13 Av), (.int .i64 Aw), (.int .i64 Ax), (.int .i64 Ay), (.int .i64 Az)])] : List AV) (([(.agg [(.int .i64 Ar), (.str As), (.int .i64 At), (.int .i64 Au), (.sl 13 Av), (.int .i64 Aw), (.int .i64 Ax), (.int .i64 Ay), (.int .i64 Az)])] : List AV).length) then (oB (qn9 96 r1 v9q3 ([(.agg [(.int .i64 Ar), (.str As), (.int .i64 At), (.int .i64 Au), (.sl 13 Av), (.int .i64 Aw), (.int .i64 Ax), (.int .i64 Ay), (.int .i64 Az)])] : List AV)) fun r4 => (bif (hd r4 (r4.length) && true) then (qhp (.func qel [(.cptr [(.int .i64 Ar), (.str As), (.int .i64 At), (.int .i64 Au), (.sl 13 Av), (.int .i64 Aw), (.int .i64 Ax), (.int .i64 Ay), (.int .i64 Az)])]) Ae Af v2 (0 : Int) r4 (fun a2q5 => (bif (hd a2q5 (a2q5.length) && true) then (qp1 (.func qel [(.cptr [(.int .i64 Ar), (.str As), (.int .i64 At), (.int .i64 Au), (.sl 13 Av), (.int .i64 Aw), (.int .i64 Ax), (.int .i64 Ay), (.int .i64 Az)])]) Ae Af (0 : Int) (fun a2q6 => (bif hd a2q6 a2q6.length then (oB (qbc Ae Af a2q6) fun r7 => (some (.agg [(.int .i64 (gI r7.cells 0)), (.sl 9 (gL r7.cells 1))]))) else none)) FU a2q5) else none))) else none)) else none) else none))) else none)) else none))
def qff := hull qjc
theorem q20 : qff = qjc := qb _
def qt5 {R : Type} : EntF Tryd.prog R := entB (nt := 83) (dec := (decT [(.i .i64), (.sl 9)])) (enc := (qdy (.st [(.i .i64), (.sl 9)]))) tabOk follows Tryd.func42 [(.cell 6 true 2)] hdeT (.s .z (.s (.r [(0, .s (.cls 4))] []) (.s (.r [(2, .s (.cls 7)), (3, .c qbq.b)] []) (.s (.r [(2, .c qb5.b)] []) (.s (.sub [.sel [3, 4, 5, 6, 7, 8, 9] [0, 2, 3, 5]] qze []) (.s (.r [(4, .r (rB q57))] []) (.s (.sub [.sel [3, 5, 6, 7, 8] [0, 1, 2, 5]] qx2 []) (.s (.b (.sub [.sel [3, 6, 7, 8] [0, 1, 2]] qx5 [])) (.s (.r [(2, .k qcd.b)] []) .z))))))))) S51_ qjc (fun f v => f (v.i 1 0) (v.l 1 1) (v.i 5 0) (v.s 5 1) (v.i 5 2) (v.i 5 3) (v.l 5 4) (v.i 5 5) (v.i 5 6) (v.i 5 7) (v.i 5 8) (v.i 8 0)) (by kernel_rfl) (by kernel_rfl) (by kernel_rfl) fun _ => (by kernel_rfl)
def qkr (x0 : List UInt8) (x1 x2 : Int) (x3 : List AV) : List AV := [.str x0, .int .i64 x1, .int .i64 x2, .sl 13 x3]
def S52_ : Shp := ⟨[(2, .one (.l (.i .i64))), (3, .one (.l (.i .i64))), (4, .one (.l (.i .i64))), (5, .one (.ptr 0 0)), (6, .cptr qcw), (10, .one (.ptr 1 0)), (11, .one (.l .fn))], [.box true [(.l (.i .i64)), (.l (.sl 9))], .box true [(.l (.i .i64)), (.l .nil)]]⟩
def S53_ : Shp := ⟨[(0, .st [(.l (.i .i64)), (.l (.sl 9))]), (1, .st (lk qcw)), (2, .one (.l (.i .i64))), (3, .one (.l (.i .i64))), (4, .one (.l (.i .i64)))], []⟩
def q0r  (v2 v3 v4 : Int) (B5 : List UInt8) (B6 B7 : Int) (B8 : List AV) (Aa : Int) (Ab : List AV) (Bj : Int) (K : Ex → Env → Mem → Option AV) := (fun z_v31 => K .norm (qi [(2, (.int .i64 v2)), (3, (.int .i64 v3)), (4, (.int .i64 v4)), (5, (.ptr 0 0)), (6, .cptr (qkr B5 B6 B7 B8)), (10, (.ptr 1 0)), (31, (.bool z_v31))]) (qj [(some (.box true [(.int .i64 Aa), (.sl 9 Ab)])), (some (.box true [(.int .i64 Bj), .nils]))]))
def qid  (v2 v3 v4 : Int) (B5 : List UInt8) (B6 B7 : Int) (B8 : List AV) (v11 : AV) (Aa : Int) (Ab : List AV) (Bj : Int) (kn : Bool → Option AV) : Option AV :=
  (oB (qlo B5 B6 B7 B8) fun r1 => (bif (((!r1) || (decide (v4 < (0 : Int)))) || (decide (v4 > (4294967295 : Int)))) then (kn true) else (oB (qga Aa Ab v2 v4 v11) fun r2 => (kn r2))))
def qop := hull (qid)
theorem q0s : qop = qid := qb _
def q21 : SubB Tryd.prog (TIof Tryd.prog) 55 0 (kret [(.cell 10 true 2)] (decT [(.i .i64), (.sl 9)])) := jnB tabOk follows Tryd.f15 19 (.r [(1, .c qy5.b), (4, .g 2), (8, .g 2), (16, .c qon.b)] [.sel [2, 3, 4, 5, 6, 10, 31] [0, 1]]) S52_ (qid) (fun f v K => f (v.i 8 0) (v.i 12 0) (v.i 16 0) (v.s 26 0) (v.i 26 1) (v.i 26 2) (v.l 26 3) (v.f 44 0) (v.i 3 0) (v.l 3 1) (v.i 7 0) (q0r (v.i 8 0) (v.i 12 0) (v.i 16 0) (v.s 26 0) (v.i 26 1) (v.i 26 2) (v.l 26 3) (v.i 3 0) (v.l 3 1) (v.i 7 0) K)) (by kernel_rfl) (fun _ _ => (by kernel_rfl))
def qmi (Ae : Int) (Af : List AV) (Ar : List UInt8) (As At : Int) (Au : List AV) (v2 v3 v4 : Int) : Option AV :=
  (qop v2 v3 v4 Ar As At Au (.func qh8 [(.cptr [(.str Ar), (.int .i64 As), (.int .i64 At), (.sl 13 Au)])]) Ae Af (0 : Int) (fun v31q1 => (bif v31q1 then (oB (qbc Ae Af Af) fun r2 => (some (.agg [(.int .i64 (gI r2.cells 0)), (.sl 9 (gL r2.cells 1))]))) else (oB (qx Af (.func qls [(.cptr [(.str Ar), (.int .i64 As), (.int .i64 At), (.sl 13 Au)])])) fun r3 => (oB (qpz At v4) fun r4 => (oB (qff Ae r3 (0 : Int) Ar As At Au v2 v3 r4 v4 v4) fun r5 => (some (.agg [(.int .i64 (gI r5.cells 0)), (.sl 9 (gL r5.cells 1))]))))))))
def qcz := hull qmi
theorem q6a : qcz = qmi := qb _
def qgz {R : Type} : EntF Tryd.prog R := entB (nt := 55) (dec := (decT [(.i .i64), (.sl 9)])) (enc := (qdy (.st [(.i .i64), (.sl 9)]))) tabOk follows Tryd.func15 [(.cell 10 true 2)] hdeT (.s .z (.s (.r [(0, .s (.cls 6))] []) (.s (.s (.sub [.sel [2, 3, 4, 5, 6, 10, 11] [0, 2]] q21 []) (.s (.s (.r [(3, .k qcd.b)] []) .z) .z)) (.s (.d [] [(5, .c qbq.b)] [] []) (.s (.d [] [(7, .c qyf.b)] [(0, .k qt5.b)] []) .z))))) S53_ qmi (fun f v => f (v.i 1 0) (v.l 1 1) (v.s 5 0) (v.i 5 1) (v.i 5 2) (v.l 5 3) (v.i 8 0) (v.i 12 0) (v.i 16 0)) (by kernel_rfl) (by kernel_rfl) (by kernel_rfl) fun _ => (by kernel_rfl)
def qlv : Nat := 29
def qlw : Nat := 32
def qlx : Nat := 33
def S54_ : Shp := ⟨[(3, .one (.ptr 0 0)), (4, .cptr [.s, (.i .i64)]), (5, .cptr [(.i .i64)]), (6, .one (.ptr 1 0)), (7, .one (.ptr 2 0)), (9, .one (.l (.i .i64)))], [.box true [(.l (.i .i64)), (.l (.sl 9))], .box true [(.l (.i .i64)), (.l .nil)], .box true [(.l (.i .i64)), (.l .s), (.l (.i .i64)), (.l (.i .i64)), (.l .nil), (.l (.i .i64)), (.l (.i .i64)), (.l (.i .i64)), (.l (.i .i64))]]⟩
def S55_ : Shp := ⟨[(0, .st [(.l (.i .i64)), (.l (.sl 9))]), (1, .st [(.l .s), (.l (.i .i64))]), (2, .one (.l (.i .i64)))], []⟩
def qnd : AV → Option (AV × AV × Bool) := decN [(.st [(.i .i64), (.sl 9)]), (.st [(.i .i64), .s, (.i .i64), (.i .i64), (.sl 13), (.i .i64), (.i .i64), (.i .i64), (.i .i64)]), (.one .b)] fun z => ((gC (tpL z) 0), (gC (tpL z) 1), aB (gC (tpL z) 2))
def q0t  (Bl : List UInt8) (Bm B9 Aa : Int) (Ab : List AV) (Bj Bv : Int) (Ca : List UInt8) (Cb Cc Cd Ce Cf Cg : Int) (K : Ex → Env → Mem → Option (AV × AV × Bool)) := (fun z_v9 => K .norm (qi [(3, (.ptr 0 0)), (4, .cptr [(.str Bl), (.int .i64 Bm)]), (5, .cptr [(.int .i64 B9)]), (6, (.ptr 1 0)), (7, (.ptr 2 0)), (9, (.int .i64 z_v9))]) (qj [(some (.box true [(.int .i64 Aa), (.sl 9 Ab)])), (some (.box true [(.int .i64 Bj), .nils])), (some (.box true [(.int .i64 Bv), (.str Ca), (.int .i64 Cb), (.int .i64 Cc), .nils, (.int .i64 Cd), (.int .i64 Ce), (.int .i64 Cf), (.int .i64 Cg)]))]))
def qie  (Bl : List UInt8) (Bm B9 v9 Aa : Int) (Ab : List AV) (Bj Bv : Int) (Ca : List UInt8) (Cb Cc Cd Ce Cf Cg : Int) (kn : Int → Option (AV × AV × Bool)) : Option (AV × AV × Bool) :=
  (bif (decide (v9 < (0 : Int))) then (oB (qbh Ab (.func qlw [(.cptr [(.int .i64 B9)]), (.cptr [(.str Bl), (.int .i64 Bm)])])) fun r1 => (kn r1)) else (kn v9))
def qks := hull (qie)
theorem q0u : qks = qie := qb _
def q23 : SubB Tryd.prog (TIof Tryd.prog) 57 0 (kret [(.cell 6 true 2), (.cell 7 true 9), .t 8] qnd) := jnB tabOk follows Tryd.f12 11 (.s .z (.s (.r [(3, .c qb5.b)] [.sel [3, 4, 5, 6, 7, 9] [0, 1, 2]]) (.v [.sel [3, 4, 5, 6, 7, 9] [0, 1, 2]]))) S54_ (qie) (fun f v K => f (v.s 18 0) (v.i 18 1) (v.i 22 0) (v.i 36 0) (v.i 3 0) (v.l 3 1) (v.i 7 0) (v.i 11 0) (v.s 11 1) (v.i 11 2) (v.i 11 3) (v.i 11 5) (v.i 11 6) (v.i 11 7) (v.i 11 8) (q0t (v.s 18 0) (v.i 18 1) (v.i 22 0) (v.i 3 0) (v.l 3 1) (v.i 7 0) (v.i 11 0) (v.s 11 1) (v.i 11 2) (v.i 11 3) (v.i 11 5) (v.i 11 6) (v.i 11 7) (v.i 11 8) K)) (by kernel_rfl) (fun _ _ => (by kernel_rfl))
def qzf  (B9 Aa : Int) (Ab : List AV) (Bj Bv : Int) (Ca : List UInt8) (Cb Cc Cd Ce Cf Cg : Int) (K : Ex → Env → Mem → Option (AV × AV × Bool)) := (fun z_v9 => K .norm (qi [(3, (.ptr 0 0)), (5, .cptr [(.int .i64 B9)]), (6, (.ptr 1 0)), (7, (.ptr 2 0)), (9, (.int .i64 z_v9))]) (qj [(some (.box true [(.int .i64 Aa), (.sl 9 Ab)])), (some (.box true [(.int .i64 Bj), .nils])), (some (.box true [(.int .i64 Bv), (.str Ca), (.int .i64 Cb), (.int .i64 Cc), .nils, (.int .i64 Cd), (.int .i64 Ce), (.int .i64 Cf), (.int .i64 Cg)]))]))
def qhq  (Bl : List UInt8) (Bm B9 v9 Aa : Int) (Ab : List AV) (Bj Bv : Int) (Ca : List UInt8) (Cb Cc Cd Ce Cf Cg : Int) (kn : Int → Option (AV × AV × Bool)) : Option (AV × AV × Bool) :=
  (bif (decide (v9 < (0 : Int))) then (oB (qbh Ab (.func qlx [(.cptr [(.int .i64 B9)]), (.cptr [(.str Bl), (.int .i64 Bm)])])) fun r1 => (kn r1)) else (kn v9))
def qjd := hull (qhq)
theorem qzg : qjd = qhq := qb _
def q0v : SubB Tryd.prog (TIof Tryd.prog) 57 0 (kret [(.cell 6 true 2), (.cell 7 true 9), .t 8] qnd) := jnB tabOk follows Tryd.f12 23 (.s .z (.s (.r [(3, .c qb5.b)] [.sel [3, 5, 6, 7, 9] [0, 1, 2]]) (.v [.sel [3, 5, 6, 7, 9] [0, 1, 2]]))) S54_ (qhq) (fun f v K => f (v.s 18 0) (v.i 18 1) (v.i 22 0) (v.i 36 0) (v.i 3 0) (v.l 3 1) (v.i 7 0) (v.i 11 0) (v.s 11 1) (v.i 11 2) (v.i 11 3) (v.i 11 5) (v.i 11 6) (v.i 11 7) (v.i 11 8) (qzf (v.i 22 0) (v.i 3 0) (v.l 3 1) (v.i 7 0) (v.i 11 0) (v.s 11 1) (v.i 11 2) (v.i 11 3) (v.i 11 5) (v.i 11 6) (v.i 11 7) (v.i 11 8) K)) (by kernel_rfl) (fun _ _ => (by kernel_rfl))
def qmj (Ae : Int) (Af : List AV) (Ar : List UInt8) (As v2 : Int) : Option (AV × AV × Bool) :=
  (oB (qbh Af (.func qlv [(.cptr [(.int .i64 v2)]), (.cptr [(.str Ar), (.int .i64 As)])])) fun r1 => (qks Ar As v2 r1 Ae Af (0 : Int) (0 : Int) ([] : List UInt8) (0 : Int) (0 : Int) (0 : Int) (0 : Int) (0 : Int) (0 : Int) (fun v9q2 => (qjd Ar As v2 v9q2 Ae Af (0 : Int) (0 : Int) ([] : List UInt8) (0 : Int) (0 : Int) (0 : Int) (0 : Int) (0 : Int) (0 : Int) (fun v9q3 => (oB (qbc Ae Af Af) fun r4 => (bif (decide (v9q3 < (0 : Int))) then (bif hd (gL r4.cells 1) ((gL r4.cells 1).length) then (some ((.agg [(.int .i64 (gI r4.cells 0)), (.sl 9 (gL r4.cells 1))]), (.agg [(.int .i64 (0 : Int)), (.str ([] : List UInt8)), (.int .i64 (0 : Int)), (.int .i64 (0 : Int)), (.sl 13 ([] : List AV)), (.int .i64 (0 : Int)), (.int .i64 (0 : Int)), (.int .i64 (0 : Int)), (.int .i64 (0 : Int))]), false)) else none) else (bif hd (gL r4.cells 1) ((gL r4.cells 1).length) then (bif decide (0 ≤ v9q3 ∧ v9q3 < ((gL r4.cells 1).length)) then (bif hd (gL r4.cells 1) ((gL r4.cells 1).length) then (bif hd (gL r4.cells 1) ((gL r4.cells 1).length) then (oB ((gL r4.cells 1)[v9q3.toNat]?) fun y5 => (oB (putE y5 8 1 [(.int .i64 v2)]) fun z6 => (bif hd ((gL r4.cells 1).set v9q3.toNat z6) ((gL r4.cells 1).length) then (bif decide (0 ≤ v9q3 ∧ v9q3 < ((gL r4.cells 1).length)) then (bif hd ((gL r4.cells 1).set v9q3.toNat z6) ((gL r4.cells 1).length) then (oB (((gL r4.cells 1).set v9q3.toNat z6)[v9q3.toNat]?) fun y7 => (oB (rdE y7 0 true 9) fun z8 => (bif fitV (.st qc) z8 then (oB (qe6 (gI z8.cells 0) (gS z8.cells 1) (gI z8.cells 2) (gI z8.cells 3) (gL z8.cells 4) (gI z8.cells 5) (gI z8.cells 6) (gI z8.cells 7) (gI z8.cells 8)) fun r9 => (bif hd ((gL r4.cells 1).set v9q3.toNat z6) ((gL r4.cells 1).length) then (some ((.agg [(.int .i64 (gI r4.cells 0)), (.sl 9 ((gL r4.cells 1).set v9q3.toNat z6))]), (.agg [(.int .i64 (gI r9.cells 0)), (.str (gS r9.cells 1)), (.int .i64 (gI r9.cells 2)), (.int .i64 (IntKind.i64.wrap ((gI r9.cells 7) - (if (0 : Int) > v2 then (0 : Int) else v2)))), (.sl 13 (gL r9.cells 4)), (.int .i64 (gI r9.cells 5)), (.int .i64 (gI r9.cells 6)), (.int .i64 (gI r9.cells 7)), (.int .i64 (gI r9.cells 8))]), true)) else none)) else none))) else none) else none) else none))) else none) else none) else none) else none))))))))
def qd0 := hull qmj
theorem q6b : qd0 = qmj := qb _
def qg0 {R : Type} : EntF Tryd.prog R := entB (nt := 57) (dec := qnd) (enc := (fun r => .tup [qdy (.st [(.i .i64), (.sl 9)]) r.1, qdy (.st [(.i .i64), .s, (.i .i64), (.i .i64), (.sl 13), (.i .i64), (.i .i64), (.i .i64), (.i .i64)]) r.2.1, .bool r.2.2])) tabOk follows Tryd.func12 [(.cell 6 true 2), (.cell 7 true 9), .t 8] (hdeN fun _ => rfl) (.s .z (.s (.r [(2, .s (.cls 4)), (2, .s (.cls 5)), (3, .c qb5.b)] []) (.s (.sub [.sel [3, 4, 5, 6, 7, 9] [0, 3, 4]] q23 []) (.s (.sub [.sel [3, 4, 5, 6, 7, 9] [0, 1, 2]] q0v []) (.s (.r [(3, .c qcd.b)] []) (.s (.s .z (.s (.s .z (.v [.snapb 1, .nilc 2 4 13])) .z)) (.s .z (.s (.r [(4, .p (.eta 46 (.st qc))), (5, .k qqx.b)] []) (.s .z (.s .z (.v [.snapb 1]))))))))))) S55_ qmj (fun f v => f (v.i 1 0) (v.l 1 1) (v.s 5 0) (v.i 5 1) (v.i 8 0)) (by kernel_rfl) (by kernel_rfl) (by kernel_rfl) fun _ => (by kernel_rfl)
def qp2 : Nat := 44
def qp3 : Nat := 45
def qkt : Nat := 46
def qhr : Nat := 47
def S56_ : Shp := ⟨[(2, .one (.l .b)), (3, .one (.l (.i .i64))), (4, .one (.l (.i .i64))), (5, .one (.l (.i .i64))), (6, .one (.l (.i .i64))), (7, .one (.ptr 0 0)), (8, .one (.ptr 1 0)), (14, .one (.ptr 2 0))], [.box true [(.l (.i .i64)), (.l (.sl 9))], .box true [(.l .s), (.l (.i .i64))], .box true [(.l (.i .i64)), (.l .nil)]]⟩
def S57_ : Shp := ⟨[(2, .one (.l .b)), (4, .one (.l (.i .i64))), (6, .one (.l (.i .i64))), (7, .one (.ptr 0 0)), (8, .cptr [.s, (.i .i64)]), (14, .one (.ptr 1 0)), (15, .one (.ptr 2 0)), (16, .one (.l .fn)), (17, .one (.ptr 3 0))], [.box true [(.l (.i .i64)), (.l (.sl 9))], .box true [(.l (.i .i64)), (.l .nil)], .box true [(.l (.i .i64)), (.l .s), (.l (.i .i64)), (.l (.i .i64)), (.l .nil), (.l (.i .i64)), (.l (.i .i64)), (.l (.i .i64)), (.l (.i .i64))], .box true [(.l .fn)]]⟩
def S58_ : Shp := ⟨[(0, .st [(.l (.i .i64)), (.l (.sl 9))]), (1, .st [(.l .s), (.l (.i .i64))]), (2, .one (.l .b)), (3, .one (.l (.i .i64))), (4, .one (.l (.i .i64))), (5, .one (.l (.i .i64))), (6, .one (.l (.i .i64)))], []⟩
def qzh  (v2 : Bool) (v3 v4 v5 v6 Aa : Int) (Ab : List AV) (Bj : List UInt8) (Ch Bv : Int) (K : Ex → Env → Mem → Option AV) := (fun z_v47 => K .norm (qi [(2, (.bool v2)), (3, (.int .i64 v3)), (4, (.int .i64 v4)), (5, (.int .i64 v5)), (6, (.int .i64 v6)), (7, (.ptr 0 0)), (8, (.ptr 1 0)), (14, (.ptr 2 0)), (47, (.bool z_v47))]) (qj [(some (.box true [(.int .i64 Aa), (.sl 9 Ab)])), (some (.box true [(.str Bj), (.int .i64 Ch)])), (some (.box true [(.int .i64 Bv), .nils]))]))
def qhs  (v2 : Bool) (v3 v4 v5 v6 Aa : Int) (Ab : List AV) (Bj : List UInt8) (Ch Bv : Int) (kn : Bool → Option AV) : Option AV :=
  (oB (qbu Bj) fun r1 => (bif (((((!r1) || (decide (v3 < (1 : Int)))) || (decide (v3 > (2147483647 : Int)))) || (decide (v6 < (0 : Int)))) || (decide (v6 > (4294967295 : Int)))) then (kn true) else (bif (!v2) then (kn (decide (Ch < (1 : Int)))) else (kn false))))
def qne := hull (qhs)
theorem qzi : qne = qhs := qb _
def q0w : SubB Tryd.prog (TIof Tryd.prog) 93 0 (kret [(.cell 14 true 2)] (decT [(.i .i64), (.sl 9)])) := jnB tabOk follows Tryd.f16 9 (.r [(2, .c qch.b), (5, .g 2), (9, .g 2), (13, .g 2), (17, .g 2)] [.sel [2, 3, 4, 5, 6, 7, 8, 14, 47] [0, 1, 2]]) S56_ (qhs) (fun f v K => f (v.b 8 0) (v.i 12 0) (v.i 16 0) (v.i 20 0) (v.i 24 0) (v.i 3 0) (v.l 3 1) (v.s 7 0) (v.i 7 1) (v.i 11 0) (qzh (v.b 8 0) (v.i 12 0) (v.i 16 0) (v.i 20 0) (v.i 24 0) (v.i 3 0) (v.l 3 1) (v.s 7 0) (v.i 7 1) (v.i 11 0) K)) (by kernel_rfl) (fun _ _ => (by kernel_rfl))
def qx6  (v4 v6 Aa : Int) (Ab : List AV) (Bj : Int) (Ca : List UInt8) (Cc Cd Ce Cf Cg : Int) (K : Ex → Env → Mem → Option AV) := (fun z_v16 z_b2_0 z_b2_2 z_b3_0 => K .norm (qi [(4, (.int .i64 v4)), (6, (.int .i64 v6)), (7, (.ptr 0 0)), (14, (.ptr 1 0)), (15, (.ptr 2 0)), (16, (.fv z_v16)), (17, (.ptr 3 0))]) (qj [(some (.box true [(.int .i64 Aa), (.sl 9 Ab)])), (some (.box true [(.int .i64 Bj), .nils])), (some (.box true [(.int .i64 z_b2_0), (.str Ca), (.int .i64 z_b2_2), (.int .i64 Cc), .nils, (.int .i64 Cd), (.int .i64 Ce), (.int .i64 Cf), (.int .i64 Cg)])), (some (.box true [(.fv z_b3_0)]))]))
def qgo  (v2 : Bool) (v4 v6 : Int) (Ci : List UInt8) (Cj : Int) (v16 : AV) (Aa : Int) (Ab : List AV) (Bj Bv : Int) (Ca : List UInt8) (Cb Cc Cd Ce Cf Cg : Int) (Bw : AV) (kn : AV → Int → Int → AV → Option AV) : Option AV :=
  (bif v2 then (kn (.func qkt [(.cptr [(.str Ci), (.int .i64 Cj)])]) (2 : Int) (0 : Int) (.func qkt [(.cptr [(.str Ci), (.int .i64 Cj)])])) else (kn v16 Bv Cb Bw))
def qrc := hull (qgo)
theorem qx7 : qrc = qgo := qb _
def qzj : SubB Tryd.prog (TIof Tryd.prog) 93 0 (kret [(.cell 14 true 2)] (decT [(.i .i64), (.sl 9)])) := jnB tabOk follows Tryd.f16 95 (.s .z (.s (.s .z (.s .z (.v [.sel [4, 6, 7, 14, 15, 16, 17] [0, 1, 2, 3]]))) (.v [.sel [4, 6, 7, 14, 15, 16, 17] [0, 1, 2, 3]]))) S57_ (qgo) (fun f v K => f (v.b 8 0) (v.i 16 0) (v.i 24 0) (v.s 34 0) (v.i 34 1) (v.f 64 0) (v.i 3 0) (v.l 3 1) (v.i 7 0) (v.i 11 0) (v.s 11 1) (v.i 11 2) (v.i 11 3) (v.i 11 5) (v.i 11 6) (v.i 11 7) (v.i 11 8) (v.f 15 0) (qx6 (v.i 16 0) (v.i 24 0) (v.i 3 0) (v.l 3 1) (v.i 7 0) (v.s 11 1) (v.i 11 3) (v.i 11 5) (v.i 11 6) (v.i 11 7) (v.i 11 8) K)) (by kernel_rfl) (fun _ _ => (by kernel_rfl))
def qku (Ae : Int) (Af : List AV) (Ar : List UInt8) (As : Int) (v2 : Bool) (v3 v4 v5 v6 : Int) : Option AV :=
  (qne v2 v3 v4 v5 v6 Ae Af Ar As (0 : Int) (fun v47q1 => (bif v47q1 then (oB (qbc Ae Af Af) fun r2 => (some (.agg [(.int .i64 (gI r2.cells 0)), (.sl 9 (gL r2.cells 1))]))) else (oB (qpz v3 v6) fun r3 => (qrc v2 v4 v6 Ar As (.func qp2 [(.cptr [(.str Ar), (.int .i64 As)])]) Ae Af (0 : Int) (1 : Int) Ar As v3 v4 v5 r3 v6 (.func qp3 [(.cptr [(.str Ar), (.int .i64 As)])]) (fun v16q4 b2_0q5 b2_2q6 b3_0q7 => (oB (qga Ae Af v4 v6 v16q4) fun r8 => (bif r8 then (oB (qbc Ae Af Af) fun r9 => (some (.agg [(.int .i64 (gI r9.cells 0)), (.sl 9 (gL r9.cells 1))]))) else (oB (qx Af (.func qhr [(.cptr [(.fv b3_0q7)])])) fun r10 => (oB (qff Ae r10 b2_0q5 Ar b2_2q6 v3 ([] : List AV) v4 v5 r3 v6 v6) fun r11 => (some (.agg [(.int .i64 (gI r11.cells 0)), (.sl 9 (gL r11.cells 1))]))))))))))))
def qgp := hull qku
theorem q5f : qgp = qku := qb _
def qoq {R : Type} : EntF Tryd.prog R := entB (nt := 93) (dec := (decT [(.i .i64), (.sl 9)])) (enc := (qdy (.st [(.i .i64), (.sl 9)]))) tabOk follows Tryd.func16 [(.cell 14 true 2)] hdeT (.s .z (.s (.s (.sub [.sel [2, 3, 4, 5, 6, 7, 8, 14] [0, 1, 2]] q0w []) (.s (.s (.r [(3, .k qcd.b)] []) .z) .z)) (.s (.d [] [(10, .c qyf.b)] [] []) (.s (.r [(0, .s (.cls 8))] []) (.s .z (.s (.sub [.sel [2, 4, 6, 7, 8, 14, 15, 16, 17] [0, 2, 3, 4]] qzj []) (.s (.s (.r [(4, .c qon.b)] []) (.s (.s (.r [(3, .k qcd.b)] []) .z) .z)) (.s (.dv [.cls 17] [] [(5, .c qbq.b)] [] []) (.s (.r [(3, .k qt5.b)] []) .z))))))))) S58_ qku (fun f v => f (v.i 1 0) (v.l 1 1) (v.s 5 0) (v.i 5 1) (v.b 8 0) (v.i 12 0) (v.i 16 0) (v.i 20 0) (v.i 24 0)) (by kernel_rfl) (by kernel_rfl) (by kernel_rfl) fun _ => (by kernel_rfl)
def S59_ : Shp := ⟨[(1, .one (.l .s)), (2, .one (.l (.i .i64))), (3, .one (.ptr 0 0)), (6, .one (.ptr 1 0)), (8, .one (.l (.i .i64))), (9, .one (.l (.i .i64))), (10, .one (.l (.i .i64))), (11, .one (.ptr 2 0)), (15, .one (.l (.sl 9))), (16, .one (.l (.i .i64))), (17, .one (.l (.i .i64)))], [.box true [(.l (.i .i64)), (.l (.sl 9))], .box true [(.l .s), (.l (.i .i64)), (.l (.i .i64)), (.l .nil)], .box true (lk qc)]⟩
def S60_ : Shp := ⟨[(1, .one (.l .s)), (2, .one (.l (.i .i64))), (3, .one (.ptr 0 0)), (6, .one (.ptr 1 0)), (8, .one (.l (.i .i64))), (9, .one (.l (.i .i64))), (15, .one (.l (.sl 9))), (16, .one (.l (.i .i64))), (17, .one (.l (.i .i64)))], [.box true [(.l (.i .i64)), (.l (.sl 9))], .box true [(.l .s), (.l (.i .i64)), (.l (.i .i64)), (.l .nil)]]⟩
def S61_ : Shp := ⟨[(0, .st [(.l (.i .i64)), (.l (.sl 9))]), (1, .one (.l .s)), (2, .one (.l (.i .i64)))], []⟩
def qir : AV → Option (AV × Bool) := decN [(.st [.s, (.i .i64), (.i .i64), (.sl 13)]), (.one .b)] fun z => ((gC (tpL z) 0), aB (gC (tpL z) 1))
def qsl  (v1 : List UInt8) (v2 v8 v9 v10 : Int) (v15 : List AV) (v16 v17 Aa : Int) (Ab : List AV) (Bj : List UInt8) (Ch Ck Bv : Int) (Ca : List UInt8) (Cb Cc : Int) (Cl : List AV) (Cd Ce Cf Cg : Int) (K : Ex → Env → Mem → Option (AV × Bool)) := (fun z_v44 => K .norm (qi [(1, (.str v1)), (2, (.int .i64 v2)), (3, (.ptr 0 0)), (6, (.ptr 1 0)), (8, (.int .i64 v8)), (9, (.int .i64 v9)), (10, (.int .i64 v10)), (11, (.ptr 2 0)), (15, (.sl 9 v15)), (16, (.int .i64 v16)), (17, (.int .i64 v17)), (44, (.bool z_v44))]) (qj [(some (.box true [(.int .i64 Aa), (.sl 9 Ab)])), (some (.box true [(.str Bj), (.int .i64 Ch), (.int .i64 Ck), .nils])), (some (.box true (qoo Bv Ca Cb Cc Cl Cd Ce Cf Cg)))]))
def qhb  (v1 : List UInt8) (v2 v8 v9 v10 : Int) (v15 : List AV) (v16 v17 Aa : Int) (Ab : List AV) (Bj : List UInt8) (Ch Ck Bv : Int) (Ca : List UInt8) (Cb Cc : Int) (Cl : List AV) (Cd Ce Cf Cg : Int) (kn : Bool → Option (AV × Bool)) : Option (AV × Bool) :=
  (bif ((Bv != (0 : Int)) || (Cb != (2 : Int))) then (kn true) else (oB (qbf Bv Ca Cb Cc Cl Cd Ce Cf Cg v2) fun r1 => (bif (!r1) then (kn true) else (oB (qiv v1 Ca) fun r2 => (kn (!r2))))))
def qis := hull (qhb)
theorem qsm : qis = qhb := qb _
def qup : SubB Tryd.prog (TIof Tryd.prog) 74 0 (kret [(.cell 6 true 4), .t 7] qir) := jnB tabOk follows Tryd.f18 9419 (.r [(4, .g 4), (12, .c qb3.b), (20, .c qt1.b)] [.sel [1, 2, 3, 6, 8, 9, 10, 11, 15, 16, 17, 44] [0, 1, 2]]) S59_ (qhb) (fun f v K => f (v.s 4 0) (v.i 8 0) (v.i 32 0) (v.i 36 0) (v.i 40 0) (v.l 60 0) (v.i 64 0) (v.i 68 0) (v.i 3 0) (v.l 3 1) (v.s 7 0) (v.i 7 1) (v.i 7 2) (v.i 11 0) (v.s 11 1) (v.i 11 2) (v.i 11 3) (v.l 11 4) (v.i 11 5) (v.i 11 6) (v.i 11 7) (v.i 11 8) (qsl (v.s 4 0) (v.i 8 0) (v.i 32 0) (v.i 36 0) (v.i 40 0) (v.l 60 0) (v.i 64 0) (v.i 68 0) (v.i 3 0) (v.l 3 1) (v.s 7 0) (v.i 7 1) (v.i 7 2) (v.i 11 0) (v.s 11 1) (v.i 11 2) (v.i 11 3) (v.l 11 4) (v.i 11 5) (v.i 11 6) (v.i 11 7) (v.i 11 8) K)) (by kernel_rfl) (fun _ _ => (by kernel_rfl))
def qkv  (v2 Aa : Int) (Ab : List AV) (Bj : List UInt8) (Ch Ck : Int) (K : Ex → Env → Mem → Option (AV × Bool)) := (fun z_v8 => K (.exit 0) (qi [(2, (.int .i64 v2)), (3, (.ptr 0 0)), (6, (.ptr 1 0)), (8, (.int .i64 z_v8))]) (qj [(some (.box true [(.int .i64 Aa), (.sl 9 Ab)])), (some (.box true [(.str Bj), (.int .i64 Ch), (.int .i64 Ck), .nils]))]))
def qd1  (v1 : List UInt8) (v2 v8 v9 : Int) (v15 : List AV) (v16 v17 Aa : Int) (Ab : List AV) (Bj : List UInt8) (Ch Ck : Int) (next : Int → Int → Int → Option (AV × Bool)) (kx0 : Int → Option (AV × Bool)) : Option (AV × Bool) :=
  (bif (decide (v17 < v16)) then (oB (ixB v15 v17) fun y1 => (bif fitC qc y1.cells then (qis v1 v2 v8 v9 v17 v15 v16 v17 Aa Ab Bj Ch Ck (gI y1.cells 0) (gS y1.cells 1) (gI y1.cells 2) (gI y1.cells 3) (gL y1.cells 4) (gI y1.cells 5) (gI y1.cells 6) (gI y1.cells 7) (gI y1.cells 8) (fun v44q2 => (bif v44q2 then (next v8 v9 (IntKind.i64.wrap (v17 + (1 : Int)))) else (oB (qf9 (gS y1.cells 1)) fun r3 => (bif (decide ((r3.length : Int) > v9)) then (next v17 (r3.length : Int) (IntKind.i64.wrap (v17 + (1 : Int)))) else (next v8 v9 (IntKind.i64.wrap (v17 + (1 : Int))))))))) else none)) else (kx0 v8))
def qd2  (v1 : List UInt8) (v2 : Int) (v15 : List AV) (v16 Aa : Int) (Ab : List AV) (Bj : List UInt8) (Ch Ck : Int) (kx0 : Int → Option (AV × Bool)) : Nat → Int → Int → Int → Option (AV × Bool)
  | 0 => (fun _ _ _ => none)
  | n + 1 => (fun v8 v9 v17 => qd1 v1 v2 v8 v9 v15 v16 v17 Aa Ab Bj Ch Ck (qd2 v1 v2 v15 v16 Aa Ab Bj Ch Ck kx0 n) kx0)
def qor := hull (qd2)
theorem quq : qor = qd2 := qb _
def qvr : SubB Tryd.prog (TIof Tryd.prog) 74 0 (kret [(.cell 6 true 4), .t 7] qir) := lpB tabOk follows Tryd.f18 75 (.s .z (.s (.s .z (.v [.sel [2, 3, 6, 8] [0, 1]])) (.s (.b (.s (.r [(1, .p (.etac 20 qc))] []) (.s (.s (.sub [.sel [1, 2, 3, 6, 8, 9, 10, 11, 15, 16, 17] [0, 1, 2]] qup []) .z) (.s (.r [(3, .k qlp.b)] []) .z)))) (.v [.sel [1, 2, 3, 6, 8, 9, 15, 16, 17] [0, 1]])))) S60_ (qd2) (fun f v K n => f (v.s 4 0) (v.i 8 0) (v.l 60 0) (v.i 64 0) (v.i 3 0) (v.l 3 1) (v.s 7 0) (v.i 7 1) (v.i 7 2) (qkv (v.i 8 0) (v.i 3 0) (v.l 3 1) (v.s 7 0) (v.i 7 1) (v.i 7 2) K) n) (fun v f K => qd1 (v.s 4 0) (v.i 8 0) (v.i 32 0) (v.i 36 0) (v.l 60 0) (v.i 64 0) (v.i 68 0) (v.i 3 0) (v.l 3 1) (v.s 7 0) (v.i 7 1) (v.i 7 2) f (qkv (v.i 8 0) (v.i 3 0) (v.l 3 1) (v.s 7 0) (v.i 7 1) (v.i 7 2) K)) (fun f v => f (v.i 32 0) (v.i 36 0) (v.i 68 0)) (fun k v => (fun z0 z1 z2 => k (((v.ui 32 0 z0).ui 36 0 z1).ui 68 0 z2))) (by kernel_rfl) (fun _ _ => (by kernel_rfl)) (fun _ _ _ => (by kernel_rfl)) (fun _ _ _ => (by kernel_rfl)) (fun _ _ => (by kernel_rfl)) (fun _ _ _ _ _ => (by kernel_rfl))
def qht (Ae : Int) (Af : List AV) (v1 : List UInt8) (v2 : Int) : Option (AV × Bool) :=
  (qor v1 v2 Af (Af.length : Int) Ae Af ([] : List UInt8) (0 : Int) (0 : Int) (fun v8q1 => (bif (decide (v8q1 < (0 : Int))) then (some ((.agg [(.str ([] : List UInt8)), (.int .i64 (0 : Int)), (.int .i64 (0 : Int)), (.sl 13 ([] : List AV))]), false)) else (oB (ixB Af v8q1) fun y2 => (bif fitC qc y2.cells then (oB (qe6 (gI y2.cells 0) (gS y2.cells 1) (gI y2.cells 2) (gI y2.cells 3) (gL y2.cells 4) (gI y2.cells 5) (gI y2.cells 6) (gI y2.cells 7) (gI y2.cells 8)) fun r3 => (some ((.agg [(.str (gS r3.cells 1)), (.int .i64 (gI r3.cells 2)), (.int .i64 (IntKind.i64.wrap ((gI r3.cells 7) - (if (0 : Int) > v2 then (0 : Int) else v2)))), (.sl 13 (gL r3.cells 4))]), true))) else none)))) FU (-1 : Int) (-1 : Int) (0 : Int))
def qje := hull qht
theorem qzk : qje = qht := qb _
def q0x {R : Type} : EntF Tryd.prog R := entB (nt := 74) (dec := qir) (enc := (fun r => .tup [qdy (.st [.s, (.i .i64), (.i .i64), (.sl 13)]) r.1, .bool r.2])) tabOk follows Tryd.func18 [(.cell 6 true 4), .t 7] (hdeN fun _ => rfl) (.s .z (.s .z (.s (.s .z (.b (.sub [.sel [1, 2, 3, 6, 8, 9, 15, 16, 17] [0, 1]] qvr []))) (.s (.s .z (.s (.s .z (.v [.nilc 1 3 13])) .z)) (.s (.r [(3, .p (.etac 62 qc)), (5, .k qqx.b)] []) .z))))) S61_ qht (fun f v => f (v.i 1 0) (v.l 1 1) (v.s 4 0) (v.i 8 0)) (by kernel_rfl) (by kernel_rfl) (by kernel_rfl) fun _ => (by kernel_rfl)
def qjp : Nat := 49
def S62_ : Shp := ⟨[(0, .st [(.l (.i .i64)), (.l (.sl 9))]), (1, .one (.l .s))], []⟩
def qjf (Ae : Int) (Af : List AV) (v1 : List UInt8) : Option AV :=
  (oB (qx Af (.func qjp [(.cptr [(.str v1)])])) fun r1 => (oB (qbc Ae Af r1) fun r2 => (some (.agg [(.int .i64 (gI r2.cells 0)), (.sl 9 (gL r2.cells 1))]))))
def qfg := hull qjf
theorem q24 : qfg = qjf := qb _
def qt6 {R : Type} : EntF Tryd.prog R := entB (nt := 11) (dec := (decT [(.i .i64), (.sl 9)])) (enc := (qdy (.st [(.i .i64), (.sl 9)]))) tabOk follows Tryd.func19 [(.cell 4 true 2)] hdeT (.s .z (.s (.dv [.cls 3] [] [(4, .c qbq.b)] [(0, .k qcd.b)] []) .z)) S62_ qjf (fun f v => f (v.i 1 0) (v.l 1 1) (v.s 4 0)) (by kernel_rfl) (by kernel_rfl) (by kernel_rfl) fun _ => (by kernel_rfl)
def qjq : Nat := 48
def S63_ : Shp := ⟨[(0, .st [(.l (.i .i64)), (.l (.sl 9))]), (1, .one (.l (.i .i64)))], []⟩
def qjg (Ae : Int) (Af : List AV) (v1 : Int) : Option AV :=
  (oB (qx Af (.func qjq [(.cptr [(.int .i64 v1)])])) fun r1 => (oB (qbc Ae Af r1) fun r2 => (some (.agg [(.int .i64 (gI r2.cells 0)), (.sl 9 (gL r2.cells 1))]))))
def qfh := hull qjg
theorem q25 : qfh = qjg := qb _
def qt7 {R : Type} : EntF Tryd.prog R := entB (nt := 11) (dec := (decT [(.i .i64), (.sl 9)])) (enc := (qdy (.st [(.i .i64), (.sl 9)]))) tabOk follows Tryd.func17 [(.cell 4 true 2)] hdeT (.s .z (.s (.dv [.cls 3] [] [(4, .c qbq.b)] [(0, .k qcd.b)] []) .z)) S63_ qjg (fun f v => f (v.i 1 0) (v.l 1 1) (v.i 4 0)) (by kernel_rfl) (by kernel_rfl) (by kernel_rfl) fun _ => (by kernel_rfl)
def S64_ : Shp := ⟨[(1, .one (.ptr 0 0)), (2, .one (.l (.i .i64))), (4, .one (.l (.i .i64))), (6, .one (.ptr 1 0)), (7, .one (.l .b)), (10, .one (.l .b))], [.box true [(.l (.i .i64)), (.l (.sl 9))], .box true (lk qc)]⟩
def qrd  (Aa : Int) (Ab : List AV) (K : Ex → Env → Mem → Option Bool) := (fun z_v73 => K .norm (qi [(1, (.ptr 0 0)), (73, (.bool z_v73))]) (qj [(some (.box true [(.int .i64 Aa), (.sl 9 Ab)]))]))
def qec  (v2 v4 : Int) (v7 v10 : Bool) (Aa : Int) (Ab : List AV) (Bj : Int) (Ch : List UInt8) (Ck Cm : Int) (Cn : List AV) (Co Cp Cq Cr : Int) (kn : Bool → Option Bool) : Option Bool :=
  (bif (v2 != (0 : Int)) then (kn true) else (bif (v4 != (1 : Int)) then (kn true) else (bif (!v7) then (kn true) else (bif (Cm != (20 : Int)) then (kn true) else (bif (Co != (5 : Int)) then (kn true) else (bif v10 then (kn true) else (oB (qkd ([97, 46, 101, 120, 97, 109, 112, 108, 101, 46] : List UInt8) (9 : Int)) fun r1 => (oB (qcz Aa Ab (gS r1.cells 0) (gI r1.cells 1) (gI r1.cells 2) (gL r1.cells 3) (3 : Int) (0 : Int) (100 : Int)) fun r2 => (kn (((gL r2.cells 1).length : Int) != (1 : Int)))))))))))
def qmw := hull (qec)
theorem qre : qmw = qec := qb _
def qsn : SubB Tryd.prog (TIof Tryd.prog) 133 0 (kret [.t 0] decB) := jnB tabOk follows Tryd.f8 319 (.d [] [(26, .c qq4.b)] [(0, .k qgz.b)] [.sel [1, 73] [0]]) S64_ (qec) (fun f v K => f (v.i 8 0) (v.i 16 0) (v.b 28 0) (v.b 40 0) (v.i 3 0) (v.l 3 1) (v.i 7 0) (v.s 7 1) (v.i 7 2) (v.i 7 3) (v.l 7 4) (v.i 7 5) (v.i 7 6) (v.i 7 7) (v.i 7 8) (qrd (v.i 3 0) (v.l 3 1) K)) (by kernel_rfl) (fun _ _ => (by kernel_rfl))
def qgq : Option Bool :=
  (oB (qgg (2 : Int)) fun r1 => (oB (qgg (0 : Int)) fun r2 => (oB (qkd ([97, 46, 101, 120, 97, 109, 112, 108, 101, 46] : List UInt8) (60 : Int)) fun r3 => (oB (qcz (gI r1.1.cells 0) ([] : List AV) (gS r3.cells 0) (gI r3.cells 1) (gI r3.cells 2) (gL r3.cells 3) (5 : Int) (0 : Int) (100 : Int)) fun r4 => (oB (qd0 (gI r4.cells 0) (gL r4.cells 1) ([97, 46, 101, 120, 97, 109, 112, 108, 101, 46] : List UInt8) (1 : Int) (140 : Int)) fun r5 => (oB (qd0 (gI r4.cells 0) (gL r4.cells 1) ([97, 46, 101, 120, 97, 109, 112, 108, 101, 46] : List UInt8) (1 : Int) (160 : Int)) fun r6 => (qmw r1.2 r2.2 r5.2.2 r6.2.2 (gI r4.cells 0) (gL r4.cells 1) (gI r5.2.1.cells 0) (gS r5.2.1.cells 1) (gI r5.2.1.cells 2) (gI r5.2.1.cells 3) (gL r5.2.1.cells 4) (gI r5.2.1.cells 5) (gI r5.2.1.cells 6) (gI r5.2.1.cells 7) (gI r5.2.1.cells 8) (fun v73q7 => (bif v73q7 then (some false) else (oB (qgp (gI r4.cells 0) (gL r4.cells 1) ([98, 46] : List UInt8) (0 : Int) true (30 : Int) (5 : Int) (0 : Int) (100 : Int)) fun r8 => (oB (qd0 (gI r8.cells 0) (gL r8.cells 1) ([98, 46] : List UInt8) (2 : Int) (100 : Int)) fun r9 => (bif hd ([(.agg [(.bool false), (.int .u64 (0 : Int)), (.int .u64 (0 : Int)), (.str ([97, 46] : List UInt8)), (.str ([] : List UInt8)), (.str ([] : List UInt8)), (.int .i64 (0 : Int)), (.int .i64 (0 : Int)), (.int .i64 (0 : Int)), (.int .i64 (0 : Int)), (.int .i64 (0 : Int)), (.int .i64 (0 : Int)), (.int .u64 (0 : Int))])] : List AV) (([(.agg [(.bool false), (.int .u64 (0 : Int)), (.int .u64 (0 : Int)), (.str ([97, 46] : List UInt8)), (.str ([] : List UInt8)), (.str ([] : List UInt8)), (.int .i64 (0 : Int)), (.int .i64 (0 : Int)), (.int .i64 (0 : Int)), (.int .i64 (0 : Int)), (.int .i64 (0 : Int)), (.int .i64 (0 : Int)), (.int .u64 (0 : Int))])] : List AV).length) then (oB (qcz (gI r8.cells 0) (gL r8.cells 1) ([101, 120, 97, 109, 112, 108, 101, 46] : List UInt8) (2 : Int) (60 : Int) ([(.agg [(.bool false), (.int .u64 (0 : Int)), (.int .u64 (0 : Int)), (.str ([97, 46] : List UInt8)), (.str ([] : List UInt8)), (.str ([] : List UInt8)), (.int .i64 (0 : Int)), (.int .i64 (0 : Int)), (.int .i64 (0 : Int)), (.int .i64 (0 : Int)), (.int .i64 (0 : Int)), (.int .i64 (0 : Int)), (.int .u64 (0 : Int))])] : List AV) (5 : Int) (0 : Int) (100 : Int)) fun r10 => (oB (qje (gI r10.cells 0) (gL r10.cells 1) ([97, 46, 101, 120, 97, 109, 112, 108, 101, 46] : List UInt8) (110 : Int)) fun r11 => (bif (((((r9.2.2 && ((gI r9.2.1.cells 0) == (2 : Int))) && (((gL r8.cells 1).length : Int) == (2 : Int))) && r11.2) && ((gS r11.1.cells 0) == ([101, 120, 97, 109, 112, 108, 101, 46] : List UInt8))) && ((gI r11.1.cells 2) == (50 : Int))) then (oB (qfg (gI r8.cells 0) (gL r8.cells 1) ([46] : List UInt8)) fun r12 => (bif (((gL r12.cells 1).length : Int) == (0 : Int)) then (oB (qfh (gI r8.cells 0) (gL r8.cells 1) (130 : Int)) fun r13 => (some (((gL r13.cells 1).length : Int) == (1 : Int)))) else (some false))) else (some false)))) else none))))))))))))
def qeg := hull qgq
theorem qx8 : qeg = qgq := qb _
def qos {R : Type} : EntF Tryd.prog R := entB (nt := 133) (dec := decB) (enc := AV.bool) tabOk follows Tryd.func8 [.t 0] hdeB (.s .z (.s (.r [(0, .c qmd.b)] []) (.s (.r [(0, .c qmd.b)] []) (.s (.d [] [(1, .c qq4.b)] [(0, .k qgz.b)] []) (.s (.r [(2, .k qg0.b)] []) (.s (.r [(2, .k qg0.b)] []) (.s (.s (.sub [.sel [1, 2, 4, 6, 7, 10] [0, 3]] qsn []) .z) (.s (.r [(2, .k qoq.b)] []) (.s (.r [(2, .k qg0.b)] []) (.s .z (.s (.r [(2, .k qgz.b), (3, .k q0x.b)] []) (.s (.r [(2, .g 3), (7, .g 4), (13, .g 1), (16, .g 3), (21, .g 3), (27, .k qt6.b), (34, .k qt7.b)] []) .z)))))))))))) (⟨[], []⟩ : Shp) qgq (fun f v => f) (by kernel_rfl) (by kernel_rfl) (by kernel_rfl) fun _ => (by kernel_rfl)
def qly : List LT := [(.i .i64), .s, (.i .i64), (.i .i64), .op, .s, (.i .i64), .b, (.i .i64), (.i .i64), (.i .i64)]
def S65_ : Shp := ⟨[(1, .one (.ptr 0 0)), (2, .one (.ptr 1 0)), (3, .one (.own 2)), (4, .one (.l (.i .i64)))], [.box true (lk qcw), .box true [(.l .s), (.l (.i .i64)), (.l (.i .i64)), (.l .nil)], .arr true 13]⟩
def qiw  (Aa : List UInt8) (Ab Ac : Int) (Ad : List AV) (Bj : List UInt8) (Ch Ck : Int) (K : Ex → Env → Mem → Option AV) := (fun z_a2 => K (.exit 0) (qi [(1, (.ptr 0 0)), (2, (.ptr 1 0)), (3, (.own 2 z_a2.length))]) (qj [(some (.box true (qkr Aa Ab Ac Ad))), (some (.box true [(.str Bj), (.int .i64 Ch), (.int .i64 Ck), .nils])), (some (.arr true 13 z_a2))]))
def qda  (v4 : Int) (Aa : List UInt8) (Ab Ac : Int) (Ad : List AV) (Bj : List UInt8) (Ch Ck : Int) (a2 : List AV) (next : Int → (List AV) → Option AV) (kx0 : (List AV) → Option AV) : Option AV :=
  (bif ((decide (v4 < (Ad.length : Int))) && (decide (v4 < (10 : Int)))) then (oB (ixB Ad v4) fun y1 => (bif fitC qbm y1.cells then (oB (cutI (gS y1.cells 3) none (some (if (300 : Int) < ((gS y1.cells 3).length : Int) then (300 : Int) else ((gS y1.cells 3).length : Int)))) fun s2 => (oB (cutI (gS y1.cells 4) none (some (if (300 : Int) < ((gS y1.cells 4).length : Int) then (300 : Int) else ((gS y1.cells 4).length : Int)))) fun s3 => (oB (cutI (gS y1.cells 5) none (some (if (300 : Int) < ((gS y1.cells 5).length : Int) then (300 : Int) else ((gS y1.cells 5).length : Int)))) fun s4 => (bif hd a2 a2.length then (bif hd ([(.agg [(.bool (gB y1.cells 0)), (.int .u64 (gI y1.cells 1)), (.int .u64 (gI y1.cells 2)), (.str s2), (.str s3), (.str s4), (.int .i64 (gI y1.cells 6)), (.int .i64 (gI y1.cells 7)), (.int .i64 (gI y1.cells 8)), (.int .i64 (gI y1.cells 9)), (.int .i64 (gI y1.cells 10)), (.int .i64 (gI y1.cells 11)), (.int .u64 (gI y1.cells 12))])] : List AV) (([(.agg [(.bool (gB y1.cells 0)), (.int .u64 (gI y1.cells 1)), (.int .u64 (gI y1.cells 2)), (.str s2), (.str s3), (.str s4), (.int .i64 (gI y1.cells 6)), (.int .i64 (gI y1.cells 7)), (.int .i64 (gI y1.cells 8)), (.int .i64 (gI y1.cells 9)), (.int .i64 (gI y1.cells 10)), (.int .i64 (gI y1.cells 11)), (.int .u64 (gI y1.cells 12))])] : List AV).length) then (bif decide ((a2.length + ([(.agg [(.bool (gB y1.cells 0)), (.int .u64 (gI y1.cells 1)), (.int .u64 (gI y1.cells 2)), (.str s2), (.str s3), (.str s4), (.int .i64 (gI y1.cells 6)), (.int .i64 (gI y1.cells 7)), (.int .i64 (gI y1.cells 8)), (.int .i64 (gI y1.cells 9)), (.int .i64 (gI y1.cells 10)), (.int .i64 (gI y1.cells 11)), (.int .u64 (gI y1.cells 12))])] : List AV).length) * 128 ≤ 140737488355328) then (next (IntKind.i64.wrap (v4 + (1 : Int))) (a2 ++ ([(.agg [(.bool (gB y1.cells 0)), (.int .u64 (gI y1.cells 1)), (.int .u64 (gI y1.cells 2)), (.str s2), (.str s3), (.str s4), (.int .i64 (gI y1.cells 6)), (.int .i64 (gI y1.cells 7)), (.int .i64 (gI y1.cells 8)), (.int .i64 (gI y1.cells 9)), (.int .i64 (gI y1.cells 10)), (.int .i64 (gI y1.cells 11)), (.int .u64 (gI y1.cells 12))])] : List AV))) else none) else none) else none)))) else none)) else (kx0 a2))
def qcj  (Aa : List UInt8) (Ab Ac : Int) (Ad : List AV) (Bj : List UInt8) (Ch Ck : Int) (kx0 : (List AV) → Option AV) : Nat → Int → (List AV) → Option AV
  | 0 => (fun _ _ => none)
  | n + 1 => (fun v4 a2 => qda v4 Aa Ab Ac Ad Bj Ch Ck a2 (qcj Aa Ab Ac Ad Bj Ch Ck kx0 n) kx0)
def qmx := hull (qcj)
theorem qrf : qmx = qcj := qb _
def qso : SubB Tryd.prog (TIof Tryd.prog) 61 0 (kret [(.cell 2 true 4)] (decT [.s, (.i .i64), (.i .i64), (.fr true 13)])) := lpB tabOk follows Tryd.f13 151 (.s (.s (.r [(6, .g 2)] []) (.s .z (.v [.sel [1, 2, 3] [0, 1, 2]]))) (.s (.b (.s (.r [(3, .p (.etac 28 qbm))] []) .z)) (.v [.sel [1, 2, 3, 4] [0, 1, 2]]))) S65_ (qcj) (fun f v K n => f (v.s 3 0) (v.i 3 1) (v.i 3 2) (v.l 3 3) (v.s 7 0) (v.i 7 1) (v.i 7 2) (qiw (v.s 3 0) (v.i 3 1) (v.i 3 2) (v.l 3 3) (v.s 7 0) (v.i 7 1) (v.i 7 2) K) n) (fun v f K => qda (v.i 16 0) (v.s 3 0) (v.i 3 1) (v.i 3 2) (v.l 3 3) (v.s 7 0) (v.i 7 1) (v.i 7 2) (v.r 2) f (qiw (v.s 3 0) (v.i 3 1) (v.i 3 2) (v.l 3 3) (v.s 7 0) (v.i 7 1) (v.i 7 2) K)) (fun f v => f (v.i 16 0) (v.r 2)) (fun k v => (fun z0 z1 => k ((v.ui 16 0 z0).ur 2 z1))) (by kernel_rfl) (fun _ _ => (by kernel_rfl)) (fun _ _ _ => (by kernel_rfl)) (fun _ _ _ => (by kernel_rfl)) (fun _ _ => (by kernel_rfl)) (fun _ _ _ _ _ => (by kernel_rfl))
def qgr (Ae : List UInt8) (Af Ag : Int) (Ah : List AV) : Option AV :=
  (oB (cutI Ae none (some (if (300 : Int) < (Ae.length : Int) then (300 : Int) else (Ae.length : Int)))) fun s1 => (bif (hd ([] : List AV) (([] : List AV).length) && true) then (qmx s1 Af Ag Ah ([] : List UInt8) (0 : Int) (0 : Int) (fun a2q2 => (bif hd a2q2 a2q2.length then (some (.agg [(.str s1), (.int .i64 Af), (.int .i64 Ag), (.fr true 13 a2q2)])) else none)) FU (0 : Int) ([] : List AV)) else none))
def qif := hull qgr
theorem qx9 : qif = qgr := qb _
def qot {R : Type} : EntF Tryd.prog R := entB (nt := 61) (dec := (decT [.s, (.i .i64), (.i .i64), (.fr true 13)])) (enc := (qdy (.st [.s, (.i .i64), (.i .i64), (.fr true 13)]))) tabOk follows Tryd.func13 [(.cell 2 true 4)] hdeT (.s .z (.s .z (.s .z (.s (.s .z (.b (.sub [.own 3 13, .sel [1, 2, 3, 4] [0, 1, 2]] qso []))) .z)))) S3_ qgr (fun f v => f (v.s 1 0) (v.i 1 1) (v.i 1 2) (v.l 1 3)) (by kernel_rfl) (by kernel_rfl) (by kernel_rfl) fun _ => (by kernel_rfl)
def qeh : List LT := [(.i .i64), .s, (.i .i64), (.i .i64), (.sl 13), .s, (.i .i64), .b, (.i .i64), (.i .i64), (.i .i64)]
def S66_ : Shp := ⟨[(0, .st [(.l (.i .i64)), (.l (.sl 9))]), (1, .st (lk qeh))], []⟩
def qig (Ae : Int) (Af : List AV) (Ar : Int) (As : List UInt8) (At Au : Int) (Av : List AV) (Aw : List UInt8) (Ax : Int) (Ay : Bool) (Az A0 A1 : Int) : Option AV :=
  (oB (qif As At Au Av) fun r1 => (oB (cutI Aw none (some (if (300 : Int) < (Aw.length : Int) then (300 : Int) else (Aw.length : Int)))) fun s2 => (bif (Ar == (0 : Int)) then (oB (qcz Ae Af (gS r1.cells 0) (gI r1.cells 1) (gI r1.cells 2) (gL r1.cells 3) Az A0 A1) fun r3 => (some (.agg [(.int .i64 (gI r3.cells 0)), (.sl 9 (gL r3.cells 1))]))) else (bif (Ar == (1 : Int)) then (oB (qgp Ae Af s2 Ax Ay (gI r1.cells 2) Az A0 A1) fun r4 => (some (.agg [(.int .i64 (gI r4.cells 0)), (.sl 9 (gL r4.cells 1))]))) else (bif (Ar == (2 : Int)) then (oB (qd0 Ae Af s2 Ax A1) fun r5 => (some (.agg [(.int .i64 (gI r5.1.cells 0)), (.sl 9 (gL r5.1.cells 1))]))) else (bif (Ar == (4 : Int)) then (oB (qfg Ae Af s2) fun r6 => (some (.agg [(.int .i64 (gI r6.cells 0)), (.sl 9 (gL r6.cells 1))]))) else (bif (Ar == (5 : Int)) then (oB (qfh Ae Af A1) fun r7 => (some (.agg [(.int .i64 (gI r7.cells 0)), (.sl 9 (gL r7.cells 1))]))) else (some (.agg [(.int .i64 Ae), (.sl 9 Af)])))))))))
def qkw := hull qig
theorem q0y : qkw = qig := qb _
def q26 {R : Type} : EntF Tryd.prog R := entB (nt := 80) (dec := (decT [(.i .i64), (.sl 9)])) (enc := (qdy (.st [(.i .i64), (.sl 9)]))) tabOk follows Tryd.func22 [(.cell 4 true 2)] hdeT (.s .z (.s (.r [(2, .k qot.b)] []) (.s .z (.s .z (.s (.s .z (.b (.s .z (.s (.s (.r [(8, .k qgz.b)] []) .z) (.s .z (.s (.s (.r [(12, .k qoq.b)] []) .z) (.s .z (.s (.s (.r [(4, .k qg0.b)] []) .z) (.s .z (.s (.s (.r [(2, .k qt6.b)] []) .z) (.s .z (.s (.s (.r [(3, .k qt7.b)] []) .z) .z)))))))))))) .z))))) S66_ qig (fun f v => f (v.i 1 0) (v.l 1 1) (v.i 5 0) (v.s 5 1) (v.i 5 2) (v.i 5 3) (v.l 5 4) (v.s 5 5) (v.i 5 6) (v.b 5 7) (v.i 5 8) (v.i 5 9) (v.i 5 10)) (by kernel_rfl) (by kernel_rfl) (by kernel_rfl) fun _ => (by kernel_rfl)
def S67_ : Shp := ⟨[(1, .one (.l (.sl 11))), (4, .one (.ptr 0 0)), (5, .one (.ptr 1 0)), (7, .one (.l (.i .i64)))], [.box true [(.l (.i .i64)), (.l .nil)], .box true [(.l (.i .i64)), (.l (.sl 9))]]⟩
def S68_ : Shp := ⟨[(0, .one (.l (.i .i64))), (1, .one (.l (.sl 11)))], []⟩
def qkx  (Aa : Int) (K : Ex → Env → Mem → Option AV) := (fun z_b1_0 z_b1_1 => K (.exit 0) (qi [(4, (.ptr 0 0)), (5, (.ptr 1 0))]) (qj [(some (.box true [(.int .i64 Aa), .nils])), (some (.box true [(.int .i64 z_b1_0), (.sl 9 z_b1_1)]))]))
def qc0  (v1 : List AV) (v7 Aa Bj : Int) (Ch : List AV) (next : Int → Int → (List AV) → Option AV) (kx0 : Int → (List AV) → Option AV) : Option AV :=
  (bif ((decide (v7 < (v1.length : Int))) && (decide (v7 < (30 : Int)))) then (oB (ixB v1 v7) fun y1 => (bif fitC qly y1.cells then (bif fitV (.st qeh) (.agg [(.int .i64 (gI y1.cells 0)), (.str (gS y1.cells 1)), (.int .i64 (gI y1.cells 2)), (.int .i64 (gI y1.cells 3)), (gC y1.cells 4), (.str (gS y1.cells 5)), (.int .i64 (gI y1.cells 6)), (.bool (gB y1.cells 7)), (.int .i64 (gI y1.cells 8)), (.int .i64 (gI y1.cells 9)), (.int .i64 (gI y1.cells 10))]) then (oB (qkw Bj Ch (gI y1.cells 0) (gS y1.cells 1) (gI y1.cells 2) (gI y1.cells 3) (aL (gC y1.cells 4)) (gS y1.cells 5) (gI y1.cells 6) (gB y1.cells 7) (gI y1.cells 8) (gI y1.cells 9) (gI y1.cells 10)) fun r2 => (next (IntKind.i64.wrap (v7 + (1 : Int))) (gI r2.cells 0) (gL r2.cells 1))) else none) else none)) else (kx0 Bj Ch))
def qc1  (v1 : List AV) (Aa : Int) (kx0 : Int → (List AV) → Option AV) : Nat → Int → Int → (List AV) → Option AV
  | 0 => (fun _ _ _ => none)
  | n + 1 => (fun v7 Bj Ch => qc0 v1 v7 Aa Bj Ch (qc1 v1 Aa kx0 n) kx0)
def qou := hull (qc1)
theorem qur : qou = qc1 := qb _
def qvs : SubB Tryd.prog (TIof Tryd.prog) 30 0 (kret [(.cell 4 true 2)] (decT [(.i .i64), (.sl 9)])) := lpB tabOk follows Tryd.f9 75 (.s (.s (.r [(5, .g 2)] []) (.s .z (.v [.sel [4, 5] [0, 1]]))) (.s (.b (.d [] [(3, .e 26 qly)] [(0, .s (.eta 27 (.st qeh))), (0, .k q26.b)] [])) (.v [.sel [1, 4, 5, 7] [0, 1]]))) S67_ (qc1) (fun f v K n => f (v.l 4 0) (v.i 3 0) (qkx (v.i 3 0) K) n) (fun v f K => qc0 (v.l 4 0) (v.i 28 0) (v.i 3 0) (v.i 7 0) (v.l 7 1) f (qkx (v.i 3 0) K)) (fun f v => f (v.i 28 0) (v.i 7 0) (v.l 7 1)) (fun k v => (fun z0 z1 z2 => k (((v.ui 28 0 z0).ui 7 0 z1).ul 7 1 z2))) (by kernel_rfl) (fun _ _ => (by kernel_rfl)) (fun _ _ _ => (by kernel_rfl)) (fun _ _ _ => (by kernel_rfl)) (fun _ _ => (by kernel_rfl)) (fun _ _ _ _ _ => (by kernel_rfl))
def qhu (v0 : Int) (v1 : List AV) : Option AV :=
  (oB (qgg v0) fun r1 => (qou v1 (0 : Int) (fun b1_0q2 b1_1q3 => (some (.agg [(.int .i64 b1_0q2), (.sl 9 b1_1q3)]))) FU (0 : Int) (gI r1.1.cells 0) ([] : List AV)))
def qnf := hull qhu
theorem qzl : qnf = qhu := qb _
def q0z {R : Type} : EntF Tryd.prog R := entB (nt := 30) (dec := (decT [(.i .i64), (.sl 9)])) (enc := (qdy (.st [(.i .i64), (.sl 9)]))) tabOk follows Tryd.func9 [(.cell 4 true 2)] hdeT (.s .z (.s (.r [(1, .c qmd.b)] []) (.s (.s .z (.b (.sub [.nilc 1 1 9, .sel [1, 4, 5, 7] [0, 1]] qvs []))) .z))) S68_ qhu (fun f v => f (v.i 0 0) (v.l 4 0)) (by kernel_rfl) (by kernel_rfl) (by kernel_rfl) fun _ => (by kernel_rfl)
def S72_ : Shp := ⟨[(2, .one (.ptr 0 0)), (3, .one (.ptr 1 0)), (36, .one (.l (.i .i64))), (37, .one (.l (.i .i64)))], [.box true (lk qcw), .box true (lk qcw)]⟩
def S73_ : Shp := ⟨[(0, .st (lk qcw)), (1, .st (lk qcw))], []⟩
def qjz  (K : Ex → Env → Mem → Option Bool) := (fun (_ : Unit) => K (.exit 0) (qi []) (qj []))
def qdr  (v36 v37 : Int) (Aa : List UInt8) (Ab Ac : Int) (Ad : List AV) (Bj : List UInt8) (Ch Ck : Int) (Cm : List AV) (next : Int → Option Bool) (kx0 : Unit → Option Bool) : Option Bool :=
  (bif (decide (v37 < v36)) then (oB (ixB Ad v37) fun y1 => (bif fitC qbm y1.cells then (oB (ixB Cm v37) fun y2 => (bif fitC qbm y2.cells then (bif (!(((gB y1.cells 0) == (gB y2.cells 0)) && (((gI y1.cells 1) == (gI y2.cells 1)) && (((gI y1.cells 2) == (gI y2.cells 2)) && (((gS y1.cells 3) == (gS y2.cells 3)) && (((gS y1.cells 4) == (gS y2.cells 4)) && (((gS y1.cells 5) == (gS y2.cells 5)) && (((gI y1.cells 6) == (gI y2.cells 6)) && (((gI y1.cells 7) == (gI y2.cells 7)) && (((gI y1.cells 8) == (gI y2.cells 8)) && (((gI y1.cells 9) == (gI y2.cells 9)) && (((gI y1.cells 10) == (gI y2.cells 10)) && (((gI y1.cells 11) == (gI y2.cells 11)) && (((gI y1.cells 12) == (gI y2.cells 12)) && true)))))))))))))) then (some false) else (next (IntKind.i64.wrap (v37 + (1 : Int))))) else none)) else none)) else (kx0 ()))
def qds  (v36 : Int) (Aa : List UInt8) (Ab Ac : Int) (Ad : List AV) (Bj : List UInt8) (Ch Ck : Int) (Cm : List AV) (kx0 : Unit → Option Bool) : Nat → Int → Option Bool
  | 0 => (fun _ => none)
  | n + 1 => (fun v37 => qdr v36 v37 Aa Ab Ac Ad Bj Ch Ck Cm (qds v36 Aa Ab Ac Ad Bj Ch Ck Cm kx0 n) kx0)
def qnq := hull (qds)
theorem qsp : qnq = qds := qb _
def qus : SubB Tryd.prog (TIof Tryd.prog) 52 0 (kret [.t 4] decB) := lpB tabOk follows Tryd.f14 75 (.s .z (.s (.s .z (.v [.sel [] []])) (.s (.b (.s .z (.s (.d [] [(3, .e 43 qbm), (8, .e 48 qbm)] [] []) .z))) (.v [.sel [2, 3, 36, 37] [0, 1]])))) S72_ (qds) (fun f v K n => f (v.i 144 0) (v.s 3 0) (v.i 3 1) (v.i 3 2) (v.l 3 3) (v.s 7 0) (v.i 7 1) (v.i 7 2) (v.l 7 3) (qjz K) n) (fun v f K => qdr (v.i 144 0) (v.i 148 0) (v.s 3 0) (v.i 3 1) (v.i 3 2) (v.l 3 3) (v.s 7 0) (v.i 7 1) (v.i 7 2) (v.l 7 3) f (qjz K)) (fun f v => f (v.i 148 0)) (fun k v => (fun z0 => k (v.ui 148 0 z0))) (by kernel_rfl) (fun _ _ => (by kernel_rfl)) (fun _ _ _ => (by kernel_rfl)) (fun _ _ _ => (by kernel_rfl)) (fun _ _ => (by kernel_rfl)) (fun _ _ _ _ _ => (by kernel_rfl))
def qhv (Ae : List UInt8) (Af Ag : Int) (Ah : List AV) (Ar : List UInt8) (As At : Int) (Au : List AV) : Option Bool :=
  (bif ((((!(Ae == Ar)) || (Af != As)) || (Ag != At)) || ((Ah.length : Int) != (Au.length : Int))) then (some false) else (qnq (Ah.length : Int) Ae Af Ag Ah Ar As At Au (fun (_ : Unit) => (some true)) FU (0 : Int)))
def qng := hull qhv
theorem qzm : qng = qhv := qb _
def q00 {R : Type} : EntF Tryd.prog R := entB (nt := 52) (dec := decB) (enc := AV.bool) tabOk follows Tryd.func14 [.t 4] hdeB (.s .z (.s (.s (.r [(6, .g 5), (13, .g 5), (20, .g 7)] []) .z) (.s (.s .z (.b (.sub [.sel [2, 3, 36, 37] [0, 1]] qus []))) .z))) S73_ qhv (fun f v => f (v.s 1 0) (v.i 1 1) (v.i 1 2) (v.l 1 3) (v.s 5 0) (v.i 5 1) (v.i 5 2) (v.l 5 3)) (by kernel_rfl) (by kernel_rfl) (by kernel_rfl) fun _ => (by kernel_rfl)
def S80_ : Shp := ⟨[(2, .one (.l (.i .u32))), (4, .one (.ptr 0 0)), (7, .one (.ptr 1 0)), (8, .one (.l (.i .i64))), (27, .one (.l (.sl 9))), (28, .one (.l (.i .i64))), (29, .one (.l (.i .i64)))], [.box true (lk qcw), .box true [(.l (.i .i64)), (.l (.sl 9))]]⟩
def S81_ : Shp := ⟨[(2, .one (.l (.i .u32))), (4, .one (.ptr 0 0)), (8, .one (.l (.i .i64))), (11, .one (.ptr 1 0)), (13, .one (.ptr 2 0)), (14, .one (.l .b)), (16, .one (.l (.i .i64))), (17, .one (.l .b))], [.box true (lk qcw), .box true [(.l (.i .i64)), (.l (.sl 9))], .box true (lk qc)]⟩
def S82_ : Shp := ⟨[(0, .one (.l (.sl 11))), (1, .st (lk qcw)), (2, .one (.l (.i .u32)))], []⟩
def qgh  (v2 : Int) (Aa : List UInt8) (Ab Ac : Int) (Ad : List AV) (Bj : Int) (Ch : List AV) (K : Ex → Env → Mem → Option Bool) := (fun z_v8 => K (.exit 0) (qi [(2, (.int .u32 v2)), (4, (.ptr 0 0)), (7, (.ptr 1 0)), (8, (.int .i64 z_v8))]) (qj [(some (.box true (qkr Aa Ab Ac Ad))), (some (.box true [(.int .i64 Bj), (.sl 9 Ch)]))]))
def qb6  (v2 v8 : Int) (v27 : List AV) (v28 v29 : Int) (Aa : List UInt8) (Ab Ac : Int) (Ad : List AV) (Bj : Int) (Ch : List AV) (next : Int → Int → Option Bool) (kx0 : Int → Option Bool) : Option Bool :=
  (bif (decide (v29 < v28)) then (oB (ixB v27 v29) fun y1 => (bif fitC qc y1.cells then (next (if (gI y1.cells 5) > v8 then (gI y1.cells 5) else v8) (IntKind.i64.wrap (v29 + (1 : Int)))) else none)) else (kx0 v8))
def qb7  (v2 : Int) (v27 : List AV) (v28 : Int) (Aa : List UInt8) (Ab Ac : Int) (Ad : List AV) (Bj : Int) (Ch : List AV) (kx0 : Int → Option Bool) : Nat → Int → Int → Option Bool
  | 0 => (fun _ _ => none)
  | n + 1 => (fun v8 v29 => qb6 v2 v8 v27 v28 v29 Aa Ab Ac Ad Bj Ch (qb7 v2 v27 v28 Aa Ab Ac Ad Bj Ch kx0 n) kx0)
def qdn := hull (qb7)
theorem qnh : qdn = qb7 := qb _
def qns : SubB Tryd.prog (TIof Tryd.prog) 148 0 (kret [.t 6] decB) := lpB tabOk follows Tryd.f5 303 (.s .z (.s (.s .z (.v [.sel [2, 4, 7, 8] [0, 1]])) (.s (.b (.s (.r [(0, .p (.etac 31 qc))] []) .z)) (.v [.sel [2, 4, 7, 8, 27, 28, 29] [0, 1]])))) S80_ (qb7) (fun f v K n => f (v.i 8 0) (v.l 108 0) (v.i 112 0) (v.s 3 0) (v.i 3 1) (v.i 3 2) (v.l 3 3) (v.i 7 0) (v.l 7 1) (qgh (v.i 8 0) (v.s 3 0) (v.i 3 1) (v.i 3 2) (v.l 3 3) (v.i 7 0) (v.l 7 1) K) n) (fun v f K => qb6 (v.i 8 0) (v.i 32 0) (v.l 108 0) (v.i 112 0) (v.i 116 0) (v.s 3 0) (v.i 3 1) (v.i 3 2) (v.l 3 3) (v.i 7 0) (v.l 7 1) f (qgh (v.i 8 0) (v.s 3 0) (v.i 3 1) (v.i 3 2) (v.l 3 3) (v.i 7 0) (v.l 7 1) K)) (fun f v => f (v.i 32 0) (v.i 116 0)) (fun k v => (fun z0 z1 => k ((v.ui 32 0 z0).ui 116 0 z1))) (by kernel_rfl) (fun _ _ => (by kernel_rfl)) (fun _ _ _ => (by kernel_rfl)) (fun _ _ _ => (by kernel_rfl)) (fun _ _ => (by kernel_rfl)) (fun _ _ _ _ _ => (by kernel_rfl))
def qni  (v2 v8 : Int) (Aa : List UInt8) (Ab Ac : Int) (Ad : List AV) (Bj : Int) (Ch : List AV) (K : Ex → Env → Mem → Option Bool) := (fun z_v105 => K .norm (qi [(2, (.int .u32 v2)), (4, (.ptr 0 0)), (8, (.int .i64 v8)), (11, (.ptr 1 0)), (105, (.bool z_v105))]) (qj [(some (.box true (qkr Aa Ab Ac Ad))), (some (.box true [(.int .i64 Bj), (.sl 9 Ch)]))]))
def qc3  (v2 v8 : Int) (v14 : Bool) (v16 : Int) (v17 : Bool) (Aa : List UInt8) (Ab Ac : Int) (Ad : List AV) (Bj : Int) (Ch : List AV) (Bv : Int) (Ca : List UInt8) (Cb Cc : Int) (Cl : List AV) (Cd Ce Cf Cg : Int) (kn : Bool → Option Bool) : Option Bool :=
  (bif (v16 != (0 : Int)) then (kn true) else (bif v17 then (bif (!v14) then (kn true) else (bif (Bv != (0 : Int)) then (kn true) else (oB (qng Ca Cb Cc Cl Aa Ab Ac Ad) fun r1 => (bif (!r1) then (kn true) else (bif (Cd != v8) then (kn true) else (bif (Ce != (2 : Int)) then (kn true) else (kn (Cg != (2147483648 : Int))))))))) else (kn false)))
def qcl := hull (qc3)
theorem qnj : qcl = qc3 := qb _
def qnt : SubB Tryd.prog (TIof Tryd.prog) 148 0 (kret [.t 6] decB) := jnB tabOk follows Tryd.f5 5119 (.r [(16, .c q00.b)] [.sel [2, 4, 8, 11, 105] [0, 1]]) S81_ (qc3) (fun f v K => f (v.i 8 0) (v.i 32 0) (v.b 56 0) (v.i 64 0) (v.b 68 0) (v.s 3 0) (v.i 3 1) (v.i 3 2) (v.l 3 3) (v.i 7 0) (v.l 7 1) (v.i 11 0) (v.s 11 1) (v.i 11 2) (v.i 11 3) (v.l 11 4) (v.i 11 5) (v.i 11 6) (v.i 11 7) (v.i 11 8) (qni (v.i 8 0) (v.i 32 0) (v.s 3 0) (v.i 3 1) (v.i 3 2) (v.l 3 3) (v.i 7 0) (v.l 7 1) K)) (by kernel_rfl) (fun _ _ => (by kernel_rfl))
def qd4 (v0 : List AV) (Ar : List UInt8) (As At : Int) (Au : List AV) (v2 : Int) : Option Bool :=
  (oB (qnf (20 : Int) v0) fun r1 => (oB (qif Ar As At Au) fun r2 => (qdn v2 (gL r1.cells 1) ((gL r1.cells 1).length : Int) (gS r2.cells 0) (gI r2.cells 1) (gI r2.cells 2) (gL r2.cells 3) (gI r1.cells 0) (gL r1.cells 1) (fun v8q3 => (oB (qcz (gI r1.cells 0) (gL r1.cells 1) (gS r2.cells 0) (gI r2.cells 1) (if (1000 : Int) < (if (1 : Int) > (gI r2.cells 2) then (1 : Int) else (gI r2.cells 2)) then (1000 : Int) else (if (1 : Int) > (gI r2.cells 2) then (1 : Int) else (gI r2.cells 2))) (gL r2.cells 3) v8q3 (2 : Int) (2147483648 : Int)) fun r4 => (oB (qd0 (gI r4.cells 0) (gL r4.cells 1) (gS r2.cells 0) (gI r2.cells 1) (2147483648 : Int)) fun r5 => (oB (qgg (20 : Int)) fun r6 => (oB (qcz (gI r6.1.cells 0) ([] : List AV) (gS r2.cells 0) (gI r2.cells 1) (if (1000 : Int) < (if (1 : Int) > (gI r2.cells 2) then (1 : Int) else (gI r2.cells 2)) then (1000 : Int) else (if (1 : Int) > (gI r2.cells 2) then (1 : Int) else (gI r2.cells 2))) (gL r2.cells 3) v8q3 (2 : Int) (2147483648 : Int)) fun r7 => (qcl v2 v8q3 r5.2.2 r6.2 (((gL r7.cells 1).length : Int) == (1 : Int)) (gS r2.cells 0) (gI r2.cells 1) (if (1000 : Int) < (if (1 : Int) > (gI r2.cells 2) then (1 : Int) else (gI r2.cells 2)) then (1000 : Int) else (if (1 : Int) > (gI r2.cells 2) then (1 : Int) else (gI r2.cells 2))) (gL r2.cells 3) (gI r4.cells 0) (gL r4.cells 1) (gI r5.2.1.cells 0) (gS r5.2.1.cells 1) (gI r5.2.1.cells 2) (gI r5.2.1.cells 3) (gL r5.2.1.cells 4) (gI r5.2.1.cells 5) (gI r5.2.1.cells 6) (gI r5.2.1.cells 7) (gI r5.2.1.cells 8) (fun v105q8 => (bif v105q8 then (some false) else (oB (qbu (gS r2.cells 0)) fun r9 => (bif (!r9) then (oB (qeg) fun r10 => (some r10)) else (oB (qgp (gI r4.cells 0) (gL r4.cells 1) (gS r2.cells 0) (0 : Int) true (50 : Int) v8q3 (1 : Int) (2147483648 : Int)) fun r11 => (oB (qd0 (gI r11.cells 0) (gL r11.cells 1) (gS r2.cells 0) (IntKind.i64.wrap v2) (2147483648 : Int)) fun r12 => (bif (((r12.2.2 && ((gI r12.2.1.cells 0) == (2 : Int))) && ((gI r12.2.1.cells 3) == (50 : Int))) && ((gI r12.2.1.cells 6) == (1 : Int))) then (oB (qeg) fun r13 => (some r13)) else (some false)))))))))))))) FU (0 : Int) (0 : Int))))
def qeq := hull qd4
theorem qq0 : qeq = qd4 := qb _
def qrg {R : Type} : EntF Tryd.prog R := entB (nt := 148) (dec := decB) (enc := AV.bool) tabOk follows Tryd.func5 [.t 6] hdeB (.s .z (.s (.r [(1, .k q0z.b)] []) (.s (.r [(1, .k qot.b)] []) (.s .z (.s (.s .z (.b (.sub [.sel [2, 4, 7, 8, 27, 28, 29] [0, 1]] qns []))) (.s .z (.s (.r [(3, .k qgz.b)] []) (.s (.r [(6, .k qg0.b)] []) (.s (.r [(0, .c qmd.b)] []) (.s (.r [(3, .k qgz.b)] []) (.s (.s (.sub [.sel [2, 4, 8, 11, 13, 14, 16, 17] [0, 2, 4]] qnt []) .z) (.s (.s (.r [(2, .c qch.b)] []) (.s (.s (.r [(0, .c qos.b)] []) .z) .z)) (.s (.r [(5, .k qoq.b)] []) (.s (.r [(6, .k qg0.b)] []) (.s (.r [(2, .g 3), (7, .g 4), (13, .g 3), (18, .c qos.b)] []) .z))))))))))))))) S82_ qd4 (fun f v => f (v.l 0 0) (v.s 5 0) (v.i 5 1) (v.i 5 2) (v.l 5 3) (v.i 8 0)) (by kernel_rfl) (by kernel_rfl) (by kernel_rfl) fun _ => (by kernel_rfl)
end
end Go.Proofs.YtmficjbenbhneaaDoor.Dn
