import Derived.Test.YtmficjbenbhneaaDoorProg
import Derived.Test.YtmficjbenbhneaaDoorShLibD
set_option linter.all false
namespace Go.Proofs.YtmficjbenbhneaaDoor.Dn
open Go Go.Pev
set_option linter.unusedVariables false
set_option linter.unusedSimpArgs false
set_option maxRecDepth 100000
set_option maxHeartbeats 4000000
theorem zT : True := True.intro
theorem zA {a b : Prop} (x : a) (y : b) : a ∧ b := ⟨x, y⟩
theorem tabOk : Tab.ok (TIof Tryd.prog) Tryd.prog := fun _ _ h => h
theorem follows : Tryd.prog.follows .mixedOrders = true := by kernel_rfl
def S0_ : Shp := ⟨[(0, .one (.l (.i .i64)))], []⟩
def q4m : AV → Option (AV × Int) := decN [(.st [(.i .i64), .nil]), (.one (.i .i64))] fun z => ((gC (tpL z) 0), aI (gC (tpL z) 1))
noncomputable section
def qin (v0 : Int) : Option (AV × Int) :=
  (bif ((decide (v0 < (1 : Int))) || (decide (v0 > (256 : Int)))) then (some ((.agg [(.int .i64 (0 : Int)), .nils]), (1 : Int))) else (some ((.agg [(.int .i64 v0), .nils]), (0 : Int))))
def qhr := hull qin
theorem qup : qhr = qin := qb _
def ql4 {R : Type} : EntF Tryd.prog R := entB (nt := 13) (dec := q4m) (enc := (fun r => .tup [qdq (.st [(.i .i64), .nil]) r.1, .int .i64 r.2])) tabOk follows Tryd.func7 [(.cell 2 true 2), .t 3] (hdeN fun _ => rfl) (.s .z (.s (.s (.r [(3, .g 2)] []) .z) .z)) S0_ qin (fun f v => f (v.i 0 0)) (by kernel_rfl) (by kernel_rfl) (by kernel_rfl) fun _ => (by kernel_rfl)
def S1_ : Shp := ⟨[(0, .one (.l .s)), (1, .one (.l (.i .i64)))], []⟩
def qla (v0 : List UInt8) (v1 : Int) : Option AV :=
  (bif hd ([(.agg [(.bool false), (.int .u64 (0 : Int)), (.int .u64 (1 : Int)), (.str ([] : List UInt8)), (.str ([] : List UInt8)), (.str ([] : List UInt8)), (.int .i64 (0 : Int)), (.int .i64 (0 : Int)), (.int .i64 (0 : Int)), (.int .i64 (0 : Int)), (.int .i64 (0 : Int)), (.int .i64 (0 : Int)), (.int .u64 (0 : Int))])] : List AV) (([(.agg [(.bool false), (.int .u64 (0 : Int)), (.int .u64 (1 : Int)), (.str ([] : List UInt8)), (.str ([] : List UInt8)), (.str ([] : List UInt8)), (.int .i64 (0 : Int)), (.int .i64 (0 : Int)), (.int .i64 (0 : Int)), (.int .i64 (0 : Int)), (.int .i64 (0 : Int)), (.int .i64 (0 : Int)), (.int .u64 (0 : Int))])] : List AV).length) then (some (.agg [(.str v0), (.int .i64 (1 : Int)), (.int .i64 v1), (.fr true 13 ([(.agg [(.bool false), (.int .u64 (0 : Int)), (.int .u64 (1 : Int)), (.str ([] : List UInt8)), (.str ([] : List UInt8)), (.str ([] : List UInt8)), (.int .i64 (0 : Int)), (.int .i64 (0 : Int)), (.int .i64 (0 : Int)), (.int .i64 (0 : Int)), (.int .i64 (0 : Int)), (.int .i64 (0 : Int)), (.int .u64 (0 : Int))])] : List AV))])) else none)
def qj6 := hull qla
theorem qzq : qj6 = qla := qb _
def qq2 {R : Type} : EntF Tryd.prog R := entB (nt := 11) (dec := (decT [.s, (.i .i64), (.i .i64), (.fr true 13)])) (enc := (qdq (.st [.s, (.i .i64), (.i .i64), (.fr true 13)]))) tabOk follows Tryd.func21 [(.cell 4 true 4)] hdeT (.z) S1_ qla (fun f v => f (v.s 0 0) (v.i 4 0)) (by kernel_rfl) (by kernel_rfl) (by kernel_rfl) fun _ => (by kernel_rfl)
def qh5 : Nat := 37
def qdn : List LT := [.b, (.i .u64), (.i .u64), .s, .s, .s, (.i .i64), (.i .i64), (.i .i64), (.i .i64), (.i .i64), (.i .i64), (.i .u64)]
def qhs : List LT := [.s, (.i .i64), (.i .i64), (.sl 13)]
def S2_ : Shp := ⟨[(1, .one (.ptr 0 0)), (3, .one (.own 1)), (7, .one (.l (.sl 13))), (8, .one (.l (.i .i64))), (9, .one (.l (.i .i64)))], [.box true (lk qhs), .arr true 16]⟩
def S3_ : Shp := ⟨[(0, .st (lk qhs))], []⟩
def qj7  (K : Ex → Env → Mem → Option (List AV)) := (fun z_a0 => K (.exit 0) (qi [(3, (.own 0 z_a0.length))]) (qj [(some (.arr true 16 z_a0))]))
def qdr  (v7 : List AV) (v8 v9 : Int) (Aa : List UInt8) (Ab Ac : Int) (Ad a1 : List AV) (next : Int → (List AV) → Option (List AV)) (kx0 : (List AV) → Option (List AV)) : Option (List AV) :=
  (bif (decide (v9 < v8)) then (oB (ixB v7 v9) fun y1 => (bif fitC qdn y1.cells then (bif hd a1 a1.length then (bif hd ([(.agg [(.str Aa), (.int .i64 Ab), (.int .i64 Ac), (.bool (gB y1.cells 0)), (.int .u64 (gI y1.cells 1)), (.int .u64 (gI y1.cells 2)), (.str (gS y1.cells 3)), (.str (gS y1.cells 4)), (.str (gS y1.cells 5)), (.int .i64 (gI y1.cells 6)), (.int .i64 (gI y1.cells 7)), (.int .i64 (gI y1.cells 8)), (.int .i64 (gI y1.cells 9)), (.int .i64 (gI y1.cells 10)), (.int .i64 (gI y1.cells 11)), (.int .u64 (gI y1.cells 12))])] : List AV) (([(.agg [(.str Aa), (.int .i64 Ab), (.int .i64 Ac), (.bool (gB y1.cells 0)), (.int .u64 (gI y1.cells 1)), (.int .u64 (gI y1.cells 2)), (.str (gS y1.cells 3)), (.str (gS y1.cells 4)), (.str (gS y1.cells 5)), (.int .i64 (gI y1.cells 6)), (.int .i64 (gI y1.cells 7)), (.int .i64 (gI y1.cells 8)), (.int .i64 (gI y1.cells 9)), (.int .i64 (gI y1.cells 10)), (.int .i64 (gI y1.cells 11)), (.int .u64 (gI y1.cells 12))])] : List AV).length) then (bif decide ((a1.length + ([(.agg [(.str Aa), (.int .i64 Ab), (.int .i64 Ac), (.bool (gB y1.cells 0)), (.int .u64 (gI y1.cells 1)), (.int .u64 (gI y1.cells 2)), (.str (gS y1.cells 3)), (.str (gS y1.cells 4)), (.str (gS y1.cells 5)), (.int .i64 (gI y1.cells 6)), (.int .i64 (gI y1.cells 7)), (.int .i64 (gI y1.cells 8)), (.int .i64 (gI y1.cells 9)), (.int .i64 (gI y1.cells 10)), (.int .i64 (gI y1.cells 11)), (.int .u64 (gI y1.cells 12))])] : List AV).length) * 160 ≤ 140737488355328) then (next (IntKind.i64.wrap (v9 + (1 : Int))) (a1 ++ ([(.agg [(.str Aa), (.int .i64 Ab), (.int .i64 Ac), (.bool (gB y1.cells 0)), (.int .u64 (gI y1.cells 1)), (.int .u64 (gI y1.cells 2)), (.str (gS y1.cells 3)), (.str (gS y1.cells 4)), (.str (gS y1.cells 5)), (.int .i64 (gI y1.cells 6)), (.int .i64 (gI y1.cells 7)), (.int .i64 (gI y1.cells 8)), (.int .i64 (gI y1.cells 9)), (.int .i64 (gI y1.cells 10)), (.int .i64 (gI y1.cells 11)), (.int .u64 (gI y1.cells 12))])] : List AV))) else none) else none) else none) else none)) else (kx0 a1))
def qct  (v7 : List AV) (v8 : Int) (Aa : List UInt8) (Ab Ac : Int) (Ad : List AV) (kx0 : (List AV) → Option (List AV)) : Nat → Int → (List AV) → Option (List AV)
  | 0 => (fun _ _ => none)
  | n + 1 => (fun v9 a1 => qdr v7 v8 v9 Aa Ab Ac Ad a1 (qct v7 v8 Aa Ab Ac Ad kx0 n) kx0)
def qoa := hull (qct)
theorem quc : qoa = qct := qb _
def quq : SubB Tryd.prog (TIof Tryd.prog) 26 0 (kret [.t 2] (decF true 16)) := lpB tabOk follows Tryd.f56 75 (.s .z (.s (.s .z (.v [.sel [3] [1]])) (.s (.b (.s (.r [(0, .p (.etac 11 qdn))] []) .z)) (.v [.sel [1, 3, 7, 8, 9] [0, 1]])))) S2_ (qct) (fun f v K n => f (v.l 28 0) (v.i 32 0) (v.s 3 0) (v.i 3 1) (v.i 3 2) (v.l 3 3) (qj7 K) n) (fun v f K => qdr (v.l 28 0) (v.i 32 0) (v.i 36 0) (v.s 3 0) (v.i 3 1) (v.i 3 2) (v.l 3 3) (v.r 1) f (qj7 K)) (fun f v => f (v.i 36 0) (v.r 1)) (fun k v => (fun z0 z1 => k ((v.ui 36 0 z0).ur 1 z1))) (by kernel_rfl) (fun _ _ => (by kernel_rfl)) (fun _ _ _ => (by kernel_rfl)) (fun _ _ _ => (by kernel_rfl)) (fun _ _ => (by kernel_rfl)) (fun _ _ _ _ _ => (by kernel_rfl))
def qg6 (Ae : List UInt8) (Af Ag : Int) (Ah : List AV) : Option (List AV) :=
  (bif (hd ([] : List AV) (([] : List AV).length) && true) then (qoa Ah (Ah.length : Int) Ae Af Ag Ah (fun a0q1 => (bif hd a0q1 a0q1.length then (some a0q1) else none)) FU (0 : Int) ([] : List AV)) else none)
def qm2 := hull qg6
theorem qym : qm2 = qg6 := qb _
def qzr {R : Type} : EntF Tryd.prog R := entB (nt := 26) (dec := (decF true 16)) (enc := (AV.fr true 16)) tabOk follows Tryd.func56 [.t 2] hdeF (.s .z (.s .z (.s (.s .z (.b (.sub [.own 3 16, .sel [1, 3, 7, 8, 9] [0, 1]] quq []))) .z))) S3_ qg6 (fun f v => f (v.s 1 0) (v.i 1 1) (v.i 1 2) (v.l 1 3)) (by kernel_rfl) (by kernel_rfl) (by kernel_rfl) fun _ => (by kernel_rfl)
def qj8 : List LT := [.s, (.i .i64), (.i .i64), .b, (.i .u64), (.i .u64), .s, .s, .s, (.i .i64), (.i .i64), (.i .i64), (.i .i64), (.i .i64), (.i .i64), (.i .u64)]
def S4_ : Shp := ⟨[(0, .one (.l .s)), (1, .one (.l .s))], []⟩
def qdf (v0 v1 : List UInt8) : Option Bool :=
  (bif (decide ((v0.length : Int) ≥ (v1.length : Int))) then (oB (cutI v0 (some (IntKind.i64.wrap ((v0.length : Int) - (v1.length : Int)))) none) fun s1 => (some (s1 == v1))) else (some false))
def qjq := hull qdf
theorem qob : qjq = qdf := qb _
def qpf {R : Type} : EntF Tryd.prog R := entB (nt := 21) (dec := decB) (enc := AV.bool) tabOk follows Tryd.func51 [.t 4] hdeB (.z) S4_ qdf (fun f v => f (v.s 0 0) (v.s 4 0)) (by kernel_rfl) (by kernel_rfl) (by kernel_rfl) fun _ => (by kernel_rfl)
def qee (v0 v1 : List UInt8) : Option Bool :=
  (oB (qjq v0 v1) fun r1 => (some r1))
def qfh := hull qee
theorem qsa : qfh = qee := qb _
def qk4 {R : Type} : EntF Tryd.prog R := entB (nt := 8) (dec := decB) (enc := AV.bool) tabOk follows Tryd.func23 [.t 4] hdeB (.s .z (.s (.r [(2, .c qpf.b)] []) .z)) S4_ qee (fun f v => f (v.s 0 0) (v.s 4 0)) (by kernel_rfl) (by kernel_rfl) (by kernel_rfl) fun _ => (by kernel_rfl)
theorem q5j {R : Type} : qei Tryd.prog 78 (qly (R := R)) := q78 Tryd.func78 (by kernel_rfl) (by kernel_rfl) (by kernel_rfl) (by kernel_rfl)
theorem q5k {R : Type} : qei Tryd.prog 97 (qlz (R := R)) := q79 Tryd.func97 (by kernel_rfl) (by kernel_rfl) (by kernel_rfl) (by kernel_rfl)
def S5_ : Shp := ⟨[(0, .one (.l .s)), (1, .one (.l (.i .u8)))], []⟩
def qdg (v0 : List UInt8) (v1 : Int) : Option Int :=
  (oB (qnx v0 v1) fun r1 => (some r1))
def qjr := hull qdg
theorem qoc : qjr = qdg := qb _
def qpg {R : Type} : EntF Tryd.prog R := entB (nt := 8) (dec := (decI .i64)) (enc := (AV.int .i64)) tabOk follows Tryd.func90 [.t 4] hdeI (.s .z (.s (.r [(2, .c (eK q5k))] []) .z)) S5_ qdg (fun f v => f (v.s 0 0) (v.i 4 0)) (by kernel_rfl) (by kernel_rfl) (by kernel_rfl) fun _ => (by kernel_rfl)
def qef (v0 v1 : List UInt8) : Option Int :=
  (bif (((v1.length : Int) == (0 : Int)) || (v1 == v0)) then (some (0 : Int)) else (bif ((v1.length : Int) == (1 : Int)) then (oB (ixB v1 (0 : Int)) fun c1 => (oB (qjr v0 (c1.toNat : Int)) fun r2 => (some r2))) else (bif (decide ((v1.length : Int) ≥ (v0.length : Int))) then (some (-1 : Int)) else none)))
def qne := hull qef
theorem qsb : qne = qef := qb _
def qud {R : Type} : EntF Tryd.prog R := entB (nt := 143) (dec := (decI .i64)) (enc := (AV.int .i64)) tabOk follows Tryd.func79 [.t 4] hdeI (.s .z (.s .z (.s (.b (.s (.r [(3, .g 3)] []) (.s .z (.s .z (.s (.s (.r [(3, .c qpg.b)] []) .z) .z))))) (.s .z (.s .z (.s .z (.s .z (.s .z (.s (.b .x) .z))))))))) S4_ qef (fun f v => f (v.s 0 0) (v.s 4 0)) (by kernel_rfl) (by kernel_rfl) (by kernel_rfl) fun _ => (by kernel_rfl)
def qg7 (v0 v1 : List UInt8) : Option Int :=
  (oB (qne v0 v1) fun r1 => (some r1))
def qis := hull qg7
theorem qyn : qis = qg7 := qb _
def qpm {R : Type} : EntF Tryd.prog R := entB (nt := 8) (dec := (decI .i64)) (enc := (AV.int .i64)) tabOk follows Tryd.func69 [.t 4] hdeI (.s .z (.s (.r [(2, .c qud.b)] []) .z)) S4_ qg7 (fun f v => f (v.s 0 0) (v.s 4 0)) (by kernel_rfl) (by kernel_rfl) (by kernel_rfl) fun _ => (by kernel_rfl)
def S6_ : Shp := ⟨[(0, .one (.l .s)), (1, .one (.l .s)), (5, .one (.l (.i .i64)))], []⟩
def qk5  (v0 v1 : List UInt8) (v5 : Int) (next : (List UInt8) → Int → Option Int) : Option Int :=
  (oB (qis v0 v1) fun r1 => (bif (r1 == (-1 : Int)) then (some v5) else (oB (cutI v0 (some (IntKind.i64.wrap (r1 + (v1.length : Int)))) none) fun s2 => (next s2 (IntKind.i64.wrap (v5 + (1 : Int)))))))
def qg0  (v1 : List UInt8) : Nat → (List UInt8) → Int → Option Int
  | 0 => (fun _ _ => none)
  | n + 1 => (fun v0 v5 => qk5 v0 v1 v5 (qg0 v1 n))
def qxa := hull (qg0)
def que : SubB Tryd.prog (TIof Tryd.prog) 34 0 (kret [.t 4] (decI .i64)) := lpB tabOk follows Tryd.f68 79 (.b (.s (.r [(2, .c qpm.b)] []) (.s .z (.s .z (.v [.sel [0, 1, 5] []]))))) S6_ (qg0) (fun f v K n => f (v.s 4 0) n) (fun v f K => qk5 (v.s 0 0) (v.s 4 0) (v.i 20 0) f) (fun f v => f (v.s 0 0) (v.i 20 0)) (fun k v => (fun z0 z1 => k ((v.us 0 0 z0).ui 20 0 z1))) (by kernel_rfl) (fun _ _ => (by kernel_rfl)) (fun _ _ _ => (by kernel_rfl)) (fun _ _ _ => (by kernel_rfl)) (fun _ _ => (by kernel_rfl)) (fun _ _ _ _ _ => (by kernel_rfl))
def qg8 (v0 v1 : List UInt8) : Option Int :=
  (bif ((v1.length : Int) == (0 : Int)) then none else (bif ((v1.length : Int) == (1 : Int)) then (oB (ixB v1 (0 : Int)) fun c1 => (oB (qnw v0 (c1.toNat : Int)) fun r2 => (some r2))) else (qxa v1 FU v0 (0 : Int))))
def qm3 := hull qg8
theorem qyo : qm3 = qg8 := qb _
def qzs {R : Type} : EntF Tryd.prog R := entB (nt := 34) (dec := (decI .i64)) (enc := (AV.int .i64)) tabOk follows Tryd.func68 [.t 4] hdeI (.s .z (.s (.s .z (.s (.s (.r [(1, .c (eK (qbbo (f := 76))))] []) .z) .z)) (.s (.s .z (.s (.s (.r [(3, .c (eK q5j))] []) .z) .z)) (.s .z (.b (.sub [.sel [0, 1, 5] []] que [])))))) S4_ qg8 (fun f v => f (v.s 0 0) (v.s 4 0)) (by kernel_rfl) (by kernel_rfl) (by kernel_rfl) fun _ => (by kernel_rfl)
def S7_ : Shp := ⟨[(0, .one (.l .s)), (1, .one (.l .s)), (2, .one (.l (.i .i64))), (3, .one (.l (.i .i64)))], []⟩
def S8_ : Shp := ⟨[(0, .one (.l .s)), (1, .one (.l .s)), (2, .one (.l (.i .i64))), (3, .one (.l (.i .i64))), (9, .one (.own 0)), (10, .one (.l (.i .i64)))], [.arr true 1]⟩
def qph  (v0 v1 : List UInt8) (v2 : Int) (K : Ex → Env → Mem → Option (List AV)) := (fun z_v3 => K .norm (qi [(0, (.str v0)), (1, (.str v1)), (2, (.int .i64 v2)), (3, (.int .i64 z_v3))]) (qj []))
def qdo  (v0 v1 : List UInt8) (v2 v3 : Int) (kn : Int → Option (List AV)) : Option (List AV) :=
  (bif (decide (v3 < (0 : Int))) then (oB (qm3 v0 v1) fun r1 => (kn (IntKind.i64.wrap (r1 + (1 : Int))))) else (kn v3))
def qj9 := hull (qdo)
theorem qpi : qj9 = qdo := qb _
def qqq : SubB Tryd.prog (TIof Tryd.prog) 66 0 (kret [.t 8] (decX (.one (.sl 1)) fun z => aL z)) := jnB tabOk follows Tryd.f52 23 (.s .z (.s (.r [(2, .c qzs.b)] [.sel [0, 1, 2, 3] []]) (.v [.sel [0, 1, 2, 3] []]))) S7_ (qdo) (fun f v K => f (v.s 0 0) (v.s 4 0) (v.i 8 0) (v.i 12 0) (qph (v.s 0 0) (v.s 4 0) (v.i 8 0) K)) (by kernel_rfl) (fun _ _ => (by kernel_rfl))
def qht  (K : Ex → Env → Mem → Option (List AV)) := (fun z_v0 z_v10 z_a0 => K (.exit 0) (qi [(0, (.str z_v0)), (9, (.own 0 z_a0.length)), (10, (.int .i64 z_v10))]) (qj [(some (.arr true 1 z_a0))]))
def qcm  (v0 v1 : List UInt8) (v2 v3 v10 : Int) (a0 : List AV) (next : (List UInt8) → Int → (List AV) → Option (List AV)) (kx0 : (List UInt8) → Int → (List AV) → Option (List AV)) : Option (List AV) :=
  (bif (decide (v10 < v3)) then (oB (qis v0 v1) fun r1 => (bif (decide (r1 < (0 : Int))) then (kx0 v0 v10 a0) else (oB (cutI v0 none (some (IntKind.i64.wrap (r1 + v2)))) fun s2 => (bif hd a0 a0.length then (bif decide (0 ≤ v10 ∧ v10 < a0.length) then (bif hd a0 a0.length then (oB (a0[v10.toNat]?) fun y3 => (oB (putE y3 0 1 [(.str s2)]) fun z4 => (oB (cutI v0 (some (IntKind.i64.wrap (r1 + (v1.length : Int)))) none) fun s5 => (bif hd (a0.set v10.toNat z4) a0.length then (next s5 (IntKind.i64.wrap (v10 + (1 : Int))) (a0.set v10.toNat z4)) else none)))) else none) else none) else none)))) else (kx0 v0 v10 a0))
def qbk  (v1 : List UInt8) (v2 v3 : Int) (kx0 : (List UInt8) → Int → (List AV) → Option (List AV)) : Nat → (List UInt8) → Int → (List AV) → Option (List AV)
  | 0 => (fun _ _ _ => none)
  | n + 1 => (fun v0 v10 a0 => qcm v0 v1 v2 v3 v10 a0 (qbk v1 v2 v3 kx0 n) kx0)
def qka := hull (qbk)
theorem qpj : qka = qbk := qb _
def qqr : SubB Tryd.prog (TIof Tryd.prog) 66 0 (kret [.t 8] (decX (.one (.sl 1)) fun z => aL z)) := lpB tabOk follows Tryd.f52 2303 (.s (.s .z (.s .z (.v [.sel [0, 9, 10] [0]]))) (.b (.s (.r [(2, .c qpm.b)] []) (.s (.s .z (.s (.v [.sel [0, 9, 10] [0]]) .z)) (.s .z (.s .z (.v [.hd 9, .sel [0, 1, 2, 3, 9, 10] [0]]))))))) S8_ (qbk) (fun f v K n => f (v.s 4 0) (v.i 8 0) (v.i 12 0) (qht K) n) (fun v f K => qcm (v.s 0 0) (v.s 4 0) (v.i 8 0) (v.i 12 0) (v.i 40 0) (v.r 0) f (qht K)) (fun f v => f (v.s 0 0) (v.i 40 0) (v.r 0)) (fun k v => (fun z0 z1 z2 => k (((v.us 0 0 z0).ui 40 0 z1).ur 0 z2))) (by kernel_rfl) (fun _ _ => (by kernel_rfl)) (fun _ _ _ => (by kernel_rfl)) (fun _ _ _ => (by kernel_rfl)) (fun _ _ => (by kernel_rfl)) (fun _ _ _ _ _ => (by kernel_rfl))
def qes (v0 v1 : List UInt8) (v2 v3 : Int) : Option (List AV) :=
  (bif (v3 == (0 : Int)) then (some ([] : List AV)) else (bif (v1 == ([] : List UInt8)) then none else (qj9 v0 v1 v2 v3 (fun v3q1 => (bif decide (0 ≤ (if (IntKind.i64.wrap ((v0.length : Int) + (1 : Int))) < v3q1 then (IntKind.i64.wrap ((v0.length : Int) + (1 : Int))) else v3q1) ∧ (if (IntKind.i64.wrap ((v0.length : Int) + (1 : Int))) < v3q1 then (IntKind.i64.wrap ((v0.length : Int) + (1 : Int))) else v3q1) ≤ (if (IntKind.i64.wrap ((v0.length : Int) + (1 : Int))) < v3q1 then (IntKind.i64.wrap ((v0.length : Int) + (1 : Int))) else v3q1) ∧ (if (IntKind.i64.wrap ((v0.length : Int) + (1 : Int))) < v3q1 then (IntKind.i64.wrap ((v0.length : Int) + (1 : Int))) else v3q1) * 16 ≤ 281474976710656) then (bif (hd (List.replicate (if (IntKind.i64.wrap ((v0.length : Int) + (1 : Int))) < v3q1 then (IntKind.i64.wrap ((v0.length : Int) + (1 : Int))) else v3q1).toNat ((.str ([] : List UInt8)) : AV)) ((List.replicate (if (IntKind.i64.wrap ((v0.length : Int) + (1 : Int))) < v3q1 then (IntKind.i64.wrap ((v0.length : Int) + (1 : Int))) else v3q1).toNat ((.str ([] : List UInt8)) : AV)).length) && true) then (qka v1 v2 (IntKind.i64.wrap ((if (IntKind.i64.wrap ((v0.length : Int) + (1 : Int))) < v3q1 then (IntKind.i64.wrap ((v0.length : Int) + (1 : Int))) else v3q1) - (1 : Int))) (fun v0q2 v10q3 a0q4 => (bif hd a0q4 a0q4.length then (bif decide (0 ≤ v10q3 ∧ v10q3 < a0q4.length) then (bif hd a0q4 a0q4.length then (oB (a0q4[v10q3.toNat]?) fun y5 => (oB (putE y5 0 1 [(.str v0q2)]) fun z6 => (bif hd (a0q4.set v10q3.toNat z6) a0q4.length then (oB (cutI (a0q4.set v10q3.toNat z6) none (some (IntKind.i64.wrap (v10q3 + (1 : Int))))) fun s7 => (some s7)) else none))) else none) else none) else none)) FU v0 (0 : Int) (List.replicate (if (IntKind.i64.wrap ((v0.length : Int) + (1 : Int))) < v3q1 then (IntKind.i64.wrap ((v0.length : Int) + (1 : Int))) else v3q1).toNat ((.str ([] : List UInt8)) : AV))) else none) else none)))))
def qod := hull qes
theorem quf : qod = qes := qb _
def qur {R : Type} : EntF Tryd.prog R := entB (nt := 66) (dec := (decX (.one (.sl 1)) fun z => aL z)) (enc := (fun r => .sl 1 r)) tabOk follows Tryd.func52 [.t 8] (hdeX fun _ => rfl) (.s .z (.s (.s .z (.s (.s .z (.v [.eta 8 (.one (.sl 1))])) .z)) (.s (.s .z (.s (.s (.r [(2, .c (eK (qbbo (f := 67))))] []) .z) .z)) (.s (.sub [.sel [0, 1, 2, 3] []] qqq []) (.s .z (.s .z (.s .z (.s .z (.s (.b (.sub [.sel [0, 1, 2, 3, 9, 10] [0]] qqr [])) .z))))))))) S7_ qes (fun f v => f (v.s 0 0) (v.s 4 0) (v.i 8 0) (v.i 12 0)) (by kernel_rfl) (by kernel_rfl) (by kernel_rfl) fun _ => (by kernel_rfl)
def qg9 (v0 v1 : List UInt8) : Option (List AV) :=
  (oB (qod v0 v1 (0 : Int) (-1 : Int)) fun r1 => (some r1))
def qit := hull qg9
theorem qyp : qit = qg9 := qb _
def qpn {R : Type} : EntF Tryd.prog R := entB (nt := 8) (dec := (decX (.one (.sl 1)) fun z => aL z)) (enc := (fun r => .sl 1 r)) tabOk follows Tryd.func24 [.t 4] (hdeX fun _ => rfl) (.s .z (.s (.r [(2, .k qur.b)] []) .z)) S4_ qg9 (fun f v => f (v.s 0 0) (v.s 4 0)) (by kernel_rfl) (by kernel_rfl) (by kernel_rfl) fun _ => (by kernel_rfl)
def S9_ : Shp := ⟨[(0, .one (.l .s)), (4, .one (.l (.i .u8))), (13, .one (.l (.i .i64))), (14, .one (.l (.i .i64)))], []⟩
def S10_ : Shp := ⟨[(0, .one (.l .s)), (13, .one (.l (.i .i64))), (14, .one (.l (.i .i64)))], []⟩
def S11_ : Shp := ⟨[(0, .one (.l .s))], []⟩
def qq3  (v0 : List UInt8) (v13 v14 : Int) (K : Ex → Env → Mem → Option Bool) := (fun z_v41 => K .norm (qi [(0, (.str v0)), (13, (.int .i64 v13)), (14, (.int .i64 v14)), (41, (.bool z_v41))]) (qj []))
def qd1  (v0 : List UInt8) (v4 v13 v14 : Int) (kn : Bool → Option Bool) : Option Bool :=
  (bif ((decide (v4 < (97 : Int))) || (decide (v4 > (122 : Int)))) then (bif (decide (v4 < (48 : Int))) then (kn ((v4 != (45 : Int)) && (v4 != (95 : Int)))) else (kn (((decide (v4 > (57 : Int))) && (v4 != (45 : Int))) && (v4 != (95 : Int))))) else (kn false))
def qhu := hull (qd1)
theorem qq4 : qhu = qd1 := qb _
def qsc : SubB Tryd.prog (TIof Tryd.prog) 43 0 (kret [.t 2] decB) := jnB tabOk follows Tryd.f25 11467 (.r [(3, .g 2), (15, .g 2), (19, .g 2)] [.sel [0, 13, 14, 41] []]) S9_ (qd1) (fun f v K => f (v.s 0 0) (v.i 16 0) (v.i 52 0) (v.i 56 0) (qq3 (v.s 0 0) (v.i 52 0) (v.i 56 0) K)) (by kernel_rfl) (fun _ _ => (by kernel_rfl))
def qio  (K : Ex → Env → Mem → Option Bool) := (fun (_ : Unit) => K (.exit 0) (qi []) (qj []))
def qc0  (v0 : List UInt8) (v13 v14 : Int) (next : Int → Option Bool) (kx0 : Unit → Option Bool) : Option Bool :=
  (bif (decide (v14 < v13)) then (oB (ixB v0 v14) fun c1 => (qhu v0 (c1.toNat : Int) v13 v14 (fun v41q2 => (bif v41q2 then (some false) else (next (IntKind.i64.wrap (v14 + (1 : Int)))))))) else (kx0 ()))
def qc1  (v0 : List UInt8) (v13 : Int) (kx0 : Unit → Option Bool) : Nat → Int → Option Bool
  | 0 => (fun _ => none)
  | n + 1 => (fun v14 => qc0 v0 v13 v14 (qc1 v0 v13 kx0 n) kx0)
def qmn := hull (qc1)
theorem qq5 : qmn = qc1 := qb _
def qsd : SubB Tryd.prog (TIof Tryd.prog) 43 0 (kret [.t 2] decB) := lpB tabOk follows Tryd.f25 75 (.s .z (.s (.s .z (.v [.sel [] []])) (.s (.b (.s .z (.s .z (.s (.sub [.sel [0, 4, 13, 14] []] qsc []) .z)))) (.v [.sel [0, 13, 14] []])))) S10_ (qc1) (fun f v K n => f (v.s 0 0) (v.i 52 0) (qio K) n) (fun v f K => qc0 (v.s 0 0) (v.i 52 0) (v.i 56 0) f (qio K)) (fun f v => f (v.i 56 0)) (fun k v => (fun z0 => k (v.ui 56 0 z0))) (by kernel_rfl) (fun _ _ => (by kernel_rfl)) (fun _ _ _ => (by kernel_rfl)) (fun _ _ _ => (by kernel_rfl)) (fun _ _ => (by kernel_rfl)) (fun _ _ _ _ _ => (by kernel_rfl))
def qgc (v0 : List UInt8) : Option Bool :=
  (bif ((v0 == ([] : List UInt8)) || (decide ((v0.length : Int) > (63 : Int)))) then (some false) else (qmn v0 (v0.length : Int) (fun (_ : Unit) => (some true)) FU (0 : Int)))
def qlb := hull qgc
theorem qxb : qlb = qgc := qb _
def qyq {R : Type} : EntF Tryd.prog R := entB (nt := 43) (dec := decB) (enc := AV.bool) tabOk follows Tryd.func25 [.t 2] hdeB (.s .z (.s (.s (.r [(3, .g 3)] []) .z) (.s (.s .z (.b (.sub [.sel [0, 13, 14] []] qsd []))) .z))) S11_ qgc (fun f v => f (v.s 0 0)) (by kernel_rfl) (by kernel_rfl) (by kernel_rfl) fun _ => (by kernel_rfl)
def S12_ : Shp := ⟨[(3, .one (.l (.i .i64))), (4, .one (.l .s)), (20, .one (.l (.sl 1))), (21, .one (.l (.i .i64))), (22, .one (.l (.i .i64)))], []⟩
def S13_ : Shp := ⟨[(20, .one (.l (.sl 1))), (21, .one (.l (.i .i64))), (22, .one (.l (.i .i64)))], []⟩
def qus  (v0 : List UInt8) (K : Ex → Env → Mem → Option Bool) := (fun z_v14 => K .norm (qi [(0, (.str v0)), (14, (.bool z_v14))]) (qj []))
def qfi  (v0 : List UInt8) (kn : Bool → Option Bool) : Option Bool :=
  (bif (decide ((v0.length : Int) ≥ (255 : Int))) then (kn true) else (oB (qfh v0 ([46] : List UInt8)) fun r1 => (kn (!r1))))
def qpo := hull (qfi)
theorem qut : qpo = qfi := qb _
def qxc : SubB Tryd.prog (TIof Tryd.prog) 39 0 (kret [.t 2] decB) := jnB tabOk follows Tryd.f10 19 (.r [(5, .c qk4.b)] [.sel [0, 14] []]) S11_ (qfi) (fun f v K => f (v.s 0 0) (qus (v.s 0 0) K)) (by kernel_rfl) (fun _ _ => (by kernel_rfl))
def quu  (v20 : List AV) (v21 v22 : Int) (K : Ex → Env → Mem → Option Bool) := (fun z_v37 => K .norm (qi [(20, (.sl 1 v20)), (21, (.int .i64 v21)), (22, (.int .i64 v22)), (37, (.bool z_v37))]) (qj []))
def qfj  (v3 : Int) (v4 : List UInt8) (v20 : List AV) (v21 v22 : Int) (kn : Bool → Option Bool) : Option Bool :=
  (oB (qlb v4) fun r1 => (bif (!r1) then (bif (decide (v3 > (0 : Int))) then (kn true) else (kn (!(v4 == ([42] : List UInt8))))) else (kn false)))
def qpp := hull (qfj)
theorem quv : qpp = qfj := qb _
def qxd : SubB Tryd.prog (TIof Tryd.prog) 39 0 (kret [.t 2] decB) := jnB tabOk follows Tryd.f10 10647 (.r [(1, .c qyq.b)] [.sel [20, 21, 22, 37] []]) S12_ (qfj) (fun f v K => f (v.i 12 0) (v.s 16 0) (v.l 80 0) (v.i 84 0) (v.i 88 0) (quu (v.l 80 0) (v.i 84 0) (v.i 88 0) K)) (by kernel_rfl) (fun _ _ => (by kernel_rfl))
def qk6  (K : Ex → Env → Mem → Option Bool) := (fun (_ : Unit) => K (.exit 0) (qi []) (qj []))
def qdx  (v20 : List AV) (v21 v22 : Int) (next : Int → Option Bool) (kx0 : Unit → Option Bool) : Option Bool :=
  (bif (decide (v22 < v21)) then (oB (ixB v20 v22) fun y1 => (bif fitC [.s] y1.cells then (qpp v22 (gS y1.cells 0) v20 v21 v22 (fun v37q2 => (bif v37q2 then (some false) else (next (IntKind.i64.wrap (v22 + (1 : Int))))))) else none)) else (kx0 ()))
def qdy  (v20 : List AV) (v21 : Int) (kx0 : Unit → Option Bool) : Nat → Int → Option Bool
  | 0 => (fun _ => none)
  | n + 1 => (fun v22 => qdx v20 v21 v22 (qdy v20 v21 kx0 n) kx0)
def qkb := hull (qdy)
theorem quw : qkb = qdy := qb _
def qxe : SubB Tryd.prog (TIof Tryd.prog) 39 0 (kret [.t 2] decB) := lpB tabOk follows Tryd.f10 151 (.s .z (.s (.s .z (.v [.sel [] []])) (.s (.b (.s (.r [(1, .p (.etac 25 [.s]))] []) (.s (.sub [.sel [3, 4, 20, 21, 22] []] qxd []) .z))) (.v [.sel [20, 21, 22] []])))) S13_ (qdy) (fun f v K n => f (v.l 80 0) (v.i 84 0) (qk6 K) n) (fun v f K => qdx (v.l 80 0) (v.i 84 0) (v.i 88 0) f (qk6 K)) (fun f v => f (v.i 88 0)) (fun k v => (fun z0 => k (v.ui 88 0 z0))) (by kernel_rfl) (fun _ _ => (by kernel_rfl)) (fun _ _ _ => (by kernel_rfl)) (fun _ _ _ => (by kernel_rfl)) (fun _ _ => (by kernel_rfl)) (fun _ _ _ _ _ => (by kernel_rfl))
def qiu (v0 : List UInt8) : Option Bool :=
  (bif (v0 == ([46] : List UInt8)) then (some true) else (qpo v0 (fun v14q1 => (bif v14q1 then (some false) else (oB (cutI v0 none (some (IntKind.i64.wrap ((v0.length : Int) - (1 : Int))))) fun s2 => (oB (qit s2 ([46] : List UInt8)) fun r3 => (qkb r3 (r3.length : Int) (fun (_ : Unit) => (some true)) FU (0 : Int))))))))
def qbs := hull qiu
theorem q10 : qbs = qiu := qb _
def qcf {R : Type} : EntF Tryd.prog R := entB (nt := 39) (dec := decB) (enc := AV.bool) tabOk follows Tryd.func10 [.t 2] hdeB (.s .z (.s .z (.s (.s (.sub [.sel [0] []] qxc []) .z) (.s (.s (.r [(5, .k qpn.b)] []) (.b (.sub [.sel [20, 21, 22] []] qxe []))) .z)))) S11_ qiu (fun f v => f (v.s 0 0)) (by kernel_rfl) (by kernel_rfl) (by kernel_rfl) fun _ => (by kernel_rfl)
def qiv : Option (List AV) :=
  (bif hd ([(.agg [(.int .i64 (1 : Int)), (.str ([65] : List UInt8)), (.str ([52] : List UInt8))]), (.agg [(.int .i64 (2 : Int)), (.str ([78, 83] : List UInt8)), (.str ([104] : List UInt8))]), (.agg [(.int .i64 (5 : Int)), (.str ([67, 78, 65, 77, 69] : List UInt8)), (.str ([104] : List UInt8))]), (.agg [(.int .i64 (6 : Int)), (.str ([83, 79, 65] : List UInt8)), (.str ([104, 109, 118, 119, 120, 121, 122] : List UInt8))]), (.agg [(.int .i64 (12 : Int)), (.str ([80, 84, 82] : List UInt8)), (.str ([104] : List UInt8))]), (.agg [(.int .i64 (15 : Int)), (.str ([77, 88] : List UInt8)), (.str ([65, 104] : List UInt8))]), (.agg [(.int .i64 (16 : Int)), (.str ([84, 88, 84] : List UInt8)), (.str ([116] : List UInt8))]), (.agg [(.int .i64 (28 : Int)), (.str ([65, 65, 65, 65] : List UInt8)), (.str ([54] : List UInt8))]), (.agg [(.int .i64 (33 : Int)), (.str ([83, 82, 86] : List UInt8)), (.str ([65, 66, 67, 104] : List UInt8))]), (.agg [(.int .i64 (39 : Int)), (.str ([68, 78, 65, 77, 69] : List UInt8)), (.str ([104] : List UInt8))]), (.agg [(.int .i64 (43 : Int)), (.str ([68, 83] : List UInt8)), (.str ([65, 98, 99, 114] : List UInt8))]), (.agg [(.int .i64 (46 : Int)), (.str ([82, 82, 83, 73, 71] : List UInt8)), (.str ([65, 115, 98, 120, 121, 122, 70, 104, 114] : List UInt8))]), (.agg [(.int .i64 (47 : Int)), (.str ([78, 83, 69, 67] : List UInt8)), (.str ([104, 110] : List UInt8))]), (.agg [(.int .i64 (48 : Int)), (.str ([68, 78, 83, 75, 69, 89] : List UInt8)), (.str ([65, 98, 99, 114] : List UInt8))])] : List AV) (([(.agg [(.int .i64 (1 : Int)), (.str ([65] : List UInt8)), (.str ([52] : List UInt8))]), (.agg [(.int .i64 (2 : Int)), (.str ([78, 83] : List UInt8)), (.str ([104] : List UInt8))]), (.agg [(.int .i64 (5 : Int)), (.str ([67, 78, 65, 77, 69] : List UInt8)), (.str ([104] : List UInt8))]), (.agg [(.int .i64 (6 : Int)), (.str ([83, 79, 65] : List UInt8)), (.str ([104, 109, 118, 119, 120, 121, 122] : List UInt8))]), (.agg [(.int .i64 (12 : Int)), (.str ([80, 84, 82] : List UInt8)), (.str ([104] : List UInt8))]), (.agg [(.int .i64 (15 : Int)), (.str ([77, 88] : List UInt8)), (.str ([65, 104] : List UInt8))]), (.agg [(.int .i64 (16 : Int)), (.str ([84, 88, 84] : List UInt8)), (.str ([116] : List UInt8))]), (.agg [(.int .i64 (28 : Int)), (.str ([65, 65, 65, 65] : List UInt8)), (.str ([54] : List UInt8))]), (.agg [(.int .i64 (33 : Int)), (.str ([83, 82, 86] : List UInt8)), (.str ([65, 66, 67, 104] : List UInt8))]), (.agg [(.int .i64 (39 : Int)), (.str ([68, 78, 65, 77, 69] : List UInt8)), (.str ([104] : List UInt8))]), (.agg [(.int .i64 (43 : Int)), (.str ([68, 83] : List UInt8)), (.str ([65, 98, 99, 114] : List UInt8))]), (.agg [(.int .i64 (46 : Int)), (.str ([82, 82, 83, 73, 71] : List UInt8)), (.str ([65, 115, 98, 120, 121, 122, 70, 104, 114] : List UInt8))]), (.agg [(.int .i64 (47 : Int)), (.str ([78, 83, 69, 67] : List UInt8)), (.str ([104, 110] : List UInt8))]), (.agg [(.int .i64 (48 : Int)), (.str ([68, 78, 83, 75, 69, 89] : List UInt8)), (.str ([65, 98, 99, 114] : List UInt8))])] : List AV).length) then (some ([(.agg [(.int .i64 (1 : Int)), (.str ([65] : List UInt8)), (.str ([52] : List UInt8))]), (.agg [(.int .i64 (2 : Int)), (.str ([78, 83] : List UInt8)), (.str ([104] : List UInt8))]), (.agg [(.int .i64 (5 : Int)), (.str ([67, 78, 65, 77, 69] : List UInt8)), (.str ([104] : List UInt8))]), (.agg [(.int .i64 (6 : Int)), (.str ([83, 79, 65] : List UInt8)), (.str ([104, 109, 118, 119, 120, 121, 122] : List UInt8))]), (.agg [(.int .i64 (12 : Int)), (.str ([80, 84, 82] : List UInt8)), (.str ([104] : List UInt8))]), (.agg [(.int .i64 (15 : Int)), (.str ([77, 88] : List UInt8)), (.str ([65, 104] : List UInt8))]), (.agg [(.int .i64 (16 : Int)), (.str ([84, 88, 84] : List UInt8)), (.str ([116] : List UInt8))]), (.agg [(.int .i64 (28 : Int)), (.str ([65, 65, 65, 65] : List UInt8)), (.str ([54] : List UInt8))]), (.agg [(.int .i64 (33 : Int)), (.str ([83, 82, 86] : List UInt8)), (.str ([65, 66, 67, 104] : List UInt8))]), (.agg [(.int .i64 (39 : Int)), (.str ([68, 78, 65, 77, 69] : List UInt8)), (.str ([104] : List UInt8))]), (.agg [(.int .i64 (43 : Int)), (.str ([68, 83] : List UInt8)), (.str ([65, 98, 99, 114] : List UInt8))]), (.agg [(.int .i64 (46 : Int)), (.str ([82, 82, 83, 73, 71] : List UInt8)), (.str ([65, 115, 98, 120, 121, 122, 70, 104, 114] : List UInt8))]), (.agg [(.int .i64 (47 : Int)), (.str ([78, 83, 69, 67] : List UInt8)), (.str ([104, 110] : List UInt8))]), (.agg [(.int .i64 (48 : Int)), (.str ([68, 78, 83, 75, 69, 89] : List UInt8)), (.str ([65, 98, 99, 114] : List UInt8))])] : List AV)) else none)
def ql5 := hull qiv
theorem q11 : ql5 = qiv := qb _
def qtr {R : Type} : EntF Tryd.prog R := entB (nt := 16) (dec := (decF true 3)) (enc := (AV.fr true 3)) tabOk follows Tryd.func94 [.t 0] hdeF (.z) (⟨[], []⟩ : Shp) qiv (fun f v => f) (by kernel_rfl) (by kernel_rfl) (by kernel_rfl) fun _ => (by kernel_rfl)
def qfw : List LT := [(.i .i64), .s, .s]
def qzt (x0 : Int) (x1 x2 : List UInt8) : List AV := [.int .i64 x0, .str x1, .str x2]
def S14_ : Shp := ⟨[(0, .one (.l (.i .i64))), (2, .one (.ptr 0 0)), (6, .one (.l (.sl 3))), (7, .one (.l (.i .i64))), (8, .one (.l (.i .i64)))], [.box true (lk qfw)]⟩
def qq6 : AV → Option (AV × Bool) := decN [(.st [(.i .i64), .s, .s]), (.one .b)] fun z => ((gC (tpL z) 0), aB (gC (tpL z) 1))
def qnf  (Aa : Int) (Ab Ac : List UInt8) (K : Ex → Env → Mem → Option (AV × Bool)) := (fun (_ : Unit) => K (.exit 0) (qi [(2, (.ptr 0 0))]) (qj [(some (.box true (qzt Aa Ab Ac)))]))
def qet  (v0 : Int) (v6 : List AV) (v7 v8 Aa : Int) (Ab Ac : List UInt8) (next : Int → Option (AV × Bool)) (kx0 : Unit → Option (AV × Bool)) : Option (AV × Bool) :=
  (bif (decide (v8 < v7)) then (oB (ixB v6 v8) fun y1 => (bif fitC qfw y1.cells then (bif ((gI y1.cells 0) == v0) then (some ((.agg [(.int .i64 (gI y1.cells 0)), (.str (gS y1.cells 1)), (.str (gS y1.cells 2))]), true)) else (next (IntKind.i64.wrap (v8 + (1 : Int))))) else none)) else (kx0 ()))
def qeu  (v0 : Int) (v6 : List AV) (v7 Aa : Int) (Ab Ac : List UInt8) (kx0 : Unit → Option (AV × Bool)) : Nat → Int → Option (AV × Bool)
  | 0 => (fun _ => none)
  | n + 1 => (fun v8 => qet v0 v6 v7 v8 Aa Ab Ac (qeu v0 v6 v7 Aa Ab Ac kx0 n) kx0)
def qts := hull (qeu)
theorem qyr : qts = qeu := qb _
def qzu : SubB Tryd.prog (TIof Tryd.prog) 19 0 (kret [(.cell 2 true 3), .t 3] qq6) := lpB tabOk follows Tryd.f80 37 (.s .z (.s (.s .z (.v [.sel [2] [0]])) (.s (.b (.s (.r [(0, .p (.etac 10 qfw))] []) .z)) (.v [.sel [0, 2, 6, 7, 8] [0]])))) S14_ (qeu) (fun f v K n => f (v.i 0 0) (v.l 24 0) (v.i 28 0) (v.i 3 0) (v.s 3 1) (v.s 3 2) (qnf (v.i 3 0) (v.s 3 1) (v.s 3 2) K) n) (fun v f K => qet (v.i 0 0) (v.l 24 0) (v.i 28 0) (v.i 32 0) (v.i 3 0) (v.s 3 1) (v.s 3 2) f (qnf (v.i 3 0) (v.s 3 1) (v.s 3 2) K)) (fun f v => f (v.i 32 0)) (fun k v => (fun z0 => k (v.ui 32 0 z0))) (by kernel_rfl) (fun _ _ => (by kernel_rfl)) (fun _ _ _ => (by kernel_rfl)) (fun _ _ _ => (by kernel_rfl)) (fun _ _ => (by kernel_rfl)) (fun _ _ _ _ _ => (by kernel_rfl))
def qkc (v0 : Int) : Option (AV × Bool) :=
  (oB (ql5) fun r1 => (qts v0 r1 (r1.length : Int) (0 : Int) ([] : List UInt8) ([] : List UInt8) (fun (_ : Unit) => (some ((.agg [(.int .i64 (0 : Int)), (.str ([] : List UInt8)), (.str ([] : List UInt8))]), false))) FU (0 : Int)))
def qzv := hull qkc
theorem q4n : qzv = qkc := qb _
def q5l {R : Type} : EntF Tryd.prog R := entB (nt := 19) (dec := qq6) (enc := (fun r => .tup [qdq (.st [(.i .i64), .s, .s]) r.1, .bool r.2])) tabOk follows Tryd.func80 [(.cell 2 true 3), .t 3] (hdeN fun _ => rfl) (.s .z (.s (.s (.r [(0, .k qtr.b)] []) (.b (.sub [.sel [0, 2, 6, 7, 8] [0]] qzu []))) .z)) S0_ qkc (fun f v => f (v.i 0 0)) (by kernel_rfl) (by kernel_rfl) (by kernel_rfl) fun _ => (by kernel_rfl)
def qiw (v0 : Int) : Option Bool :=
  (oB (qzv v0) fun r1 => (some r1.2))
def ql6 := hull qiw
theorem q12 : ql6 = qiw := qb _
def qtt {R : Type} : EntF Tryd.prog R := entB (nt := 11) (dec := decB) (enc := AV.bool) tabOk follows Tryd.func71 [.t 2] hdeB (.s .z (.s (.r [(1, .c q5l.b)] []) .z)) S0_ qiw (fun f v => f (v.i 0 0)) (by kernel_rfl) (by kernel_rfl) (by kernel_rfl) fun _ => (by kernel_rfl)
def q9b : List LT := [.b, (.i .u64), (.i .u64)]
def S15_ : Shp := ⟨[(0, .st (lk q9b))], []⟩
def qkd (Ae : Bool) (Af Ag : Int) : Option Bool :=
  (bif Ae then (some true) else (bif (Af == (0 : Int)) then (some (decide (Ag ≤ (4294967295 : Int)))) else (some false)))
def qse := hull qkd
theorem q4o : qse = qkd := qb _
def q5m {R : Type} : EntF Tryd.prog R := entB (nt := 15) (dec := decB) (enc := AV.bool) tabOk follows Tryd.func81 [.t 2] hdeB (.z) S15_ qkd (fun f v => f (v.b 1 0) (v.i 1 1) (v.i 1 2)) (by kernel_rfl) (by kernel_rfl) (by kernel_rfl) fun _ => (by kernel_rfl)
def qdh (v0 v1 : List UInt8) : Option Bool :=
  (bif (decide ((v0.length : Int) ≥ (v1.length : Int))) then (oB (cutI v0 none (some (v1.length : Int))) fun s1 => (some (s1 == v1))) else (some false))
def qjs := hull qdh
theorem qoe : qjs = qdh := qb _
def qpk {R : Type} : EntF Tryd.prog R := entB (nt := 18) (dec := decB) (enc := AV.bool) tabOk follows Tryd.func99 [.t 4] hdeB (.z) S4_ qdh (fun f v => f (v.s 0 0) (v.s 4 0)) (by kernel_rfl) (by kernel_rfl) (by kernel_rfl) fun _ => (by kernel_rfl)
def qeg (v0 v1 : List UInt8) : Option Bool :=
  (oB (qjs v0 v1) fun r1 => (some r1))
def qng := hull qeg
theorem qsf : qng = qeg := qb _
def qug {R : Type} : EntF Tryd.prog R := entB (nt := 8) (dec := decB) (enc := AV.bool) tabOk follows Tryd.func95 [.t 4] hdeB (.s .z (.s (.r [(2, .c qpk.b)] []) .z)) S4_ qeg (fun f v => f (v.s 0 0) (v.s 4 0)) (by kernel_rfl) (by kernel_rfl) (by kernel_rfl) fun _ => (by kernel_rfl)
def qke (v0 : List UInt8) : Option Bool :=
  (oB (qbs v0) fun r1 => (bif r1 then (oB (qng v0 ([42] : List UInt8)) fun r2 => (some (!r2))) else (some false)))
def qev := hull qke
theorem q4p : qev = qke := qb _
def qfx {R : Type} : EntF Tryd.prog R := entB (nt := 10) (dec := decB) (enc := AV.bool) tabOk follows Tryd.func82 [.t 2] hdeB (.s .z (.s (.r [(1, .c qcf.b), (4, .c qug.b)] []) .z)) S11_ qke (fun f v => f (v.s 0 0)) (by kernel_rfl) (by kernel_rfl) (by kernel_rfl) fun _ => (by kernel_rfl)
def qlc (v0 : Int) : Option Bool :=
  (some ((decide (v0 ≥ (0 : Int))) && (decide (v0 < (4294967296 : Int)))))
def qof := hull qlc
theorem qzw : qof = qlc := qb _
def q13 {R : Type} : EntF Tryd.prog R := entB (nt := 9) (dec := decB) (enc := AV.bool) tabOk follows Tryd.func83 [.t 2] hdeB (.s .z (.s (.r [(3, .g 2)] []) .z)) S0_ qlc (fun f v => f (v.i 0 0)) (by kernel_rfl) (by kernel_rfl) (by kernel_rfl) fun _ => (by kernel_rfl)
def S16_ : Shp := ⟨[(0, .one (.l (.i .i64))), (1, .one (.l (.i .i64)))], []⟩
def qld (v0 v1 : Int) : Option Bool :=
  (some ((decide (v0 ≥ (0 : Int))) && (decide (v0 ≤ v1))))
def qp := hull qld
theorem qzx : qp = qld := qb _
def qq {R : Type} : EntF Tryd.prog R := entB (nt := 12) (dec := decB) (enc := AV.bool) tabOk follows Tryd.func84 [.t 4] hdeB (.s .z (.s (.r [(3, .g 3)] []) .z)) S16_ qld (fun f v => f (v.i 0 0) (v.i 4 0)) (by kernel_rfl) (by kernel_rfl) (by kernel_rfl) fun _ => (by kernel_rfl)
def qog (v0 : List UInt8) : Option Bool :=
  (some ((decide ((v0.length : Int) ≥ (1 : Int))) && (decide ((v0.length : Int) ≤ (255 : Int)))))
def qkf := hull qog
theorem q4q : qkf = qog := qb _
def qoh {R : Type} : EntF Tryd.prog R := entB (nt := 11) (dec := decB) (enc := AV.bool) tabOk follows Tryd.func85 [.t 2] hdeB (.s .z (.s (.r [(4, .g 3)] []) .z)) S11_ qog (fun f v => f (v.s 0 0)) (by kernel_rfl) (by kernel_rfl) (by kernel_rfl) fun _ => (by kernel_rfl)
def S17_ : Shp := ⟨[(1, .one (.l (.i .u64))), (4, .one (.l (.sl 3))), (5, .one (.l (.i .i64))), (6, .one (.l (.i .i64)))], []⟩
def qoi  (K : Ex → Env → Mem → Option Int) := (fun z_v1 => K (.exit 0) (qi [(1, (.int .u64 z_v1))]) (qj []))
def qfy  (v1 : Int) (v4 : List AV) (v5 v6 : Int) (next : Int → Int → Option Int) (kx0 : Int → Option Int) : Option Int :=
  (bif (decide (v6 < v5)) then (oB (ixB v4 v6) fun y1 => (bif fitC qfw y1.cells then (bif decide ((gI y1.cells 0) < 0) then none else (next (qe3 .or .u64 v1 (IntKind.u64.wrap ((1 : Int) * 2 ^ min (gI y1.cells 0).toNat IntKind.u64.bits))) (IntKind.i64.wrap (v6 + (1 : Int))))) else none)) else (kx0 v1))
def qfz  (v4 : List AV) (v5 : Int) (kx0 : Int → Option Int) : Nat → Int → Int → Option Int
  | 0 => (fun _ _ => none)
  | n + 1 => (fun v1 v6 => qfy v1 v4 v5 v6 (qfz v4 v5 kx0 n) kx0)
def qux := hull (qfz)
theorem qzy : qux = qfz := qb _
def q14 : SubB Tryd.prog (TIof Tryd.prog) 17 0 (kret [.t 0] (decI .u64)) := lpB tabOk follows Tryd.f86 75 (.s .z (.s (.s .z (.v [.sel [1] []])) (.s (.b (.s (.r [(0, .p (.etac 8 qfw))] []) .z)) (.v [.sel [1, 4, 5, 6] []])))) S17_ (qfz) (fun f v K n => f (v.l 16 0) (v.i 20 0) (qoi K) n) (fun v f K => qfy (v.i 4 0) (v.l 16 0) (v.i 20 0) (v.i 24 0) f (qoi K)) (fun f v => f (v.i 4 0) (v.i 24 0)) (fun k v => (fun z0 z1 => k ((v.ui 4 0 z0).ui 24 0 z1))) (by kernel_rfl) (fun _ _ => (by kernel_rfl)) (fun _ _ _ => (by kernel_rfl)) (fun _ _ _ => (by kernel_rfl)) (fun _ _ => (by kernel_rfl)) (fun _ _ _ _ _ => (by kernel_rfl))
def ql7 : Option Int :=
  (oB (ql5) fun r1 => (qux r1 (r1.length : Int) (fun v1q2 => (some v1q2)) FU (0 : Int) (0 : Int)))
def quy := hull ql7
theorem q5n : quy = ql7 := qb _
def q7q {R : Type} : EntF Tryd.prog R := entB (nt := 17) (dec := (decI .u64)) (enc := (AV.int .u64)) tabOk follows Tryd.func86 [.t 0] hdeI (.s .z (.s .z (.s (.s (.r [(0, .k qtr.b)] []) (.b (.sub [.sel [1, 4, 5, 6] []] q14 []))) .z))) (⟨[], []⟩ : Shp) ql7 (fun f v => f) (by kernel_rfl) (by kernel_rfl) (by kernel_rfl) fun _ => (by kernel_rfl)
def qtu (x0 : Bool) (x1 x2 : Int) (x3 x4 x5 : List UInt8) (x6 x7 x8 x9 x10 x11 x12 : Int) : List AV := [.bool x0, .int .u64 x1, .int .u64 x2, .str x3, .str x4, .str x5, .int .i64 x6, .int .i64 x7, .int .i64 x8, .int .i64 x9, .int .i64 x10, .int .i64 x11, .int .u64 x12]
def S18_ : Shp := ⟨[(0, .one (.l (.i .i64))), (3, .one (.ptr 0 0)), (5, .one (.l (.i .i64)))], [.box true (lk qdn)]⟩
def S19_ : Shp := ⟨[(3, .one (.ptr 0 0)), (5, .one (.l (.i .i64)))], [.box true (lk qdn)]⟩
def S20_ : Shp := ⟨[(3, .one (.ptr 0 0))], [.box true (lk qdn)]⟩
def S21_ : Shp := ⟨[(0, .one (.l (.i .i64))), (1, .st (lk qdn))], []⟩
def qxf  (v0 v5 : Int) (Aa : Bool) (Ab Ac : Int) (Ad Ai Aj : List UInt8) (Ak Al Am An Ao Ap Aq : Int) (K : Ex → Env → Mem → Option Bool) := (fun z_v6 => K .norm (qi [(0, (.int .i64 v0)), (3, (.ptr 0 0)), (5, (.int .i64 v5)), (6, (.bool z_v6))]) (qj [(some (.box true (qtu Aa Ab Ac Ad Ai Aj Ak Al Am An Ao Ap Aq)))]))
def qgd  (v0 v5 : Int) (Aa : Bool) (Ab Ac : Int) (Ad Ai Aj : List UInt8) (Ak Al Am An Ao Ap Aq : Int) (kn : Bool → Option Bool) : Option Bool :=
  (bif (v5 == (1 : Int)) then (kn true) else (kn (v5 == (28 : Int))))
def qq7 := hull (qgd)
theorem qxg : qq7 = qgd := qb _
def qys : SubB Tryd.prog (TIof Tryd.prog) 324 0 (kret [.t 4] decB) := jnB tabOk follows Tryd.f72 37 (.s .z (.s (.v [.sel [0, 3, 5, 6] [0]]) (.v [.sel [0, 3, 5, 6] [0]]))) S18_ (qgd) (fun f v K => f (v.i 0 0) (v.i 20 0) (v.b 3 0) (v.i 3 1) (v.i 3 2) (v.s 3 3) (v.s 3 4) (v.s 3 5) (v.i 3 6) (v.i 3 7) (v.i 3 8) (v.i 3 9) (v.i 3 10) (v.i 3 11) (v.i 3 12) (qxf (v.i 0 0) (v.i 20 0) (v.b 3 0) (v.i 3 1) (v.i 3 2) (v.s 3 3) (v.s 3 4) (v.s 3 5) (v.i 3 6) (v.i 3 7) (v.i 3 8) (v.i 3 9) (v.i 3 10) (v.i 3 11) (v.i 3 12) K)) (by kernel_rfl) (fun _ _ => (by kernel_rfl))
def quz  (v5 : Int) (Aa : Bool) (Ab Ac : Int) (Ad Ai Aj : List UInt8) (Ak Al Am An Ao Ap Aq : Int) (K : Ex → Env → Mem → Option Bool) := (fun z_v27 => K .norm (qi [(3, (.ptr 0 0)), (5, (.int .i64 v5)), (27, (.bool z_v27))]) (qj [(some (.box true (qtu Aa Ab Ac Ad Ai Aj Ak Al Am An Ao Ap Aq)))]))
def qfk  (v5 : Int) (Aa : Bool) (Ab Ac : Int) (Ad Ai Aj : List UInt8) (Ak Al Am An Ao Ap Aq : Int) (kn : Bool → Option Bool) : Option Bool :=
  (bif (v5 == (2 : Int)) then (kn true) else (bif (v5 == (5 : Int)) then (kn true) else (bif (v5 == (12 : Int)) then (kn true) else (kn (v5 == (39 : Int))))))
def qpq := hull (qfk)
theorem qu0 : qpq = qfk := qb _
def qxh : SubB Tryd.prog (TIof Tryd.prog) 324 0 (kret [.t 4] decB) := jnB tabOk follows Tryd.f72 181 (.s .z (.s (.v [.sel [3, 5, 27] [0]]) (.s .z (.s (.v [.sel [3, 5, 27] [0]]) (.s .z (.s (.v [.sel [3, 5, 27] [0]]) (.v [.sel [3, 5, 27] [0]]))))))) S19_ (qfk) (fun f v K => f (v.i 20 0) (v.b 3 0) (v.i 3 1) (v.i 3 2) (v.s 3 3) (v.s 3 4) (v.s 3 5) (v.i 3 6) (v.i 3 7) (v.i 3 8) (v.i 3 9) (v.i 3 10) (v.i 3 11) (v.i 3 12) (quz (v.i 20 0) (v.b 3 0) (v.i 3 1) (v.i 3 2) (v.s 3 3) (v.s 3 4) (v.s 3 5) (v.i 3 6) (v.i 3 7) (v.i 3 8) (v.i 3 9) (v.i 3 10) (v.i 3 11) (v.i 3 12) K)) (by kernel_rfl) (fun _ _ => (by kernel_rfl))
def qu1  (K : Ex → Env → Mem → Option Bool) := (fun z_v4 => K .norm (qi [(4, (.bool z_v4))]) (qj []))
def qfl  (Aa : Bool) (Ab Ac : Int) (Ad Ai Aj : List UInt8) (Ak Al Am An Ao Ap Aq : Int) (kn : Bool → Option Bool) : Option Bool :=
  (bif ((Aa == false) && ((Ab == (0 : Int)) && ((Ac == (0 : Int)) && ((Ad == Ad) && ((Ai == Ai) && ((Aj == ([] : List UInt8)) && ((Ak == Ak) && ((Al == Al) && ((Am == Am) && ((An == An) && ((Ao == Ao) && ((Ap == (0 : Int)) && ((Aq == (0 : Int)) && true))))))))))))) then (oB (qev Ad) fun r1 => (bif r1 then (oB (qev Ai) fun r2 => (bif r2 then (oB (qof Ak) fun r3 => (bif r3 then (oB (qp Al (2147483647 : Int)) fun r4 => (bif r4 then (oB (qp Am (2147483647 : Int)) fun r5 => (bif r5 then (oB (qp An (2147483647 : Int)) fun r6 => (bif r6 then (oB (qp Ao (2147483647 : Int)) fun r7 => (kn r7)) else (kn false))) else (kn false))) else (kn false))) else (kn false))) else (kn false))) else (kn false))) else (kn false))
def qpr := hull (qfl)
theorem qu2 : qpr = qfl := qb _
def qxi : SubB Tryd.prog (TIof Tryd.prog) 324 0 (kret [.t 4] decB) := jnB tabOk follows Tryd.f72 2549 (.r [(20, .c qfx.b), (25, .c qfx.b), (30, .c q13.b), (35, .c qq.b), (40, .c qq.b), (45, .c qq.b), (50, .c qq.b)] [.sel [4] []]) S20_ (qfl) (fun f v K => f (v.b 3 0) (v.i 3 1) (v.i 3 2) (v.s 3 3) (v.s 3 4) (v.s 3 5) (v.i 3 6) (v.i 3 7) (v.i 3 8) (v.i 3 9) (v.i 3 10) (v.i 3 11) (v.i 3 12) (qu1 K)) (by kernel_rfl) (fun _ _ => (by kernel_rfl))
def qu3  (K : Ex → Env → Mem → Option Bool) := (fun z_v4 => K .norm (qi [(4, (.bool z_v4))]) (qj []))
def qfm  (Aa : Bool) (Ab Ac : Int) (Ad Ai Aj : List UInt8) (Ak Al Am An Ao Ap Aq : Int) (kn : Bool → Option Bool) : Option Bool :=
  (bif ((Aa == false) && ((Ab == (0 : Int)) && ((Ac == (0 : Int)) && ((Ad == Ad) && ((Ai == ([] : List UInt8)) && ((Aj == Aj) && ((Ak == Ak) && ((Al == Al) && ((Am == Am) && ((An == An) && ((Ao == Ao) && ((Ap == Ap) && ((Aq == (0 : Int)) && true))))))))))))) then (oB (qkf Aj) fun r1 => (bif r1 then (oB (qev Ad) fun r2 => (bif r2 then (oB (ql6 Ak) fun r3 => (bif (r3 && (Ak != (46 : Int))) then (oB (qp Al (127 : Int)) fun r4 => (bif r4 then (oB (qp Am (2147483647 : Int)) fun r5 => (bif r5 then (oB (qp An (4294967295 : Int)) fun r6 => (bif r6 then (oB (qp Ao (4294967295 : Int)) fun r7 => (bif r7 then (oB (qp Ap (65535 : Int)) fun r8 => (kn r8)) else (kn false))) else (kn false))) else (kn false))) else (kn false))) else (kn false))) else (kn false))) else (kn false))) else (kn false))
def qps := hull (qfm)
theorem qu4 : qps = qfm := qb _
def qxj : SubB Tryd.prog (TIof Tryd.prog) 324 0 (kret [.t 4] decB) := jnB tabOk follows Tryd.f72 2621429 (.r [(22, .c qoh.b), (27, .c qfx.b), (32, .c qtt.b), (35, .g 3), (42, .c qq.b), (47, .c qq.b), (52, .c qq.b), (57, .c qq.b), (62, .c qq.b)] [.sel [4] []]) S20_ (qfm) (fun f v K => f (v.b 3 0) (v.i 3 1) (v.i 3 2) (v.s 3 3) (v.s 3 4) (v.s 3 5) (v.i 3 6) (v.i 3 7) (v.i 3 8) (v.i 3 9) (v.i 3 10) (v.i 3 11) (v.i 3 12) (qu3 K)) (by kernel_rfl) (fun _ _ => (by kernel_rfl))
def qu5  (K : Ex → Env → Mem → Option Bool) := (fun z_v4 => K .norm (qi [(4, (.bool z_v4))]) (qj []))
def qfn  (Aa : Bool) (Ab Ac : Int) (Ad Ai Aj : List UInt8) (Ak Al Am An Ao Ap Aq : Int) (kn : Bool → Option Bool) : Option Bool :=
  (bif ((Aa == false) && ((Ab == (0 : Int)) && ((Ac == (0 : Int)) && ((Ad == ([] : List UInt8)) && ((Ai == ([] : List UInt8)) && ((Aj == Aj) && ((Ak == Ak) && ((Al == Al) && ((Am == Am) && ((An == (0 : Int)) && ((Ao == (0 : Int)) && ((Ap == (0 : Int)) && ((Aq == (0 : Int)) && true))))))))))))) then (oB (qkf Aj) fun r1 => (bif r1 then (bif (Ak == (256 : Int)) then (bif (Al == (3 : Int)) then (oB (qp Am (255 : Int)) fun r2 => (kn r2)) else (kn false)) else (bif ((Ak == (257 : Int)) && (Al == (3 : Int))) then (oB (qp Am (255 : Int)) fun r3 => (kn r3)) else (kn false))) else (kn false))) else (kn false))
def qpt := hull (qfn)
theorem qu6 : qpt = qfn := qb _
def qxk : SubB Tryd.prog (TIof Tryd.prog) 324 0 (kret [.t 4] decB) := jnB tabOk follows Tryd.f72 41943029 (.r [(14, .c qoh.b), (27, .g 3), (34, .c qq.b)] [.sel [4] []]) S20_ (qfn) (fun f v K => f (v.b 3 0) (v.i 3 1) (v.i 3 2) (v.s 3 3) (v.s 3 4) (v.s 3 5) (v.i 3 6) (v.i 3 7) (v.i 3 8) (v.i 3 9) (v.i 3 10) (v.i 3 11) (v.i 3 12) (qu5 K)) (by kernel_rfl) (fun _ _ => (by kernel_rfl))
def qix (v0 : Int) (Ar : Bool) (As At : Int) (Au Av Aw : List UInt8) (Ax Ay Az A0 A1 A2 A3 : Int) : Option Bool :=
  (qq7 v0 v0 Ar As At Au Av Aw Ax Ay Az A0 A1 A2 A3 (fun v6q1 => (bif v6q1 then (bif ((Ar == Ar) && ((As == As) && ((At == At) && ((Au == ([] : List UInt8)) && ((Av == ([] : List UInt8)) && ((Aw == ([] : List UInt8)) && ((Ax == (0 : Int)) && ((Ay == (0 : Int)) && ((Az == (0 : Int)) && ((A0 == (0 : Int)) && ((A1 == (0 : Int)) && ((A2 == (0 : Int)) && ((A3 == (0 : Int)) && true))))))))))))) then (oB (qse Ar As At) fun r2 => (some (r2 && ((Ar == (v0 == (28 : Int))) && true)))) else (some false)) else (qpq v0 Ar As At Au Av Aw Ax Ay Az A0 A1 A2 A3 (fun v27q3 => (bif v27q3 then (bif ((Ar == false) && ((As == (0 : Int)) && ((At == (0 : Int)) && ((Au == Au) && ((Av == ([] : List UInt8)) && ((Aw == ([] : List UInt8)) && ((Ax == (0 : Int)) && ((Ay == (0 : Int)) && ((Az == (0 : Int)) && ((A0 == (0 : Int)) && ((A1 == (0 : Int)) && ((A2 == (0 : Int)) && ((A3 == (0 : Int)) && true))))))))))))) then (oB (qev Au) fun r4 => (some r4)) else (some false)) else (bif (v0 == (6 : Int)) then (qpr Ar As At Au Av Aw Ax Ay Az A0 A1 A2 A3 (fun v4q5 => (some v4q5))) else (bif (v0 == (15 : Int)) then (bif ((Ar == false) && ((As == (0 : Int)) && ((At == (0 : Int)) && ((Au == Au) && ((Av == ([] : List UInt8)) && ((Aw == ([] : List UInt8)) && ((Ax == Ax) && ((Ay == (0 : Int)) && ((Az == (0 : Int)) && ((A0 == (0 : Int)) && ((A1 == (0 : Int)) && ((A2 == (0 : Int)) && ((A3 == (0 : Int)) && true))))))))))))) then (oB (qev Au) fun r6 => (bif r6 then (oB (qp Ax (65535 : Int)) fun r7 => (some r7)) else (some false))) else (some false)) else (bif (v0 == (16 : Int)) then (some (((Ar == false) && ((As == (0 : Int)) && ((At == (0 : Int)) && ((Au == ([] : List UInt8)) && ((Av == ([] : List UInt8)) && ((Aw == Aw) && ((Ax == (0 : Int)) && ((Ay == (0 : Int)) && ((Az == (0 : Int)) && ((A0 == (0 : Int)) && ((A1 == (0 : Int)) && ((A2 == (0 : Int)) && ((A3 == (0 : Int)) && true))))))))))))) && (decide ((Aw.length : Int) ≤ (255 : Int))))) else (bif (v0 == (33 : Int)) then (bif ((Ar == false) && ((As == (0 : Int)) && ((At == (0 : Int)) && ((Au == Au) && ((Av == ([] : List UInt8)) && ((Aw == ([] : List UInt8)) && ((Ax == Ax) && ((Ay == Ay) && ((Az == Az) && ((A0 == (0 : Int)) && ((A1 == (0 : Int)) && ((A2 == (0 : Int)) && ((A3 == (0 : Int)) && true))))))))))))) then (oB (qev Au) fun r8 => (bif r8 then (oB (qp Ax (65535 : Int)) fun r9 => (bif r9 then (oB (qp Ay (65535 : Int)) fun r10 => (bif r10 then (oB (qp Az (65535 : Int)) fun r11 => (some r11)) else (some false))) else (some false))) else (some false))) else (some false)) else (bif (v0 == (43 : Int)) then (bif ((Ar == false) && ((As == (0 : Int)) && ((At == (0 : Int)) && ((Au == ([] : List UInt8)) && ((Av == ([] : List UInt8)) && ((Aw == Aw) && ((Ax == Ax) && ((Ay == Ay) && ((Az == Az) && ((A0 == (0 : Int)) && ((A1 == (0 : Int)) && ((A2 == (0 : Int)) && ((A3 == (0 : Int)) && true))))))))))))) then (oB (qkf Aw) fun r12 => (bif r12 then (oB (qp Ax (65535 : Int)) fun r13 => (bif r13 then (oB (qp Ay (255 : Int)) fun r14 => (bif r14 then (oB (qp Az (255 : Int)) fun r15 => (some r15)) else (some false))) else (some false))) else (some false))) else (some false)) else (bif (v0 == (46 : Int)) then (qps Ar As At Au Av Aw Ax Ay Az A0 A1 A2 A3 (fun v4q16 => (some v4q16))) else (bif (v0 == (47 : Int)) then (bif ((Ar == false) && ((As == (0 : Int)) && ((At == (0 : Int)) && ((Au == Au) && ((Av == ([] : List UInt8)) && ((Aw == ([] : List UInt8)) && ((Ax == (0 : Int)) && ((Ay == (0 : Int)) && ((Az == (0 : Int)) && ((A0 == (0 : Int)) && ((A1 == (0 : Int)) && ((A2 == (0 : Int)) && ((A3 == A3) && true))))))))))))) then (oB (qbs Au) fun r17 => (bif r17 then (bif (A3 != (0 : Int)) then (oB (quy) fun r18 => (some ((qe3 .andNot .u64 A3 r18) == (0 : Int)))) else (some false)) else (some false))) else (some false)) else (bif (v0 == (48 : Int)) then (qpt Ar As At Au Av Aw Ax Ay Az A0 A1 A2 A3 (fun v4q19 => (some v4q19))) else (some false)))))))))))))))
def qqs := hull qix
theorem q15 : qqs = qix := qb _
def q4r {R : Type} : EntF Tryd.prog R := entB (nt := 324) (dec := decB) (enc := AV.bool) tabOk follows Tryd.func72 [.t 4] hdeB (.s .z (.s (.s .z (.b (.s (.sub [.sel [0, 3, 5] [0]] qys []) (.s (.s (.r [(8, .c q5m.b), (11, .g 6)] []) .z) (.s (.sub [.sel [3, 5] [0]] qxh []) (.s (.s (.r [(8, .c qfx.b)] []) .z) (.s .z (.s (.s (.sub [.sel [3] [0]] qxi []) .z) (.s .z (.s (.s (.r [(10, .c qfx.b), (15, .c qq.b)] []) .z) (.s .z (.s (.s (.r [(6, .g 4)] []) .z) (.s .z (.s (.s (.r [(14, .c qfx.b), (19, .c qq.b), (24, .c qq.b), (29, .c qq.b)] []) .z) (.s .z (.s (.s (.r [(14, .c qoh.b), (19, .c qq.b), (24, .c qq.b), (29, .c qq.b)] []) .z) (.s .z (.s (.s (.sub [.sel [3] [0]] qxj []) .z) (.s .z (.s (.s (.d [] [(10, .c qcf.b), (20, .c q7q.b)] [] []) .z) (.s .z (.s (.s (.sub [.sel [3] [0]] qxk []) .z) .z)))))))))))))))))))))) .z)) S21_ qix (fun f v => f (v.i 0 0) (v.b 5 0) (v.i 5 1) (v.i 5 2) (v.s 5 3) (v.s 5 4) (v.s 5 5) (v.i 5 6) (v.i 5 7) (v.i 5 8) (v.i 5 9) (v.i 5 10) (v.i 5 11) (v.i 5 12)) (by kernel_rfl) (by kernel_rfl) (by kernel_rfl) fun _ => (by kernel_rfl)
def S22_ : Shp := ⟨[(0, .st (lk qj8))], []⟩
def qiy (Ae : List UInt8) (Af Ag : Int) (Ah : Bool) (A4 A5 : Int) (A6 A7 A8 : List UInt8) (A9 Ba Bb Bc Bd Be Bf : Int) : Option Bool :=
  (oB (qbs Ae) fun r1 => (bif r1 then (oB (ql6 Af) fun r2 => (bif ((r2 && (decide (Ag ≥ (0 : Int)))) && (decide (Ag ≤ (2147483647 : Int)))) then (oB (qqs Af Ah A4 A5 A6 A7 A8 A9 Ba Bb Bc Bd Be Bf) fun r3 => (some r3)) else (some false))) else (some false)))
def qqt := hull qiy
theorem q16 : qqt = qiy := qb _
def q4s {R : Type} : EntF Tryd.prog R := entB (nt := 28) (dec := decB) (enc := AV.bool) tabOk follows Tryd.func58 [.t 2] hdeB (.s .z (.s (.r [(2, .c qcf.b), (6, .c qtt.b), (9, .g 3), (14, .g 3), (23, .c q4r.b)] []) .z)) S22_ qiy (fun f v => f (v.s 1 0) (v.i 1 1) (v.i 1 2) (v.b 1 3) (v.i 1 4) (v.i 1 5) (v.s 1 6) (v.s 1 7) (v.s 1 8) (v.i 1 9) (v.i 1 10) (v.i 1 11) (v.i 1 12) (v.i 1 13) (v.i 1 14) (v.i 1 15)) (by kernel_rfl) (by kernel_rfl) (by kernel_rfl) fun _ => (by kernel_rfl)
def qew (Ae : List UInt8) (Af Ag : Int) (Ah : Bool) (A4 A5 : Int) (A6 A7 A8 : List UInt8) (A9 Ba Bb Bc Bd Be Bf : Int) : Option Bool :=
  (oB (qqt Ae Af Ag Ah A4 A5 A6 A7 A8 A9 Ba Bb Bc Bd Be Bf) fun r1 => (some (!r1)))
def qoj := hull qew
theorem quh : qoj = qew := qb _
def qu7 {R : Type} : EntF Tryd.prog R := entB (nt := 6) (dec := decB) (enc := AV.bool) tabOk follows Tryd.func57 [.t 2] hdeB (.s .z (.s (.r [(1, .c q4s.b)] []) .z)) S22_ qew (fun f v => f (v.s 1 0) (v.i 1 1) (v.i 1 2) (v.b 1 3) (v.i 1 4) (v.i 1 5) (v.s 1 6) (v.s 1 7) (v.s 1 8) (v.i 1 9) (v.i 1 10) (v.i 1 11) (v.i 1 12) (v.i 1 13) (v.i 1 14) (v.i 1 15)) (by kernel_rfl) (by kernel_rfl) (by kernel_rfl) fun _ => (by kernel_rfl)
def S23_ : Shp := ⟨[(1, .one (.fn 57 [])), (7, .one (.l (.sl 16))), (8, .one (.l (.i .i64))), (9, .one (.l (.i .i64)))], []⟩
def S24_ : Shp := ⟨[(0, .one (.l (.sl 16))), (1, .one (.fn 57 []))], []⟩
def qcg  (K : Ex → Env → Mem → Option Int) := (fun (_ : Unit) => K (.exit 0) (qi []) (qj []))
def qn  (v7 : List AV) (v8 v9 : Int) (next : Int → Option Int) (kx0 : Unit → Option Int) : Option Int :=
  (bif (decide (v9 < v8)) then (oB (ixB v7 v9) fun y1 => (bif fitC qj8 y1.cells then (oB (qoj (gS y1.cells 0) (gI y1.cells 1) (gI y1.cells 2) (gB y1.cells 3) (gI y1.cells 4) (gI y1.cells 5) (gS y1.cells 6) (gS y1.cells 7) (gS y1.cells 8) (gI y1.cells 9) (gI y1.cells 10) (gI y1.cells 11) (gI y1.cells 12) (gI y1.cells 13) (gI y1.cells 14) (gI y1.cells 15)) fun r2 => (bif r2 then (some v9) else (next (IntKind.i64.wrap (v9 + (1 : Int)))))) else none)) else (kx0 ()))
def qo  (v7 : List AV) (v8 : Int) (kx0 : Unit → Option Int) : Nat → Int → Option Int
  | 0 => (fun _ => none)
  | n + 1 => (fun v9 => qn v7 v8 v9 (qo v7 v8 kx0 n) kx0)
def qcq := hull (qo)
theorem qel : qcq = qo := qb _
def qex : SubB Tryd.prog (TIof Tryd.prog) 19 0 (kret [.t 4] (decI .i64)) := lpB tabOk follows Tryd.f55 37 (.s .z (.s (.s .z (.v [.sel [] []])) (.s (.b (.s (.r [(1, .p (.etac 12 qj8))] []) (.s (.r [(2, .c qu7.b)] []) .z))) (.v [.sel [1, 7, 8, 9] []])))) S23_ (qo) (fun f v K n => f (v.l 28 0) (v.i 32 0) (qcg K) n) (fun v f K => qn (v.l 28 0) (v.i 32 0) (v.i 36 0) f (qcg K)) (fun f v => f (v.i 36 0)) (fun k v => (fun z0 => k (v.ui 36 0 z0))) (by kernel_rfl) (fun _ _ => (by kernel_rfl)) (fun _ _ _ => (by kernel_rfl)) (fun _ _ _ => (by kernel_rfl)) (fun _ _ => (by kernel_rfl)) (fun _ _ _ _ _ => (by kernel_rfl))
def qy (v0 : List AV) : Option Int :=
  (qcq v0 (v0.length : Int) (fun (_ : Unit) => (some (-1 : Int))) FU (0 : Int))
def qbu := hull qy
theorem qfg : qbu = qy := qb _
def qf0 {R : Type} : EntF Tryd.prog R := entB (nt := 19) (dec := (decI .i64)) (enc := (AV.int .i64)) tabOk follows Tryd.func55 [.t 4] hdeI (.s .z (.s (.s .z (.b (.sub [.sel [1, 7, 8, 9] []] qex []))) .z)) S24_ qy (fun f v => f (v.l 0 0)) (by kernel_rfl) (by kernel_rfl) (by kernel_rfl) fun _ => (by kernel_rfl)
def qge (Ae : List UInt8) (Af Ag : Int) (Ah : List AV) : Option Bool :=
  (bif (((decide ((Ah.length : Int) < (1 : Int))) || (decide ((Ah.length : Int) > (64 : Int)))) || (Ag == (0 : Int))) then (some false) else (oB (qm2 Ae Af Ag Ah) fun r1 => (oB (qbu r1) fun r2 => (some (decide (r2 < (0 : Int)))))))
def qle := hull qge
theorem qxl : qle = qge := qb _
def qyt {R : Type} : EntF Tryd.prog R := entB (nt := 22) (dec := decB) (enc := AV.bool) tabOk follows Tryd.func38 [.t 2] hdeB (.s .z (.s (.s (.r [(5, .g 4), (11, .g 3)] []) .z) (.s (.r [(1, .k qzr.b), (2, .c qf0.b)] []) .z))) S3_ qge (fun f v => f (v.s 1 0) (v.i 1 1) (v.i 1 2) (v.l 1 3)) (by kernel_rfl) (by kernel_rfl) (by kernel_rfl) fun _ => (by kernel_rfl)
def qg1 : Nat := 59
def qc : List LT := [(.i .i64), .s, (.i .i64), (.i .i64), (.sl 13), (.i .i64), (.i .i64), (.i .i64), (.i .i64)]
def S25_ : Shp := ⟨[(0, .st (lk qc)), (1, .one (.l (.i .i64)))], []⟩
def qg2 (Ae : Int) (Af : List UInt8) (Ag Ah : Int) (A4 : List AV) (A5 A6 A7 A8 v1 : Int) : Option Bool :=
  (some (decide (v1 < A7)))
def qbf := hull qg2
theorem qsg : qbf = qg2 := qb _
def qb0 {R : Type} : EntF Tryd.prog R := entB (nt := 9) (dec := decB) (enc := AV.bool) tabOk follows Tryd.func30 [.t 4] hdeB (.z) S25_ qg2 (fun f v => f (v.i 1 0) (v.s 1 1) (v.i 1 2) (v.i 1 3) (v.l 1 4) (v.i 1 5) (v.i 1 6) (v.i 1 7) (v.i 1 8) (v.i 4 0)) (by kernel_rfl) (by kernel_rfl) (by kernel_rfl) fun _ => (by kernel_rfl)
def S26_ : Shp := ⟨[(0, .st (lk qc)), (1, .one (.l .s)), (2, .one (.l (.i .i64)))], []⟩
def qg3 (Ae : Int) (Af : List UInt8) (Ag Ah : Int) (A4 : List AV) (A5 A6 A7 A8 : Int) (v1 : List UInt8) (v2 : Int) : Option Bool :=
  (some ((Af == v1) && (Ag == v2)))
def qcj := hull qg3
theorem qsh : qcj = qg3 := qb _
def qdj {R : Type} : EntF Tryd.prog R := entB (nt := 19) (dec := decB) (enc := AV.bool) tabOk follows Tryd.func31 [.t 6] hdeB (.s .z (.s (.r [(6, .g 5)] []) .z)) S26_ qg3 (fun f v => f (v.i 1 0) (v.s 1 1) (v.i 1 2) (v.i 1 3) (v.l 1 4) (v.i 1 5) (v.i 1 6) (v.i 1 7) (v.i 1 8) (v.s 4 0) (v.i 8 0)) (by kernel_rfl) (by kernel_rfl) (by kernel_rfl) fun _ => (by kernel_rfl)
def S27_ : Shp := ⟨[(0, .st (lk qc)), (1, .cptr [(.i .i64)]), (2, .cptr [.s, (.i .i64)])], []⟩
def qiz (Ae : Int) (Af : List UInt8) (Ag Ah : Int) (A4 : List AV) (A5 A6 A7 A8 Ar : Int) (Bg : List UInt8) (Bh : Int) : Option Bool :=
  (oB (qbf Ae Af Ag Ah A4 A5 A6 A7 A8 Ar) fun r1 => (bif r1 then (oB (qcj Ae Af Ag Ah A4 A5 A6 A7 A8 Bg Bh) fun r2 => (some r2)) else (some false)))
def qxz := hull qiz
theorem q17 : qxz = qiz := qb _
def q4t {R : Type} : EntF Tryd.prog R := entB (nt := 16) (dec := decB) (enc := AV.bool) tabOk follows Tryd.func29 [.t 4] hdeB (.s .z (.s (.r [(2, .c qb0.b), (9, .c qdj.b)] []) .z)) S27_ qiz (fun f v => f (v.i 1 0) (v.s 1 1) (v.i 1 2) (v.i 1 3) (v.l 1 4) (v.i 1 5) (v.i 1 6) (v.i 1 7) (v.i 1 8) (v.i 6 0) (v.s 10 0) (v.i 10 1)) (by kernel_rfl) (by kernel_rfl) (by kernel_rfl) fun _ => (by kernel_rfl)
def qi0 (Ae : Int) (Af : List UInt8) (Ag Ah : Int) (A4 : List AV) (A5 A6 A7 A8 Ar : Int) (Bg : List UInt8) (Bh : Int) : Option Bool :=
  (oB (qbf Ae Af Ag Ah A4 A5 A6 A7 A8 Ar) fun r1 => (bif (r1 && (Ae == (0 : Int))) then (oB (qcj Ae Af Ag Ah A4 A5 A6 A7 A8 Bg (5 : Int)) fun r2 => (some r2)) else (some false)))
def qx0 := hull qi0
theorem q18 : qx0 = qi0 := qb _
def q4u {R : Type} : EntF Tryd.prog R := entB (nt := 19) (dec := decB) (enc := AV.bool) tabOk follows Tryd.func32 [.t 4] hdeB (.s .z (.s (.r [(2, .c qb0.b), (4, .g 3), (12, .c qdj.b)] []) .z)) S27_ qi0 (fun f v => f (v.i 1 0) (v.s 1 1) (v.i 1 2) (v.i 1 3) (v.l 1 4) (v.i 1 5) (v.i 1 6) (v.i 1 7) (v.i 1 8) (v.i 6 0) (v.s 10 0) (v.i 10 1)) (by kernel_rfl) (by kernel_rfl) (by kernel_rfl) fun _ => (by kernel_rfl)
def S28_ : Shp := ⟨[(0, .st (lk qc)), (1, .one (.l .s))], []⟩
def qgf (Ae : Int) (Af : List UInt8) (Ag Ah : Int) (A4 : List AV) (A5 A6 A7 A8 : Int) (v1 : List UInt8) : Option Bool :=
  (some ((Ae == (2 : Int)) && (Af == v1)))
def qb9 := hull qgf
theorem qq8 : qb9 = qgf := qb _
def qc2 {R : Type} : EntF Tryd.prog R := entB (nt := 15) (dec := decB) (enc := AV.bool) tabOk follows Tryd.func34 [.t 4] hdeB (.s .z (.s (.r [(4, .g 5)] []) .z)) S28_ qgf (fun f v => f (v.i 1 0) (v.s 1 1) (v.i 1 2) (v.i 1 3) (v.l 1 4) (v.i 1 5) (v.i 1 6) (v.i 1 7) (v.i 1 8) (v.s 4 0)) (by kernel_rfl) (by kernel_rfl) (by kernel_rfl) fun _ => (by kernel_rfl)
def qi1 (Ae : Int) (Af : List UInt8) (Ag Ah : Int) (A4 : List AV) (A5 A6 A7 A8 Ar : Int) (Bg : List UInt8) (Bh : Int) : Option Bool :=
  (oB (qbf Ae Af Ag Ah A4 A5 A6 A7 A8 Ar) fun r1 => (bif r1 then (oB (qb9 Ae Af Ag Ah A4 A5 A6 A7 A8 Bg) fun r2 => (some r2)) else (some false)))
def qx1 := hull qi1
theorem q19 : qx1 = qi1 := qb _
def q4v {R : Type} : EntF Tryd.prog R := entB (nt := 14) (dec := decB) (enc := AV.bool) tabOk follows Tryd.func33 [.t 4] hdeB (.s .z (.s (.r [(2, .c qb0.b), (7, .c qc2.b)] []) .z)) S27_ qi1 (fun f v => f (v.i 1 0) (v.s 1 1) (v.i 1 2) (v.i 1 3) (v.l 1 4) (v.i 1 5) (v.i 1 6) (v.i 1 7) (v.i 1 8) (v.i 6 0) (v.s 10 0) (v.i 10 1)) (by kernel_rfl) (by kernel_rfl) (by kernel_rfl) fun _ => (by kernel_rfl)
def S29_ : Shp := ⟨[(0, .st (lk qc)), (1, .cptr qhs)], []⟩
def qi2 (Ae : Int) (Af : List UInt8) (Ag Ah : Int) (A4 : List AV) (A5 A6 A7 A8 : Int) (Ar : List UInt8) (As At : Int) (Au : List AV) : Option Bool :=
  (oB (qcj Ae Af Ag Ah A4 A5 A6 A7 A8 Ar As) fun r1 => (bif r1 then (some true) else (oB (qb9 Ae Af Ag Ah A4 A5 A6 A7 A8 Ar) fun r2 => (some r2))))
def qx2 := hull qi2
theorem q2a : qx2 = qi2 := qb _
def q4w {R : Type} : EntF Tryd.prog R := entB (nt := 16) (dec := decB) (enc := AV.bool) tabOk follows Tryd.func37 [.t 3] hdeB (.s .z (.s (.r [(5, .c qdj.b), (10, .c qc2.b)] []) .z)) S29_ qi2 (fun f v => f (v.i 1 0) (v.s 1 1) (v.i 1 2) (v.i 1 3) (v.l 1 4) (v.i 1 5) (v.i 1 6) (v.i 1 7) (v.i 1 8) (v.s 6 0) (v.i 6 1) (v.i 6 2) (v.l 6 3)) (by kernel_rfl) (by kernel_rfl) (by kernel_rfl) fun _ => (by kernel_rfl)
def qi3 (Ae : Int) (Af : List UInt8) (Ag Ah : Int) (A4 : List AV) (A5 A6 A7 A8 : Int) (Ar : List UInt8) (As At : Int) (Au : List AV) : Option Bool :=
  (oB (qb9 Ae Af Ag Ah A4 A5 A6 A7 A8 Ar) fun r1 => (some (!r1)))
def qx3 := hull qi3
theorem q2b : qx3 = qi3 := qb _
def q4x {R : Type} : EntF Tryd.prog R := entB (nt := 9) (dec := decB) (enc := AV.bool) tabOk follows Tryd.func41 [.t 3] hdeB (.s .z (.s (.r [(3, .c qc2.b)] []) .z)) S29_ qi3 (fun f v => f (v.i 1 0) (v.s 1 1) (v.i 1 2) (v.i 1 3) (v.l 1 4) (v.i 1 5) (v.i 1 6) (v.i 1 7) (v.i 1 8) (v.s 6 0) (v.i 6 1) (v.i 6 2) (v.l 6 3)) (by kernel_rfl) (by kernel_rfl) (by kernel_rfl) fun _ => (by kernel_rfl)
def S30_ : Shp := ⟨[(0, .st (lk qc)), (1, .cptr qc)], []⟩
def qha (Ae : Int) (Af : List UInt8) (Ag Ah : Int) (A4 : List AV) (A5 A6 A7 A8 Ar : Int) (As : List UInt8) (At Au : Int) (Av : List AV) (Aw Ax Ay Az : Int) : Option Bool :=
  (oB (qcj Ae Af Ag Ah A4 A5 A6 A7 A8 As At) fun r1 => (some r1))
def qtv := hull qha
theorem qyu : qtv = qha := qb _
def qzz {R : Type} : EntF Tryd.prog R := entB (nt := 12) (dec := decB) (enc := AV.bool) tabOk follows Tryd.func60 [.t 3] hdeB (.s .z (.s (.r [(7, .c qdj.b)] []) .z)) S30_ qha (fun f v => f (v.i 1 0) (v.s 1 1) (v.i 1 2) (v.i 1 3) (v.l 1 4) (v.i 1 5) (v.i 1 6) (v.i 1 7) (v.i 1 8) (v.i 6 0) (v.s 6 1) (v.i 6 2) (v.i 6 3) (v.l 6 4) (v.i 6 5) (v.i 6 6) (v.i 6 7) (v.i 6 8)) (by kernel_rfl) (by kernel_rfl) (by kernel_rfl) fun _ => (by kernel_rfl)
theorem q5o {R : Type} : qei Tryd.prog 70 (ql0 (R' := R)) := q8a Tryd.func70 (by kernel_rfl) (by kernel_rfl) (by kernel_rfl) (by kernel_rfl)
def qem (v0 v1 : List UInt8) : Option Int :=
  (oB (qtj v0 v1) fun r1 => (some r1))
def qjt := hull qem
theorem qok : qjt = qem := qb _
def qpl {R : Type} : EntF Tryd.prog R := entB (nt := 8) (dec := (decI .i64)) (enc := (AV.int .i64)) tabOk follows Tryd.func53 [.t 4] hdeI (.s .z (.s (.r [(2, .c (eK q5o))] []) .z)) S4_ qem (fun f v => f (v.s 0 0) (v.s 4 0)) (by kernel_rfl) (by kernel_rfl) (by kernel_rfl) fun _ => (by kernel_rfl)
def qfo (v0 v1 : List UInt8) : Option Int :=
  (oB (qjt v0 v1) fun r1 => (some r1))
def qhb := hull qfo
theorem qu8 : qhb = qfo := qb _
def qnh {R : Type} : EntF Tryd.prog R := entB (nt := 8) (dec := (decI .i64)) (enc := (AV.int .i64)) tabOk follows Tryd.func26 [.t 4] hdeI (.s .z (.s (.r [(2, .c qpl.b)] []) .z)) S4_ qfo (fun f v => f (v.s 0 0) (v.s 4 0)) (by kernel_rfl) (by kernel_rfl) (by kernel_rfl) fun _ => (by kernel_rfl)
def qu9  (v0 : List UInt8) (K : Ex → Env → Mem → Option (List AV)) := (fun z_v9 => K .norm (qi [(0, (.str v0)), (9, (.bool z_v9))]) (qj []))
def qfp  (v0 : List UInt8) (kn : Bool → Option (List AV)) : Option (List AV) :=
  (bif (v0 == ([46] : List UInt8)) then (kn true) else (oB (qbs v0) fun r1 => (kn (!r1))))
def qpu := hull (qfp)
theorem qva : qpu = qfp := qb _
def qxm : SubB Tryd.prog (TIof Tryd.prog) 16 0 (kret [.t 2] (decX (.one (.sl 1)) fun z => aL z)) := jnB tabOk follows Tryd.f27 9 (.r [(4, .c qcf.b)] [.sel [0, 9] []]) S11_ (qfp) (fun f v K => f (v.s 0 0) (qu9 (v.s 0 0) K)) (by kernel_rfl) (fun _ _ => (by kernel_rfl))
def qh6 (v0 : List UInt8) : Option (List AV) :=
  (qpu v0 (fun v9q1 => (bif v9q1 then (some ([] : List AV)) else (oB (cutI v0 none (some (IntKind.i64.wrap ((v0.length : Int) - (1 : Int))))) fun s2 => (oB (qit s2 ([46] : List UInt8)) fun r3 => (some r3))))))
def qf1 := hull qh6
theorem qz0 : qf1 = qh6 := qb _
def qlf {R : Type} : EntF Tryd.prog R := entB (nt := 16) (dec := (decX (.one (.sl 1)) fun z => aL z)) (enc := (fun r => .sl 1 r)) tabOk follows Tryd.func27 [.t 2] (hdeX fun _ => rfl) (.s .z (.s (.s (.sub [.sel [0] []] qxm []) (.s (.s .z (.v [.eta 2 (.one (.sl 1))])) .z)) (.s (.r [(5, .k qpn.b)] []) .z))) S11_ qh6 (fun f v => f (v.s 0 0)) (by kernel_rfl) (by kernel_rfl) (by kernel_rfl) fun _ => (by kernel_rfl)
def S31_ : Shp := ⟨[(7, .one (.l (.sl 1))), (8, .one (.l (.sl 1))), (9, .one (.l (.i .i64)))], []⟩
def qju  (v7 v8 : List AV) (K : Ex → Env → Mem → Option Int) := (fun (_ : Unit) => K (.exit 1) (qi [(7, (.sl 1 v7)), (8, (.sl 1 v8))]) (qj []))
def qg4  (v7 v8 : List AV) (v9 : Int) (next : Int → Option Int) (kx1 : Unit → Option Int) : Option Int :=
  (bif ((decide (v9 ≤ (v7.length : Int))) && (decide (v9 ≤ (v8.length : Int)))) then (oB (ixB v7 (IntKind.i64.wrap ((v7.length : Int) - v9))) fun y1 => (bif fitC [.s] y1.cells then (oB (ixB v8 (IntKind.i64.wrap ((v8.length : Int) - v9))) fun y2 => (bif fitC [.s] y2.cells then (oB (qhb (gS y1.cells 0) (gS y2.cells 0)) fun r3 => (bif (r3 != (0 : Int)) then (some r3) else (next (IntKind.i64.wrap (v9 + (1 : Int)))))) else none)) else none)) else (kx1 ()))
def qck  (v7 v8 : List AV) (kx1 : Unit → Option Int) : Nat → Int → Option Int
  | 0 => (fun _ => none)
  | n + 1 => (fun v9 => qg4 v7 v8 v9 (qck v7 v8 kx1 n) kx1)
def qni := hull (qck)
theorem qsi : qni = qck := qb _
def qui : SubB Tryd.prog (TIof Tryd.prog) 79 0 (kret [.t 4] (decI .i64)) := lpB tabOk follows Tryd.f11 303 (.s (.s (.r [(5, .g 4)] []) (.s .z (.v [.sel [7, 8] []]))) (.s (.b (.s (.d [] [(5, .e 54 [.s]), (12, .e 61 [.s])] [(0, .c qnh.b)] []) .z)) (.v [.sel [7, 8, 9] []]))) S31_ (qck) (fun f v K n => f (v.l 28 0) (v.l 32 0) (qju (v.l 28 0) (v.l 32 0) K) n) (fun v f K => qg4 (v.l 28 0) (v.l 32 0) (v.i 36 0) f (qju (v.l 28 0) (v.l 32 0) K)) (fun f v => f (v.i 36 0)) (fun k v => (fun z0 => k (v.ui 36 0 z0))) (by kernel_rfl) (fun _ _ => (by kernel_rfl)) (fun _ _ _ => (by kernel_rfl)) (fun _ _ _ => (by kernel_rfl)) (fun _ _ => (by kernel_rfl)) (fun _ _ _ _ _ => (by kernel_rfl))
def qhc (v0 v1 : List UInt8) : Option Int :=
  (oB (qbs v0) fun r1 => (oB (qbs v1) fun r2 => (bif (r1 && (!r2)) then (some (-1 : Int)) else (bif (r2 && (!r1)) then (some (1 : Int)) else (bif (!r1) then (oB (qhb v0 v1) fun r3 => (some r3)) else (oB (qf1 v0) fun r4 => (oB (qf1 v1) fun r5 => (qni r4 r5 (fun (_ : Unit) => (bif (decide ((r4.length : Int) < (r5.length : Int))) then (some (-1 : Int)) else (bif (decide ((r4.length : Int) > (r5.length : Int))) then (some (1 : Int)) else (some (0 : Int))))) FU (1 : Int)))))))))
def qgs := hull qhc
theorem qyv : qgs = qhc := qb _
def qpv {R : Type} : EntF Tryd.prog R := entB (nt := 79) (dec := (decI .i64)) (enc := (AV.int .i64)) tabOk follows Tryd.func11 [.t 4] hdeI (.s .z (.s (.r [(1, .c qcf.b), (3, .c qcf.b)] []) (.s (.b (.s (.r [(2, .g 2)] []) (.s .z (.s (.r [(2, .g 2)] []) (.s .z (.s .z (.s (.s (.r [(2, .c qnh.b)] []) .z) .z))))))) (.s (.r [(1, .k qlf.b), (3, .k qlf.b)] []) (.s (.s .z (.b (.sub [.sel [7, 8, 9] []] qui []))) .z))))) S4_ qhc (fun f v => f (v.s 0 0) (v.s 4 0)) (by kernel_rfl) (by kernel_rfl) (by kernel_rfl) fun _ => (by kernel_rfl)
def qkg (v0 : Int) : Option Bool :=
  (some (v0 != v0))
def qi4 := hull qkg
theorem qyw : qi4 = qkg := qb _
def qpw {R : Type} : EntF Tryd.prog R := entB (nt := 6) (dec := decB) (enc := AV.bool) tabOk follows Tryd.func87 [.t 2] hdeB (.z) S0_ qkg (fun f v => f (v.i 0 0)) (by kernel_rfl) (by kernel_rfl) (by kernel_rfl) fun _ => (by kernel_rfl)
def qfq (v0 v1 : Int) : Option Int :=
  (oB (qi4 v0) fun r1 => (oB (qi4 v1) fun r2 => (bif r1 then (bif r2 then (some (0 : Int)) else (some (-1 : Int))) else (bif r2 then (some (1 : Int)) else (bif (decide (v0 < v1)) then (some (-1 : Int)) else (bif (decide (v0 > v1)) then (some (1 : Int)) else (some (0 : Int))))))))
def qkh := hull qfq
theorem qvb : qkh = qfq := qb _
def qxn {R : Type} : EntF Tryd.prog R := entB (nt := 20) (dec := (decI .i64)) (enc := (AV.int .i64)) tabOk follows Tryd.func73 [.t 4] hdeI (.s .z (.s (.r [(1, .c qpw.b)] []) (.s (.r [(1, .c qpw.b)] []) .z))) S16_ qfq (fun f v => f (v.i 0 0) (v.i 4 0)) (by kernel_rfl) (by kernel_rfl) (by kernel_rfl) fun _ => (by kernel_rfl)
def S32_ : Shp := ⟨[(0, .st (lk qc)), (1, .st (lk qc))], []⟩
def qi5 (Ae : Int) (Af : List UInt8) (Ag Ah : Int) (A4 : List AV) (A5 A6 A7 A8 Ar : Int) (As : List UInt8) (At Au : Int) (Av : List AV) (Aw Ax Ay Az : Int) : Option Int :=
  (oB (qgs Af As) fun r1 => (bif (r1 != (0 : Int)) then (some r1) else (oB (qkh Ag At) fun r2 => (some r2))))
def qqu := hull qi5
theorem q2c : qqu = qi5 := qb _
def q4y {R : Type} : EntF Tryd.prog R := entB (nt := 23) (dec := (decI .i64)) (enc := (AV.int .i64)) tabOk follows Tryd.func63 [.t 4] hdeI (.s .z (.s (.s (.r [(6, .c qpv.b)] []) .z) (.s (.r [(6, .c qxn.b)] []) .z))) S32_ qi5 (fun f v => f (v.i 1 0) (v.s 1 1) (v.i 1 2) (v.i 1 3) (v.l 1 4) (v.i 1 5) (v.i 1 6) (v.i 1 7) (v.i 1 8) (v.i 5 0) (v.s 5 1) (v.i 5 2) (v.i 5 3) (v.l 5 4) (v.i 5 5) (v.i 5 6) (v.i 5 7) (v.i 5 8)) (by kernel_rfl) (by kernel_rfl) (by kernel_rfl) fun _ => (by kernel_rfl)
def qhd (Ae : Int) (Af : List UInt8) (Ag Ah : Int) (A4 : List AV) (A5 A6 A7 A8 Ar : Int) (As : List UInt8) (At Au : Int) (Av : List AV) (Aw Ax Ay Az : Int) : Option Bool :=
  (oB (qqu Ae Af Ag Ah A4 A5 A6 A7 A8 Ar As At Au Av Aw Ax Ay Az) fun r1 => (some (decide (r1 > (0 : Int)))))
def qtw := hull qhd
theorem qyx : qtw = qhd := qb _
def qz1 {R : Type} : EntF Tryd.prog R := entB (nt := 8) (dec := decB) (enc := AV.bool) tabOk follows Tryd.func62 [.t 3] hdeB (.s .z (.s (.r [(2, .c q4y.b)] []) .z)) S30_ qhd (fun f v => f (v.i 1 0) (v.s 1 1) (v.i 1 2) (v.i 1 3) (v.l 1 4) (v.i 1 5) (v.i 1 6) (v.i 1 7) (v.i 1 8) (v.i 6 0) (v.s 6 1) (v.i 6 2) (v.i 6 3) (v.l 6 4) (v.i 6 5) (v.i 6 6) (v.i 6 7) (v.i 6 8)) (by kernel_rfl) (by kernel_rfl) (by kernel_rfl) fun _ => (by kernel_rfl)
def S33_ : Shp := ⟨[(0, .st (lk qc)), (1, .cptr [.s, (.i .i64)])], []⟩
def qh7 (Ae : Int) (Af : List UInt8) (Ag Ah : Int) (A4 : List AV) (A5 A6 A7 A8 : Int) (Ar : List UInt8) (As : Int) : Option Bool :=
  (oB (qcj Ae Af Ag Ah A4 A5 A6 A7 A8 Ar As) fun r1 => (bif r1 then (some true) else (oB (qb9 Ae Af Ag Ah A4 A5 A6 A7 A8 Ar) fun r2 => (some r2))))
def qvc := hull qh7
theorem qz2 : qvc = qh7 := qb _
def q2d {R : Type} : EntF Tryd.prog R := entB (nt := 16) (dec := decB) (enc := AV.bool) tabOk follows Tryd.func44 [.t 3] hdeB (.s .z (.s (.r [(5, .c qdj.b), (10, .c qc2.b)] []) .z)) S33_ qh7 (fun f v => f (v.i 1 0) (v.s 1 1) (v.i 1 2) (v.i 1 3) (v.l 1 4) (v.i 1 5) (v.i 1 6) (v.i 1 7) (v.i 1 8) (v.s 6 0) (v.i 6 1)) (by kernel_rfl) (by kernel_rfl) (by kernel_rfl) fun _ => (by kernel_rfl)
def qh8 (Ae : Int) (Af : List UInt8) (Ag Ah : Int) (A4 : List AV) (A5 A6 A7 A8 : Int) (Ar : List UInt8) (As : Int) : Option Bool :=
  (oB (qb9 Ae Af Ag Ah A4 A5 A6 A7 A8 Ar) fun r1 => (some r1))
def qvd := hull qh8
theorem qz3 : qvd = qh8 := qb _
def q2e {R : Type} : EntF Tryd.prog R := entB (nt := 8) (dec := decB) (enc := AV.bool) tabOk follows Tryd.func45 [.t 3] hdeB (.s .z (.s (.r [(3, .c qc2.b)] []) .z)) S33_ qh8 (fun f v => f (v.i 1 0) (v.s 1 1) (v.i 1 2) (v.i 1 3) (v.l 1 4) (v.i 1 5) (v.i 1 6) (v.i 1 7) (v.i 1 8) (v.s 6 0) (v.i 6 1)) (by kernel_rfl) (by kernel_rfl) (by kernel_rfl) fun _ => (by kernel_rfl)
def qlg (Ae : Int) (Af : List UInt8) (Ag Ah : Int) (A4 : List AV) (A5 A6 A7 A8 : Int) (Ar : List UInt8) (As : Int) : Option Bool :=
  (some (Af == Ar))
def qve := hull qlg
theorem qz4 : qve = qlg := qb _
def q2f {R : Type} : EntF Tryd.prog R := entB (nt := 10) (dec := decB) (enc := AV.bool) tabOk follows Tryd.func46 [.t 3] hdeB (.z) S33_ qlg (fun f v => f (v.i 1 0) (v.s 1 1) (v.i 1 2) (v.i 1 3) (v.l 1 4) (v.i 1 5) (v.i 1 6) (v.i 1 7) (v.i 1 8) (v.s 6 0) (v.i 6 1)) (by kernel_rfl) (by kernel_rfl) (by kernel_rfl) fun _ => (by kernel_rfl)
def S34_ : Shp := ⟨[(0, .st (lk qc)), (1, .cptr [(.i .i64)])], []⟩
def qhe (Ae : Int) (Af : List UInt8) (Ag Ah : Int) (A4 : List AV) (A5 A6 A7 A8 Ar : Int) : Option Bool :=
  (oB (qbf Ae Af Ag Ah A4 A5 A6 A7 A8 Ar) fun r1 => (some r1))
def qtx := hull qhe
theorem qyy : qtx = qhe := qb _
def qz5 {R : Type} : EntF Tryd.prog R := entB (nt := 7) (dec := decB) (enc := AV.bool) tabOk follows Tryd.func48 [.t 3] hdeB (.s .z (.s (.r [(2, .c qb0.b)] []) .z)) S34_ qhe (fun f v => f (v.i 1 0) (v.s 1 1) (v.i 1 2) (v.i 1 3) (v.l 1 4) (v.i 1 5) (v.i 1 6) (v.i 1 7) (v.i 1 8) (v.i 6 0)) (by kernel_rfl) (by kernel_rfl) (by kernel_rfl) fun _ => (by kernel_rfl)
def qki (v0 v1 : List UInt8) : Option Bool :=
  (bif ((v1 == ([46] : List UInt8)) || (v0 == v1)) then (some true) else (bif decide (([46] : List UInt8).length + v1.length ≤ 9223372036854775807) then (oB (qfh v0 (([46] : List UInt8) ++ v1)) fun r1 => (some r1)) else none))
def qz6 := hull qki
theorem q4z : qz6 = qki := qb _
def q5p {R : Type} : EntF Tryd.prog R := entB (nt := 18) (dec := decB) (enc := AV.bool) tabOk follows Tryd.func50 [.t 4] hdeB (.s .z (.s (.r [(3, .g 3), (11, .c qk4.b)] []) .z)) S4_ qki (fun f v => f (v.s 0 0) (v.s 4 0)) (by kernel_rfl) (by kernel_rfl) (by kernel_rfl) fun _ => (by kernel_rfl)
def qi6 (v0 v1 : List UInt8) : Option Bool :=
  (oB (qbs v0) fun r1 => (bif r1 then (oB (qbs v1) fun r2 => (bif r2 then (oB (qz6 v0 v1) fun r3 => (some r3)) else (some false))) else (some false)))
def qip := hull qi6
theorem q2g : qip = qi6 := qb _
def qty {R : Type} : EntF Tryd.prog R := entB (nt := 16) (dec := decB) (enc := AV.bool) tabOk follows Tryd.func20 [.t 4] hdeB (.s .z (.s (.r [(1, .c qcf.b), (4, .c qcf.b), (9, .c q5p.b)] []) .z)) S4_ qi6 (fun f v => f (v.s 0 0) (v.s 4 0)) (by kernel_rfl) (by kernel_rfl) (by kernel_rfl) fun _ => (by kernel_rfl)
def S35_ : Shp := ⟨[(0, .st (lk qc)), (1, .cptr [.s])], []⟩
def qhf (Ae : Int) (Af : List UInt8) (Ag Ah : Int) (A4 : List AV) (A5 A6 A7 A8 : Int) (Ar : List UInt8) : Option Bool :=
  (oB (qip Af Ar) fun r1 => (some (!r1)))
def qtz := hull qhf
theorem qyz : qtz = qhf := qb _
def qz7 {R : Type} : EntF Tryd.prog R := entB (nt := 10) (dec := decB) (enc := AV.bool) tabOk follows Tryd.func49 [.t 3] hdeB (.s .z (.s (.r [(4, .c qty.b)] []) .z)) S35_ qhf (fun f v => f (v.i 1 0) (v.s 1 1) (v.i 1 2) (v.i 1 3) (v.l 1 4) (v.i 1 5) (v.i 1 6) (v.i 1 7) (v.i 1 8) (v.s 6 0)) (by kernel_rfl) (by kernel_rfl) (by kernel_rfl) fun _ => (by kernel_rfl)
def ap0 : ApB Tryd.prog := (ApB.cons qz7.b (ApB.cons qz5.b (ApB.cons q2f.b (ApB.cons q2e.b (ApB.cons q2d.b (ApB.cons qz1.b (ApB.cons qzz.b (ApB.cons q4x.b (ApB.cons q4w.b (ApB.cons q4v.b (ApB.cons q4u.b (ApB.cons q4t.b (apN Tryd.prog)))))))))))))
def S36_ : Shp := ⟨[(0, .st (lk qc)), (1, .cptr [.fn])], []⟩
def qhg (Ae : Int) (Af : List UInt8) (Ag Ah : Int) (A4 : List AV) (A5 A6 A7 A8 : Int) (Ar : AV) : Option Bool :=
  (oB (ap0.ap Ar [(.agg [(.int .i64 Ae), (.str Af), (.int .i64 Ag), (.int .i64 Ah), (.sl 13 A4), (.int .i64 A5), (.int .i64 A6), (.int .i64 A7), (.int .i64 A8)])]) fun r1 => (some (!r1)))
def qt0 := hull qhg
theorem qy0 : qt0 = qhg := qb _
def qz8 {R : Type} : EntF Tryd.prog R := entB (nt := 8) (dec := decB) (enc := AV.bool) tabOk follows Tryd.func61 [.t 3] hdeB (.s .z (.s (.r [(2, .q ap0)] []) .z)) S36_ qhg (fun f v => f (v.i 1 0) (v.s 1 1) (v.i 1 2) (v.i 1 3) (v.l 1 4) (v.i 1 5) (v.i 1 6) (v.i 1 7) (v.i 1 8) (v.f 6 0)) (by kernel_rfl) (by kernel_rfl) (by kernel_rfl) fun _ => (by kernel_rfl)
def S37_ : Shp := ⟨[(0, .st (lk qc)), (1, .cptr [.fn]), (2, .cptr [(.i .i64)])], []⟩
def qhh (Ae : Int) (Af : List UInt8) (Ag Ah : Int) (A4 : List AV) (A5 A6 A7 A8 : Int) (Ar : AV) (Bg : Int) : Option Bool :=
  (oB (ap0.ap Ar [(.agg [(.int .i64 Ae), (.str Af), (.int .i64 Ag), (.int .i64 Ah), (.sl 13 A4), (.int .i64 A5), (.int .i64 A6), (.int .i64 A7), (.int .i64 A8)])]) fun r1 => (bif r1 then (some true) else (oB (qbf Ae Af Ag Ah A4 A5 A6 A7 A8 Bg) fun r2 => (some r2))))
def qt1 := hull qhh
theorem qy1 : qt1 = qhh := qb _
def qz9 {R : Type} : EntF Tryd.prog R := entB (nt := 13) (dec := decB) (enc := AV.bool) tabOk follows Tryd.func65 [.t 4] hdeB (.s .z (.s (.r [(2, .q ap0), (6, .c qb0.b)] []) .z)) S37_ qhh (fun f v => f (v.i 1 0) (v.s 1 1) (v.i 1 2) (v.i 1 3) (v.l 1 4) (v.i 1 5) (v.i 1 6) (v.i 1 7) (v.i 1 8) (v.f 6 0) (v.i 10 0)) (by kernel_rfl) (by kernel_rfl) (by kernel_rfl) fun _ => (by kernel_rfl)
def qh9 (Ae : Int) (Af : List UInt8) (Ag Ah : Int) (A4 : List AV) (A5 A6 A7 A8 : Int) (Ar : AV) : Option Bool :=
  (oB (ap0.ap Ar [(.agg [(.int .i64 Ae), (.str Af), (.int .i64 Ag), (.int .i64 Ah), (.sl 13 A4), (.int .i64 A5), (.int .i64 A6), (.int .i64 A7), (.int .i64 A8)])]) fun r1 => (some (!r1)))
def qvf := hull qh9
theorem q0a : qvf = qh9 := qb _
def q2h {R : Type} : EntF Tryd.prog R := entB (nt := 8) (dec := decB) (enc := AV.bool) tabOk follows Tryd.func47 [.t 3] hdeB (.s .z (.s (.r [(2, .q ap0)] []) .z)) S36_ qh9 (fun f v => f (v.i 1 0) (v.s 1 1) (v.i 1 2) (v.i 1 3) (v.l 1 4) (v.i 1 5) (v.i 1 6) (v.i 1 7) (v.i 1 8) (v.f 6 0)) (by kernel_rfl) (by kernel_rfl) (by kernel_rfl) fun _ => (by kernel_rfl)
def S38_ : Shp := ⟨[(0, .st (lk qc)), (1, .cptr [.fn]), (2, .cptr [(.i .i64)]), (3, .cptr [(.i .i64)])], []⟩
def qey (Ae : Int) (Af : List UInt8) (Ag Ah : Int) (A4 : List AV) (A5 A6 A7 A8 : Int) (Ar : AV) (Bg Bi : Int) : Option Bool :=
  (oB (ap0.ap Ar [(.agg [(.int .i64 Ae), (.str Af), (.int .i64 Ag), (.int .i64 Ah), (.sl 13 A4), (.int .i64 A5), (.int .i64 A6), (.int .i64 A7), (.int .i64 A8)])]) fun r1 => (bif r1 then (oB (qbf Ae Af Ag Ah A4 A5 A6 A7 A8 Bg) fun r2 => (some (r2 && (decide (A5 > Bi))))) else (some false)))
def qol := hull qey
theorem quj : qol = qey := qb _
def qvg {R : Type} : EntF Tryd.prog R := entB (nt := 20) (dec := decB) (enc := AV.bool) tabOk follows Tryd.func59 [.t 5] hdeB (.s .z (.s (.r [(2, .q ap0), (6, .c qb0.b), (9, .g 4)] []) .z)) S38_ qey (fun f v => f (v.i 1 0) (v.s 1 1) (v.i 1 2) (v.i 1 3) (v.l 1 4) (v.i 1 5) (v.i 1 6) (v.i 1 7) (v.i 1 8) (v.f 6 0) (v.i 10 0) (v.i 14 0)) (by kernel_rfl) (by kernel_rfl) (by kernel_rfl) fun _ => (by kernel_rfl)
def ap1 : ApB Tryd.prog := (ApB.cons qvg.b (ApB.cons q2h.b (ApB.cons qz9.b (ApB.cons qz8.b ap0))))
def S39_ : Shp := ⟨[(1, .one (.l .fn)), (7, .one (.l (.sl 9))), (8, .one (.l (.i .i64))), (9, .one (.l (.i .i64)))], []⟩
def S40_ : Shp := ⟨[(0, .one (.l (.sl 9))), (1, .one (.l .fn))], []⟩
def qez  (K : Ex → Env → Mem → Option Int) := (fun (_ : Unit) => K (.exit 0) (qi []) (qj []))
def qbm  (v1 : AV) (v7 : List AV) (v8 v9 : Int) (next : Int → Option Int) (kx0 : Unit → Option Int) : Option Int :=
  (bif (decide (v9 < v8)) then (oB (ixB v7 v9) fun y1 => (bif fitC qc y1.cells then (oB (ap1.ap v1 [(.agg [(.int .i64 (gI y1.cells 0)), (.str (gS y1.cells 1)), (.int .i64 (gI y1.cells 2)), (.int .i64 (gI y1.cells 3)), (.sl 13 (gL y1.cells 4)), (.int .i64 (gI y1.cells 5)), (.int .i64 (gI y1.cells 6)), (.int .i64 (gI y1.cells 7)), (.int .i64 (gI y1.cells 8))])]) fun r2 => (bif r2 then (some v9) else (next (IntKind.i64.wrap (v9 + (1 : Int)))))) else none)) else (kx0 ()))
def qbn  (v1 : AV) (v7 : List AV) (v8 : Int) (kx0 : Unit → Option Int) : Nat → Int → Option Int
  | 0 => (fun _ => none)
  | n + 1 => (fun v9 => qbm v1 v7 v8 v9 (qbn v1 v7 v8 kx0 n) kx0)
def qgt := hull (qbn)
theorem qk3 : qgt = qbn := qb _
def qlh : SubB Tryd.prog (TIof Tryd.prog) 19 0 (kret [.t 4] (decI .i64)) := lpB tabOk follows Tryd.f28 37 (.s .z (.s (.s .z (.v [.sel [] []])) (.s (.b (.s (.r [(1, .p (.etac 12 qc))] []) (.s (.r [(2, .q ap1)] []) .z))) (.v [.sel [1, 7, 8, 9] []])))) S39_ (qbn) (fun f v K n => f (v.f 4 0) (v.l 28 0) (v.i 32 0) (qez K) n) (fun v f K => qbm (v.f 4 0) (v.l 28 0) (v.i 32 0) (v.i 36 0) f (qez K)) (fun f v => f (v.i 36 0)) (fun k v => (fun z0 => k (v.ui 36 0 z0))) (by kernel_rfl) (fun _ _ => (by kernel_rfl)) (fun _ _ _ => (by kernel_rfl)) (fun _ _ _ => (by kernel_rfl)) (fun _ _ => (by kernel_rfl)) (fun _ _ _ _ _ => (by kernel_rfl))
def qcx (v0 : List AV) (v1 : AV) : Option Int :=
  (qgt v1 v0 (v0.length : Int) (fun (_ : Unit) => (some (-1 : Int))) FU (0 : Int))
def qbh := hull qcx
theorem qm4 : qbh = qcx := qb _
def qb2 {R : Type} : EntF Tryd.prog R := entB (nt := 19) (dec := (decI .i64)) (enc := (AV.int .i64)) tabOk follows Tryd.func28 [.t 4] hdeI (.s .z (.s (.s .z (.b (.sub [.sel [1, 7, 8, 9] []] qlh []))) .z)) S40_ qcx (fun f v => f (v.l 0 0) (v.f 4 0)) (by kernel_rfl) (by kernel_rfl) (by kernel_rfl) fun _ => (by kernel_rfl)
def S41_ : Shp := ⟨[(0, .st [(.l (.i .i64)), (.l (.sl 9))]), (1, .one (.l (.i .i64))), (2, .one (.l (.i .i64))), (3, .one (.l .fn))], []⟩
def qgg (Ae : Int) (Af : List AV) (v1 v2 : Int) (v3 : AV) : Option Bool :=
  (oB (qbh Af (.func qg1 [(.cptr [(.fv v3)]), (.cptr [(.int .i64 v2)]), (.cptr [(.int .i64 v1)])])) fun r1 => (some (decide (r1 ≥ (0 : Int)))))
def qf2 := hull qgg
theorem qxo : qf2 = qgg := qb _
def qom {R : Type} : EntF Tryd.prog R := entB (nt := 14) (dec := decB) (enc := AV.bool) tabOk follows Tryd.func39 [.t 8] hdeB (.s .z (.s (.r [(2, .s (.cls 5)), (2, .s (.cls 6)), (2, .s (.cls 7)), (3, .c qb2.b)] []) .z)) S41_ qgg (fun f v => f (v.i 1 0) (v.l 1 1) (v.i 4 0) (v.i 8 0) (v.f 12 0)) (by kernel_rfl) (by kernel_rfl) (by kernel_rfl) fun _ => (by kernel_rfl)
def qeb (l : List AV) : Option (List AV) := q1l 128 l
def qhv {R : Type} (xs : List AV) (K : AV → Option R) : Option R := qti 13 128 xs K
theorem qik {R : Type} : qk2 Tryd.prog 54 (qhv (R := R)) := qbe3 (ρ := qzk 54 4 31 64) tabOk (qbbp follows "slices.Clone[[]ddi/api.Data,ddi/api.Data]" (by kernel_rfl) (by kernel_rfl) (by kernel_rfl) (by kernel_rfl) (by kernel_rfl) (by kernel_rfl) (by kernel_rfl) (by kernel_rfl)) (by kernel_rfl) (by decide) (by decide)
def S42_ : Shp := ⟨[(0, .st (lk qc))], []⟩
def ql8 (Ae : Int) (Af : List UInt8) (Ag Ah : Int) (A4 : List AV) (A5 A6 A7 A8 : Int) : Option AV :=
  (oB (qeb A4) fun r1 => (some (.agg [(.int .i64 Ae), (.str Af), (.int .i64 Ag), (.int .i64 Ah), (.sl 13 r1), (.int .i64 A5), (.int .i64 A6), (.int .i64 A7), (.int .i64 A8)])))
def qe0 := hull ql8
theorem q5q : qe0 = ql8 := qb _
def qqv {R : Type} : EntF Tryd.prog R := entB (nt := 10) (dec := (decT [(.i .i64), .s, (.i .i64), (.i .i64), (.sl 13), (.i .i64), (.i .i64), (.i .i64), (.i .i64)])) (enc := (qdq (.st [(.i .i64), .s, (.i .i64), (.i .i64), (.sl 13), (.i .i64), (.i .i64), (.i .i64), (.i .i64)]))) tabOk follows Tryd.func36 [(.cell 2 true 9)] hdeT (.s .z (.s (.r [(3, .k (eB qik))] []) .z)) S42_ ql8 (fun f v => f (v.i 1 0) (v.s 1 1) (v.i 1 2) (v.i 1 3) (v.l 1 4) (v.i 1 5) (v.i 1 6) (v.i 1 7) (v.i 1 8)) (by kernel_rfl) (by kernel_rfl) (by kernel_rfl) fun _ => (by kernel_rfl)
def S43_ : Shp := ⟨[(2, .one (.ptr 0 0)), (4, .one (.ptr 1 0)), (5, .one (.own 2)), (11, .one (.l (.sl 9))), (12, .one (.l (.i .i64))), (13, .one (.l (.i .i64)))], [.box true [(.l (.i .i64)), (.l (.sl 9))], .box true [(.l (.i .i64)), (.l .nil)], .arr true 9]⟩
def S44_ : Shp := ⟨[(0, .st [(.l (.i .i64)), (.l (.sl 9))]), (1, .one (.l (.sl 9)))], []⟩
def qij  (Aa : Int) (Ab : List AV) (Bj : Int) (K : Ex → Env → Mem → Option AV) := (fun z_a2 => K (.exit 0) (qi [(2, (.ptr 0 0)), (4, (.ptr 1 0)), (5, (.own 2 z_a2.length))]) (qj [(some (.box true [(.int .i64 Aa), (.sl 9 Ab)])), (some (.box true [(.int .i64 Bj), .nils])), (some (.arr true 9 z_a2))]))
def qcu  (v11 : List AV) (v12 v13 Aa : Int) (Ab : List AV) (Bj : Int) (a2 : List AV) (next : Int → (List AV) → Option AV) (kx0 : (List AV) → Option AV) : Option AV :=
  (bif (decide (v13 < v12)) then (oB (ixB v11 v13) fun y1 => (bif fitC qc y1.cells then (oB (qe0 (gI y1.cells 0) (gS y1.cells 1) (gI y1.cells 2) (gI y1.cells 3) (gL y1.cells 4) (gI y1.cells 5) (gI y1.cells 6) (gI y1.cells 7) (gI y1.cells 8)) fun r2 => (bif hd a2 a2.length then (bif hd ([(.agg [(.int .i64 (gI r2.cells 0)), (.str (gS r2.cells 1)), (.int .i64 (gI r2.cells 2)), (.int .i64 (gI r2.cells 3)), (.sl 13 (gL r2.cells 4)), (.int .i64 (gI r2.cells 5)), (.int .i64 (gI r2.cells 6)), (.int .i64 (gI r2.cells 7)), (.int .i64 (gI r2.cells 8))])] : List AV) (([(.agg [(.int .i64 (gI r2.cells 0)), (.str (gS r2.cells 1)), (.int .i64 (gI r2.cells 2)), (.int .i64 (gI r2.cells 3)), (.sl 13 (gL r2.cells 4)), (.int .i64 (gI r2.cells 5)), (.int .i64 (gI r2.cells 6)), (.int .i64 (gI r2.cells 7)), (.int .i64 (gI r2.cells 8))])] : List AV).length) then (bif decide ((a2.length + ([(.agg [(.int .i64 (gI r2.cells 0)), (.str (gS r2.cells 1)), (.int .i64 (gI r2.cells 2)), (.int .i64 (gI r2.cells 3)), (.sl 13 (gL r2.cells 4)), (.int .i64 (gI r2.cells 5)), (.int .i64 (gI r2.cells 6)), (.int .i64 (gI r2.cells 7)), (.int .i64 (gI r2.cells 8))])] : List AV).length) * 96 ≤ 140737488355328) then (next (IntKind.i64.wrap (v13 + (1 : Int))) (a2 ++ ([(.agg [(.int .i64 (gI r2.cells 0)), (.str (gS r2.cells 1)), (.int .i64 (gI r2.cells 2)), (.int .i64 (gI r2.cells 3)), (.sl 13 (gL r2.cells 4)), (.int .i64 (gI r2.cells 5)), (.int .i64 (gI r2.cells 6)), (.int .i64 (gI r2.cells 7)), (.int .i64 (gI r2.cells 8))])] : List AV))) else none) else none) else none)) else none)) else (kx0 a2))
def qb6  (v11 : List AV) (v12 Aa : Int) (Ab : List AV) (Bj : Int) (kx0 : (List AV) → Option AV) : Nat → Int → (List AV) → Option AV
  | 0 => (fun _ _ => none)
  | n + 1 => (fun v13 a2 => qcu v11 v12 v13 Aa Ab Bj a2 (qb6 v11 v12 Aa Ab Bj kx0 n) kx0)
def qk7 := hull (qb6)
theorem qqw : qk7 = qb6 := qb _
def qq9 : SubB Tryd.prog (TIof Tryd.prog) 27 0 (kret [(.cell 4 true 2)] (decT [(.i .i64), (.fr true 9)])) := lpB tabOk follows Tryd.f35 75 (.s .z (.s (.s .z (.v [.sel [2, 4, 5] [0, 1, 2]])) (.s (.b (.s (.r [(0, .p (.etac 15 qc))] []) (.r [(2, .k qqv.b)] []))) (.v [.sel [2, 4, 5, 11, 12, 13] [0, 1, 2]])))) S43_ (qb6) (fun f v K n => f (v.l 44 0) (v.i 48 0) (v.i 3 0) (v.l 3 1) (v.i 7 0) (qij (v.i 3 0) (v.l 3 1) (v.i 7 0) K) n) (fun v f K => qcu (v.l 44 0) (v.i 48 0) (v.i 52 0) (v.i 3 0) (v.l 3 1) (v.i 7 0) (v.r 2) f (qij (v.i 3 0) (v.l 3 1) (v.i 7 0) K)) (fun f v => f (v.i 52 0) (v.r 2)) (fun k v => (fun z0 z1 => k ((v.ui 52 0 z0).ur 2 z1))) (by kernel_rfl) (fun _ _ => (by kernel_rfl)) (fun _ _ _ => (by kernel_rfl)) (fun _ _ _ => (by kernel_rfl)) (fun _ _ => (by kernel_rfl)) (fun _ _ _ _ _ => (by kernel_rfl))
def qe1 (Ae : Int) (Af v1 : List AV) : Option AV :=
  (bif decide (0 ≤ (0 : Int) ∧ (0 : Int) ≤ (v1.length : Int) ∧ (v1.length : Int) * 96 ≤ 281474976710656) then (bif (hd (List.replicate (0 : Int).toNat ((.agg [(.int .i64 (0 : Int)), (.str ([] : List UInt8)), (.int .i64 (0 : Int)), (.int .i64 (0 : Int)), .nils, (.int .i64 (0 : Int)), (.int .i64 (0 : Int)), (.int .i64 (0 : Int)), (.int .i64 (0 : Int))]) : AV)) ((List.replicate (0 : Int).toNat ((.agg [(.int .i64 (0 : Int)), (.str ([] : List UInt8)), (.int .i64 (0 : Int)), (.int .i64 (0 : Int)), .nils, (.int .i64 (0 : Int)), (.int .i64 (0 : Int)), (.int .i64 (0 : Int)), (.int .i64 (0 : Int))]) : AV)).length) && true) then (qk7 v1 (v1.length : Int) Ae Af (0 : Int) (fun a2q1 => (bif hd a2q1 a2q1.length then (some (.agg [(.int .i64 Ae), (.fr true 9 a2q1)])) else none)) FU (0 : Int) (List.replicate (0 : Int).toNat ((.agg [(.int .i64 (0 : Int)), (.str ([] : List UInt8)), (.int .i64 (0 : Int)), (.int .i64 (0 : Int)), .nils, (.int .i64 (0 : Int)), (.int .i64 (0 : Int)), (.int .i64 (0 : Int)), (.int .i64 (0 : Int))]) : AV))) else none) else none)
def qbc := hull qe1
theorem quk : qbc = qe1 := qb _
def qca {R : Type} : EntF Tryd.prog R := entB (nt := 27) (dec := (decT [(.i .i64), (.fr true 9)])) (enc := (qdq (.st [(.i .i64), (.fr true 9)]))) tabOk follows Tryd.func35 [(.cell 4 true 2)] hdeT (.s .z (.s .z (.s (.s .z (.b (.sub [.sel [2, 4, 5, 11, 12, 13] [0, 1, 2]] qq9 []))) .z))) S44_ qe1 (fun f v => f (v.i 1 0) (v.l 1 1) (v.l 4 0)) (by kernel_rfl) (by kernel_rfl) (by kernel_rfl) fun _ => (by kernel_rfl)
def qli : Nat := 41
def S45_ : Shp := ⟨[(1, .one (.l .fn)), (5, .one (.own 0)), (8, .one (.l (.sl 9))), (9, .one (.l (.i .i64))), (10, .one (.l (.i .i64)))], [.arr true 9]⟩
def qff  (K : Ex → Env → Mem → Option (List AV)) := (fun z_a0 => K (.exit 0) (qi [(5, (.own 0 z_a0.length))]) (qj [(some (.arr true 9 z_a0))]))
def qbt  (v1 : AV) (v8 : List AV) (v9 v10 : Int) (a0 : List AV) (next : Int → (List AV) → Option (List AV)) (kx0 : (List AV) → Option (List AV)) : Option (List AV) :=
  (bif (decide (v10 < v9)) then (oB (ixB v8 v10) fun y1 => (bif fitC qc y1.cells then (oB (ap1.ap v1 [(.agg [(.int .i64 (gI y1.cells 0)), (.str (gS y1.cells 1)), (.int .i64 (gI y1.cells 2)), (.int .i64 (gI y1.cells 3)), (.sl 13 (gL y1.cells 4)), (.int .i64 (gI y1.cells 5)), (.int .i64 (gI y1.cells 6)), (.int .i64 (gI y1.cells 7)), (.int .i64 (gI y1.cells 8))])]) fun r2 => (bif r2 then (bif hd a0 a0.length then (bif hd ([(.agg [(.int .i64 (gI y1.cells 0)), (.str (gS y1.cells 1)), (.int .i64 (gI y1.cells 2)), (.int .i64 (gI y1.cells 3)), (.sl 13 (gL y1.cells 4)), (.int .i64 (gI y1.cells 5)), (.int .i64 (gI y1.cells 6)), (.int .i64 (gI y1.cells 7)), (.int .i64 (gI y1.cells 8))])] : List AV) (([(.agg [(.int .i64 (gI y1.cells 0)), (.str (gS y1.cells 1)), (.int .i64 (gI y1.cells 2)), (.int .i64 (gI y1.cells 3)), (.sl 13 (gL y1.cells 4)), (.int .i64 (gI y1.cells 5)), (.int .i64 (gI y1.cells 6)), (.int .i64 (gI y1.cells 7)), (.int .i64 (gI y1.cells 8))])] : List AV).length) then (bif decide ((a0.length + ([(.agg [(.int .i64 (gI y1.cells 0)), (.str (gS y1.cells 1)), (.int .i64 (gI y1.cells 2)), (.int .i64 (gI y1.cells 3)), (.sl 13 (gL y1.cells 4)), (.int .i64 (gI y1.cells 5)), (.int .i64 (gI y1.cells 6)), (.int .i64 (gI y1.cells 7)), (.int .i64 (gI y1.cells 8))])] : List AV).length) * 96 ≤ 140737488355328) then (next (IntKind.i64.wrap (v10 + (1 : Int))) (a0 ++ ([(.agg [(.int .i64 (gI y1.cells 0)), (.str (gS y1.cells 1)), (.int .i64 (gI y1.cells 2)), (.int .i64 (gI y1.cells 3)), (.sl 13 (gL y1.cells 4)), (.int .i64 (gI y1.cells 5)), (.int .i64 (gI y1.cells 6)), (.int .i64 (gI y1.cells 7)), (.int .i64 (gI y1.cells 8))])] : List AV))) else none) else none) else none) else (next (IntKind.i64.wrap (v10 + (1 : Int))) a0))) else none)) else (kx0 a0))
def qbe  (v1 : AV) (v8 : List AV) (v9 : Int) (kx0 : (List AV) → Option (List AV)) : Nat → Int → (List AV) → Option (List AV)
  | 0 => (fun _ _ => none)
  | n + 1 => (fun v10 a0 => qbt v1 v8 v9 v10 a0 (qbe v1 v8 v9 kx0 n) kx0)
def qhi := hull (qbe)
theorem qlj : qhi = qbe := qb _
def qmo : SubB Tryd.prog (TIof Tryd.prog) 23 0 (kret [.t 4] (decF true 9)) := lpB tabOk follows Tryd.f40 75 (.s .z (.s (.s .z (.v [.sel [5] [0]])) (.s (.b (.s (.r [(0, .p (.etac 12 qc))] []) (.s (.r [(2, .q ap1)] []) .z))) (.v [.sel [1, 5, 8, 9, 10] [0]])))) S45_ (qbe) (fun f v K n => f (v.f 4 0) (v.l 32 0) (v.i 36 0) (qff K) n) (fun v f K => qbt (v.f 4 0) (v.l 32 0) (v.i 36 0) (v.i 40 0) (v.r 0) f (qff K)) (fun f v => f (v.i 40 0) (v.r 0)) (fun k v => (fun z0 z1 => k ((v.ui 40 0 z0).ur 0 z1))) (by kernel_rfl) (fun _ _ => (by kernel_rfl)) (fun _ _ _ => (by kernel_rfl)) (fun _ _ _ => (by kernel_rfl)) (fun _ _ => (by kernel_rfl)) (fun _ _ _ _ _ => (by kernel_rfl))
def qc3 (v0 : List AV) (v1 : AV) : Option (List AV) :=
  (bif (hd ([] : List AV) (([] : List AV).length) && true) then (qhi v1 v0 (v0.length : Int) (fun a0q1 => (bif hd a0q1 a0q1.length then (some a0q1) else none)) FU (0 : Int) ([] : List AV)) else none)
def qx := hull qc3
theorem qnj : qx = qc3 := qb _
def qbo {R : Type} : EntF Tryd.prog R := entB (nt := 23) (dec := (decF true 9)) (enc := (AV.fr true 9)) tabOk follows Tryd.func40 [.t 4] hdeF (.s .z (.s .z (.s (.s .z (.b (.sub [.own 5 9, .sel [1, 5, 8, 9, 10] [0]] qmo []))) .z))) S40_ qc3 (fun f v => f (v.l 0 0) (v.f 4 0)) (by kernel_rfl) (by kernel_rfl) (by kernel_rfl) fun _ => (by kernel_rfl)
def qqx (v0 v1 : Int) : Option Int :=
  (some (if (4294967295 : Int) < (IntKind.i64.wrap (v1 + v0)) then (4294967295 : Int) else (IntKind.i64.wrap (v1 + v0))))
def qpx := hull qqx
theorem q5r : qpx = qqx := qb _
def qx4 {R : Type} : EntF Tryd.prog R := entB (nt := 9) (dec := (decI .i64)) (enc := (AV.int .i64)) tabOk follows Tryd.func43 [.t 4] hdeI (.z) S16_ qqx (fun f v => f (v.i 0 0) (v.i 4 0)) (by kernel_rfl) (by kernel_rfl) (by kernel_rfl) fun _ => (by kernel_rfl)
def qec : Nat := 60
def qjh : Nat := 61
def qji : Nat := 62
def q5s {R : Type} (vs : List AV) (m : Mem) (K : AV → Mem → Option R) : Option R := qqi 9 96 vs m K
theorem q5t {R : Type} : qml Tryd.prog 64 (q5s (R := R)) := qbbr (ρ := qwp 64 74 75 0 3 4 23 35) tabOk (q97 follows "slices.Insert[[]ddi/cache.Entry,ddi/cache.Entry]" (by kernel_rfl) (by kernel_rfl) Tryd.func74 (by kernel_rfl) (by kernel_rfl) (by kernel_rfl) (by kernel_rfl) (by kernel_rfl) (by kernel_rfl) (by kernel_rfl) (by kernel_rfl) (by kernel_rfl) (by kernel_rfl) (by kernel_rfl) (by kernel_rfl) (by kernel_rfl) (by kernel_rfl) (by kernel_rfl) (by kernel_rfl) (by kernel_rfl)) (by kernel_rfl) (by kernel_rfl) (by decide) (by decide)
def qjj : Nat := 65
def q5u {R : Type} (vs : List AV) (m : Mem) (K : AV → Mem → Option R) : Option R := qqh 9 vs m K
theorem q5v {R : Type} : qml Tryd.prog 66 (q5u (R := R)) := qbbq (ρ := qwo 66 0 3 4 23 35) tabOk (q96 follows "slices.Delete[[]ddi/cache.Entry,ddi/cache.Entry]" (by kernel_rfl) (by kernel_rfl) (by kernel_rfl) (by kernel_rfl) (by kernel_rfl) (by kernel_rfl) (by kernel_rfl) (by kernel_rfl) (by kernel_rfl) (by kernel_rfl) (by kernel_rfl) (by kernel_rfl) (by kernel_rfl) (by kernel_rfl)) (by kernel_rfl) (by decide)
def qjk (x0 : Int) (x1 : List UInt8) (x2 x3 : Int) (x4 : List AV) (x5 x6 x7 x8 : Int) : List AV := [.int .i64 x0, .str x1, .int .i64 x2, .int .i64 x3, .sl 13 x4, .int .i64 x5, .int .i64 x6, .int .i64 x7, .int .i64 x8]
def S46_ : Shp := ⟨[(3, .one (.ptr 0 0)), (4, .cptr qc), (5, .one (.ptr 1 0)), (6, .one (.ptr 2 0)), (7, .cptr [.fn]), (8, .one (.own 3)), (9, .one (.l (.i .i64)))], [.box true [(.l (.i .i64)), (.l (.sl 9))], .box true [(.l (.i .i64))], .box true [(.l (.i .i64)), (.l .nil)], .arr true 9]⟩
def S47_ : Shp := ⟨[(3, .one (.ptr 0 0)), (5, .one (.ptr 1 0)), (6, .one (.ptr 2 0)), (7, .cptr [.fn]), (8, .one (.own 3))], [.box true [(.l (.i .i64)), (.l (.sl 9))], .box true [(.l (.i .i64))], .box true [(.l (.i .i64)), (.l .nil)], .arr true 9]⟩
def S48_ : Shp := ⟨[(3, .one (.ptr 0 0)), (6, .one (.ptr 1 0)), (7, .cptr [.fn]), (8, .one (.own 2)), (10, .one (.l (.i .i64))), (11, .one (.l (.i .i64))), (12, .one (.ptr 3 0)), (48, .one (.own 2)), (49, .one (.l (.i .i64))), (50, .one (.l (.i .i64)))], [.box true [(.l (.i .i64)), (.l (.sl 9))], .box true [(.l (.i .i64)), (.l .nil)], .arr true 9, .box true (lk qc)]⟩
def S49_ : Shp := ⟨[(3, .one (.ptr 0 0)), (6, .one (.ptr 1 0)), (7, .cptr [.fn]), (8, .one (.own 2)), (10, .one (.l (.i .i64))), (48, .one (.own 2)), (49, .one (.l (.i .i64))), (50, .one (.l (.i .i64)))], [.box true [(.l (.i .i64)), (.l (.sl 9))], .box true [(.l (.i .i64)), (.l .nil)], .arr true 9]⟩
def S50_ : Shp := ⟨[(3, .one (.ptr 0 0)), (6, .one (.ptr 1 0)), (7, .cptr [.fn]), (8, .one (.own 2))], [.box true [(.l (.i .i64)), (.l (.sl 9))], .box true [(.l (.i .i64)), (.l .nil)], .arr true 9]⟩
def S51_ : Shp := ⟨[(0, .st [(.l (.i .i64)), (.l (.sl 9))]), (1, .st (lk qc)), (2, .one (.l (.i .i64)))], []⟩
def qxp  (Bl : Int) (Bm : List UInt8) (Bn Bo : Int) (Bp : List AV) (Bq Br Bs Bt : Int) (Bu : AV) (Aa : Int) (Ab : List AV) (Bj Bv : Int) (a3 : List AV) (K : Ex → Env → Mem → Option AV) := (fun z_v9 => K .norm (qi [(3, (.ptr 0 0)), (4, .cptr (qjk Bl Bm Bn Bo Bp Bq Br Bs Bt)), (5, (.ptr 1 0)), (6, (.ptr 2 0)), (7, .cptr [(.fv Bu)]), (8, (.own 3 a3.length)), (9, (.int .i64 z_v9))]) (qj [(some (.box true [(.int .i64 Aa), (.sl 9 Ab)])), (some (.box true [(.int .i64 Bj)])), (some (.box true [(.int .i64 Bv), .nils])), (some (.arr true 9 a3))]))
def qgh  (Bl : Int) (Bm : List UInt8) (Bn Bo : Int) (Bp : List AV) (Bq Br Bs Bt : Int) (Bu : AV) (v9 Aa : Int) (Ab : List AV) (Bj Bv : Int) (a3 : List AV) (kn : Int → Option AV) : Option AV :=
  (bif (decide (v9 < (0 : Int))) then (kn (a3.length : Int)) else (kn v9))
def qlk := hull (qgh)
theorem qxq : qlk = qgh := qb _
def qy2 : SubB Tryd.prog (TIof Tryd.prog) 83 0 (kret [(.cell 6 true 2)] (decT [(.i .i64), (.sl 9)])) := jnB tabOk follows Tryd.f42 47 (.s .z (.s (.v [.sel [3, 4, 5, 6, 7, 8, 9] [0, 1, 2, 3]]) (.v [.sel [3, 4, 5, 6, 7, 8, 9] [0, 1, 2, 3]]))) S46_ (qgh) (fun f v K => f (v.i 18 0) (v.s 18 1) (v.i 18 2) (v.i 18 3) (v.l 18 4) (v.i 18 5) (v.i 18 6) (v.i 18 7) (v.i 18 8) (v.f 30 0) (v.i 36 0) (v.i 3 0) (v.l 3 1) (v.i 7 0) (v.i 11 0) (v.r 3) (qxp (v.i 18 0) (v.s 18 1) (v.i 18 2) (v.i 18 3) (v.l 18 4) (v.i 18 5) (v.i 18 6) (v.i 18 7) (v.i 18 8) (v.f 30 0) (v.i 3 0) (v.l 3 1) (v.i 7 0) (v.i 11 0) (v.r 3) K)) (by kernel_rfl) (fun _ _ => (by kernel_rfl))
def qvh  (Bu : AV) (Aa : Int) (Ab : List AV) (Bv : Int) (K : Ex → Env → Mem → Option AV) := (fun z_a2 => K .norm (qi [(3, (.ptr 0 0)), (6, (.ptr 1 0)), (7, .cptr [(.fv Bu)]), (8, (.own 2 z_a2.length))]) (qj [(some (.box true [(.int .i64 Aa), (.sl 9 Ab)])), (some (.box true [(.int .i64 Bv), .nils])), (some (.arr true 9 z_a2))]))
def qfr  (Bu : AV) (Aa : Int) (Ab : List AV) (Bj Bv : Int) (a3 : List AV) (kn : (List AV) → Option AV) : Option AV :=
  (bif (decide ((a3.length : Int) > Aa)) then (bif hd a3 a3.length then (oB (qx a3 (.func qjj [(.cptr [(.fv Bu)]), (.cptr [(.int .i64 Bj)])])) fun r1 => (kn r1)) else none) else (kn a3))
def qhj := hull (qfr)
theorem qvi : qhj = qfr := qb _
def qxr : SubB Tryd.prog (TIof Tryd.prog) 83 0 (kret [(.cell 6 true 2)] (decT [(.i .i64), (.sl 9)])) := jnB tabOk follows Tryd.f42 191 (.s .z (.s (.r [(1, .s (.cls 5)), (2, .c qbo.b)] [.sel [3, 6, 7, 8] [0, 2, 4]]) (.v [.sel [3, 6, 7, 8] [0, 2, 3]]))) S47_ (qfr) (fun f v K => f (v.f 30 0) (v.i 3 0) (v.l 3 1) (v.i 7 0) (v.i 11 0) (v.r 3) (qvh (v.f 30 0) (v.i 3 0) (v.l 3 1) (v.i 11 0) K)) (by kernel_rfl) (fun _ _ => (by kernel_rfl))
def qvj  (Bu : AV) (v10 v11 v49 v50 Aa : Int) (Ab : List AV) (Bj : Int) (a2 : List AV) (K : Ex → Env → Mem → Option AV) := (fun z_v72 => K .norm (qi [(3, (.ptr 0 0)), (6, (.ptr 1 0)), (7, .cptr [(.fv Bu)]), (8, (.own 2 a2.length)), (10, (.int .i64 v10)), (11, (.int .i64 v11)), (48, (.own 2 a2.length)), (49, (.int .i64 v49)), (50, (.int .i64 v50)), (72, (.bool z_v72))]) (qj [(some (.box true [(.int .i64 Aa), (.sl 9 Ab)])), (some (.box true [(.int .i64 Bj), .nils])), (some (.arr true 9 a2))]))
def qfs  (Bu : AV) (v10 v11 v49 v50 Aa : Int) (Ab : List AV) (Bj : Int) (a2 : List AV) (Bw : Int) (Bx : List UInt8) (By Bz : Int) (B0 : List AV) (B1 B2 B3 B4 : Int) (kn : Bool → Option AV) : Option AV :=
  (oB (ap1.ap Bu [(.agg [(.int .i64 Bw), (.str Bx), (.int .i64 By), (.int .i64 Bz), (.sl 13 B0), (.int .i64 B1), (.int .i64 B2), (.int .i64 B3), (.int .i64 B4)])]) fun r1 => (bif (!r1) then (bif (decide (v10 < (0 : Int))) then (kn true) else (bif hd a2 a2.length then (bif decide (0 ≤ v10 ∧ v10 < a2.length) then (bif hd a2 a2.length then (bif hd a2 a2.length then (oB (a2[v10.toNat]?) fun y2 => (oB (rdE y2 8 false 1) fun z3 => (bif fitV (.one (.i .i64)) z3 then (kn (decide (B4 < (aI z3)))) else none))) else none) else none) else none) else none)) else (kn false)))
def qpy := hull (qfs)
theorem qvk : qpy = qfs := qb _
def qxs : SubB Tryd.prog (TIof Tryd.prog) 83 0 (kret [(.cell 6 true 2)] (decT [(.i .i64), (.sl 9)])) := jnB tabOk follows Tryd.f42 10900607 (.d [] [(2, .q ap1), (14, .p (.eta 69 (.one (.i .i64))))] [] [.sel [3, 6, 7, 8, 10, 11, 48, 49, 50, 72] [0, 1, 2]]) S48_ (qfs) (fun f v K => f (v.f 30 0) (v.i 40 0) (v.i 44 0) (v.i 196 0) (v.i 200 0) (v.i 3 0) (v.l 3 1) (v.i 7 0) (v.r 2) (v.i 15 0) (v.s 15 1) (v.i 15 2) (v.i 15 3) (v.l 15 4) (v.i 15 5) (v.i 15 6) (v.i 15 7) (v.i 15 8) (qvj (v.f 30 0) (v.i 40 0) (v.i 44 0) (v.i 196 0) (v.i 200 0) (v.i 3 0) (v.l 3 1) (v.i 7 0) (v.r 2) K)) (by kernel_rfl) (fun _ _ => (by kernel_rfl))
def qk8  (Bu : AV) (Aa : Int) (Ab : List AV) (Bj : Int) (a2 : List AV) (K : Ex → Env → Mem → Option AV) := (fun z_v10 => K (.exit 2) (qi [(3, (.ptr 0 0)), (6, (.ptr 1 0)), (7, .cptr [(.fv Bu)]), (8, (.own 2 a2.length)), (10, (.int .i64 z_v10))]) (qj [(some (.box true [(.int .i64 Aa), (.sl 9 Ab)])), (some (.box true [(.int .i64 Bj), .nils])), (some (.arr true 9 a2))]))
def qdz  (Bu : AV) (v10 v49 v50 Aa : Int) (Ab : List AV) (Bj : Int) (a2 : List AV) (next : Int → Int → Option AV) (kx2 : Int → Option AV) : Option AV :=
  (bif (decide (v50 < v49)) then (bif hd a2 a2.length then (bif decide (0 ≤ v50 ∧ v50 < a2.length) then (bif hd a2 a2.length then (oB (a2[v50.toNat]?) fun y1 => (oB (rdE y1 0 true 9) fun z2 => (bif fitV (.st qc) z2 then (bif (hd a2 (a2.length) && (hd a2 (a2.length) && true)) then (qpy Bu v10 v50 v49 v50 Aa Ab Bj a2 (gI z2.cells 0) (gS z2.cells 1) (gI z2.cells 2) (gI z2.cells 3) (gL z2.cells 4) (gI z2.cells 5) (gI z2.cells 6) (gI z2.cells 7) (gI z2.cells 8) (fun v72q3 => (bif v72q3 then (next v50 (IntKind.i64.wrap (v50 + (1 : Int)))) else (next v10 (IntKind.i64.wrap (v50 + (1 : Int))))))) else none) else none))) else none) else none) else none) else (kx2 v10))
def qd0  (Bu : AV) (v49 Aa : Int) (Ab : List AV) (Bj : Int) (a2 : List AV) (kx2 : Int → Option AV) : Nat → Int → Int → Option AV
  | 0 => (fun _ _ => none)
  | n + 1 => (fun v10 v50 => qdz Bu v10 v49 v50 Aa Ab Bj a2 (qd0 Bu v49 Aa Ab Bj a2 kx2 n) kx2)
def qkj := hull (qd0)
theorem qvl : qkj = qd0 := qb _
def qxt : SubB Tryd.prog (TIof Tryd.prog) 83 0 (kret [(.cell 6 true 2)] (decT [(.i .i64), (.sl 9)])) := lpB tabOk follows Tryd.f42 152703 (.s .z (.s (.s .z (.v [.sel [3, 6, 7, 8, 10] [0, 1, 2]])) (.s (.b (.s (.r [(2, .p (.eta 54 (.st qc)))] []) (.s (.sub [.sel [3, 6, 7, 8, 10, 11, 12, 48, 49, 50] [0, 1, 2, 3]] qxs []) .z))) (.v [.sel [3, 6, 7, 8, 10, 48, 49, 50] [0, 1, 2]])))) S49_ (qd0) (fun f v K n => f (v.f 30 0) (v.i 196 0) (v.i 3 0) (v.l 3 1) (v.i 7 0) (v.r 2) (qk8 (v.f 30 0) (v.i 3 0) (v.l 3 1) (v.i 7 0) (v.r 2) K) n) (fun v f K => qdz (v.f 30 0) (v.i 40 0) (v.i 196 0) (v.i 200 0) (v.i 3 0) (v.l 3 1) (v.i 7 0) (v.r 2) f (qk8 (v.f 30 0) (v.i 3 0) (v.l 3 1) (v.i 7 0) (v.r 2) K)) (fun f v => f (v.i 40 0) (v.i 200 0)) (fun k v => (fun z0 z1 => k ((v.ui 40 0 z0).ui 200 0 z1))) (by kernel_rfl) (fun _ _ => (by kernel_rfl)) (fun _ _ _ => (by kernel_rfl)) (fun _ _ _ => (by kernel_rfl)) (fun _ _ => (by kernel_rfl)) (fun _ _ _ _ _ => (by kernel_rfl))
def qk9  (Aa : Int) (Ab : List AV) (Bj : Int) (K : Ex → Env → Mem → Option AV) := (fun z_a2 => K (.exit 0) (qi [(3, (.ptr 0 0)), (6, (.ptr 1 0)), (8, (.own 2 z_a2.length))]) (qj [(some (.box true [(.int .i64 Aa), (.sl 9 Ab)])), (some (.box true [(.int .i64 Bj), .nils])), (some (.arr true 9 z_a2))]))
def qc9  (Bu : AV) (Aa : Int) (Ab : List AV) (Bj : Int) (a2 : List AV) (next : (List AV) → Option AV) (kx0 : (List AV) → Option AV) : Option AV :=
  (bif ((decide ((a2.length : Int) > Aa)) && (decide ((a2.length : Int) > (1 : Int)))) then (bif (hd a2 (a2.length) && (hd a2 (a2.length) && true)) then (qkj Bu (a2.length : Int) Aa Ab Bj a2 (fun v10q1 => (bif hd a2 a2.length then (oB (qry a2 v10q1 (IntKind.i64.wrap (v10q1 + (1 : Int)))) fun r2 => (next r2)) else none)) FU (-1 : Int) (0 : Int)) else none) else (kx0 a2))
def qby  (Bu : AV) (Aa : Int) (Ab : List AV) (Bj : Int) (kx0 : (List AV) → Option AV) : Nat → (List AV) → Option AV
  | 0 => (fun _ => none)
  | n + 1 => (fun a2 => qc9 Bu Aa Ab Bj a2 (qby Bu Aa Ab Bj kx0 n) kx0)
def qpz := hull (qby)
theorem qvm : qpz = qby := qb _
def qxu : SubB Tryd.prog (TIof Tryd.prog) 83 0 (kret [(.cell 6 true 2)] (decT [(.i .i64), (.sl 9)])) := lpB tabOk follows Tryd.f42 1151 (.s (.s (.r [(6, .g 3)] []) (.s .z (.v [.sel [3, 6, 8] [0, 1, 2]]))) (.b (.s .z (.s (.s .z (.b (.sub [.sel [3, 6, 7, 8, 10, 48, 49, 50] [0, 1, 2]] qxt []))) (.r [(4, .r (rB q5v))] [.sel [3, 6, 7, 8] [0, 1, 3]]))))) S50_ (qby) (fun f v K n => f (v.f 30 0) (v.i 3 0) (v.l 3 1) (v.i 7 0) (qk9 (v.i 3 0) (v.l 3 1) (v.i 7 0) K) n) (fun v f K => qc9 (v.f 30 0) (v.i 3 0) (v.l 3 1) (v.i 7 0) (v.r 2) f (qk9 (v.i 3 0) (v.l 3 1) (v.i 7 0) K)) (fun f v => f (v.r 2)) (fun k v => (fun z0 => k (v.ur 2 z0))) (by kernel_rfl) (fun _ _ => (by kernel_rfl)) (fun _ _ _ => (by kernel_rfl)) (fun _ _ _ => (by kernel_rfl)) (fun _ _ => (by kernel_rfl)) (fun _ _ _ _ _ => (by kernel_rfl))
def qi7 (Ae : Int) (Af : List AV) (Ar : Int) (As : List UInt8) (At Au : Int) (Av : List AV) (Aw Ax Ay Az v2 : Int) : Option AV :=
  (oB (qx Af (.func qjh [(.cptr [(.fv (.func qec [(.cptr [(.int .i64 Ar), (.str As), (.int .i64 At), (.int .i64 Au), (.sl 13 Av), (.int .i64 Aw), (.int .i64 Ax), (.int .i64 Ay), (.int .i64 Az)])]))])])) fun r1 => (bif hd r1 r1.length then (oB (qbh r1 (.func qji [(.cptr [(.int .i64 Ar), (.str As), (.int .i64 At), (.int .i64 Au), (.sl 13 Av), (.int .i64 Aw), (.int .i64 Ax), (.int .i64 Ay), (.int .i64 Az)])])) fun r2 => (bif (hd r1 (r1.length) && true) then (qlk Ar As At Au Av Aw Ax Ay Az (.func qec [(.cptr [(.int .i64 Ar), (.str As), (.int .i64 At), (.int .i64 Au), (.sl 13 Av), (.int .i64 Aw), (.int .i64 Ax), (.int .i64 Ay), (.int .i64 Az)])]) r2 Ae Af v2 (0 : Int) r1 (fun v9q3 => (bif hd r1 r1.length then (bif hd ([(.agg [(.int .i64 Ar), (.str As), (.int .i64 At), (.int .i64 Au), (.sl 13 Av), (.int .i64 Aw), (.int .i64 Ax), (.int .i64 Ay), (.int .i64 Az)])] : List AV) (([(.agg [(.int .i64 Ar), (.str As), (.int .i64 At), (.int .i64 Au), (.sl 13 Av), (.int .i64 Aw), (.int .i64 Ax), (.int .i64 Ay), (.int .i64 Az)])] : List AV).length) then (oB (qn7 96 r1 v9q3 ([(.agg [(.int .i64 Ar), (.str As), (.int .i64 At), (.int .i64 Au), (.sl 13 Av), (.int .i64 Aw), (.int .i64 Ax), (.int .i64 Ay), (.int .i64 Az)])] : List AV)) fun r4 => (bif (hd r4 (r4.length) && true) then (qhj (.func qec [(.cptr [(.int .i64 Ar), (.str As), (.int .i64 At), (.int .i64 Au), (.sl 13 Av), (.int .i64 Aw), (.int .i64 Ax), (.int .i64 Ay), (.int .i64 Az)])]) Ae Af v2 (0 : Int) r4 (fun a2q5 => (bif (hd a2q5 (a2q5.length) && true) then (qpz (.func qec [(.cptr [(.int .i64 Ar), (.str As), (.int .i64 At), (.int .i64 Au), (.sl 13 Av), (.int .i64 Aw), (.int .i64 Ax), (.int .i64 Ay), (.int .i64 Az)])]) Ae Af (0 : Int) (fun a2q6 => (bif hd a2q6 a2q6.length then (oB (qbc Ae Af a2q6) fun r7 => (some (.agg [(.int .i64 (gI r7.cells 0)), (.sl 9 (gL r7.cells 1))]))) else none)) FU a2q5) else none))) else none)) else none) else none))) else none)) else none))
def qfa := hull qi7
theorem q2i : qfa = qi7 := qb _
def qt2 {R : Type} : EntF Tryd.prog R := entB (nt := 83) (dec := (decT [(.i .i64), (.sl 9)])) (enc := (qdq (.st [(.i .i64), (.sl 9)]))) tabOk follows Tryd.func42 [(.cell 6 true 2)] hdeT (.s .z (.s (.r [(0, .s (.cls 4))] []) (.s (.r [(2, .s (.cls 7)), (3, .c qbo.b)] []) (.s (.r [(2, .c qb2.b)] []) (.s (.sub [.sel [3, 4, 5, 6, 7, 8, 9] [0, 2, 3, 5]] qy2 []) (.s (.r [(4, .r (rB q5t))] []) (.s (.sub [.sel [3, 5, 6, 7, 8] [0, 1, 2, 5]] qxr []) (.s (.b (.sub [.sel [3, 6, 7, 8] [0, 1, 2]] qxu [])) (.s (.r [(2, .k qca.b)] []) .z))))))))) S51_ qi7 (fun f v => f (v.i 1 0) (v.l 1 1) (v.i 5 0) (v.s 5 1) (v.i 5 2) (v.i 5 3) (v.l 5 4) (v.i 5 5) (v.i 5 6) (v.i 5 7) (v.i 5 8) (v.i 8 0)) (by kernel_rfl) (by kernel_rfl) (by kernel_rfl) fun _ => (by kernel_rfl)
def qvn (x0 : List UInt8) (x1 x2 : Int) (x3 : List AV) : List AV := [.str x0, .int .i64 x1, .int .i64 x2, .sl 13 x3]
def S52_ : Shp := ⟨[(2, .one (.l (.i .i64))), (3, .one (.l (.i .i64))), (4, .one (.l (.i .i64))), (5, .one (.ptr 0 0)), (6, .cptr qhs), (10, .one (.ptr 1 0)), (11, .one (.l .fn))], [.box true [(.l (.i .i64)), (.l (.sl 9))], .box true [(.l (.i .i64)), (.l .nil)]]⟩
def S53_ : Shp := ⟨[(0, .st [(.l (.i .i64)), (.l (.sl 9))]), (1, .st (lk qhs)), (2, .one (.l (.i .i64))), (3, .one (.l (.i .i64))), (4, .one (.l (.i .i64)))], []⟩
def q0b  (v2 v3 v4 : Int) (B5 : List UInt8) (B6 B7 : Int) (B8 : List AV) (Aa : Int) (Ab : List AV) (Bj : Int) (K : Ex → Env → Mem → Option AV) := (fun z_v31 => K .norm (qi [(2, (.int .i64 v2)), (3, (.int .i64 v3)), (4, (.int .i64 v4)), (5, (.ptr 0 0)), (6, .cptr (qvn B5 B6 B7 B8)), (10, (.ptr 1 0)), (31, (.bool z_v31))]) (qj [(some (.box true [(.int .i64 Aa), (.sl 9 Ab)])), (some (.box true [(.int .i64 Bj), .nils]))]))
def qia  (v2 v3 v4 : Int) (B5 : List UInt8) (B6 B7 : Int) (B8 : List AV) (v11 : AV) (Aa : Int) (Ab : List AV) (Bj : Int) (kn : Bool → Option AV) : Option AV :=
  (oB (qle B5 B6 B7 B8) fun r1 => (bif (((!r1) || (decide (v4 < (0 : Int)))) || (decide (v4 > (4294967295 : Int)))) then (kn true) else (oB (qf2 Aa Ab v2 v4 v11) fun r2 => (kn r2))))
def qon := hull (qia)
theorem q0c : qon = qia := qb _
def q2j : SubB Tryd.prog (TIof Tryd.prog) 55 0 (kret [(.cell 10 true 2)] (decT [(.i .i64), (.sl 9)])) := jnB tabOk follows Tryd.f15 19 (.r [(1, .c qyt.b), (4, .g 2), (8, .g 2), (16, .c qom.b)] [.sel [2, 3, 4, 5, 6, 10, 31] [0, 1]]) S52_ (qia) (fun f v K => f (v.i 8 0) (v.i 12 0) (v.i 16 0) (v.s 26 0) (v.i 26 1) (v.i 26 2) (v.l 26 3) (v.f 44 0) (v.i 3 0) (v.l 3 1) (v.i 7 0) (q0b (v.i 8 0) (v.i 12 0) (v.i 16 0) (v.s 26 0) (v.i 26 1) (v.i 26 2) (v.l 26 3) (v.i 3 0) (v.l 3 1) (v.i 7 0) K)) (by kernel_rfl) (fun _ _ => (by kernel_rfl))
def ql9 (Ae : Int) (Af : List AV) (Ar : List UInt8) (As At : Int) (Au : List AV) (v2 v3 v4 : Int) : Option AV :=
  (qon v2 v3 v4 Ar As At Au (.func qh5 [(.cptr [(.str Ar), (.int .i64 As), (.int .i64 At), (.sl 13 Au)])]) Ae Af (0 : Int) (fun v31q1 => (bif v31q1 then (oB (qbc Ae Af Af) fun r2 => (some (.agg [(.int .i64 (gI r2.cells 0)), (.sl 9 (gL r2.cells 1))]))) else (oB (qx Af (.func qli [(.cptr [(.str Ar), (.int .i64 As), (.int .i64 At), (.sl 13 Au)])])) fun r3 => (oB (qpx At v4) fun r4 => (oB (qfa Ae r3 (0 : Int) Ar As At Au v2 v3 r4 v4 v4) fun r5 => (some (.agg [(.int .i64 (gI r5.cells 0)), (.sl 9 (gL r5.cells 1))]))))))))
def qe2 := hull ql9
theorem q5w : qe2 = ql9 := qb _
def qma {R : Type} : EntF Tryd.prog R := entB (nt := 55) (dec := (decT [(.i .i64), (.sl 9)])) (enc := (qdq (.st [(.i .i64), (.sl 9)]))) tabOk follows Tryd.func15 [(.cell 10 true 2)] hdeT (.s .z (.s (.r [(0, .s (.cls 6))] []) (.s (.s (.sub [.sel [2, 3, 4, 5, 6, 10, 11] [0, 2]] q2j []) (.s (.s (.r [(3, .k qca.b)] []) .z) .z)) (.s (.d [] [(5, .c qbo.b)] [] []) (.s (.d [] [(7, .c qx4.b)] [(0, .k qt2.b)] []) .z))))) S53_ ql9 (fun f v => f (v.i 1 0) (v.l 1 1) (v.s 5 0) (v.i 5 1) (v.i 5 2) (v.l 5 3) (v.i 8 0) (v.i 12 0) (v.i 16 0)) (by kernel_rfl) (by kernel_rfl) (by kernel_rfl) fun _ => (by kernel_rfl)
def qll : Nat := 29
def qlm : Nat := 32
def qln : Nat := 33
def S54_ : Shp := ⟨[(3, .one (.ptr 0 0)), (4, .cptr [.s, (.i .i64)]), (5, .cptr [(.i .i64)]), (6, .one (.ptr 1 0)), (7, .one (.ptr 2 0)), (9, .one (.l (.i .i64)))], [.box true [(.l (.i .i64)), (.l (.sl 9))], .box true [(.l (.i .i64)), (.l .nil)], .box true [(.l (.i .i64)), (.l .s), (.l (.i .i64)), (.l (.i .i64)), (.l .nil), (.l (.i .i64)), (.l (.i .i64)), (.l (.i .i64)), (.l (.i .i64))]]⟩
def S55_ : Shp := ⟨[(0, .st [(.l (.i .i64)), (.l (.sl 9))]), (1, .st [(.l .s), (.l (.i .i64))]), (2, .one (.l (.i .i64)))], []⟩
def qm5 : AV → Option (AV × AV × Bool) := decN [(.st [(.i .i64), (.sl 9)]), (.st [(.i .i64), .s, (.i .i64), (.i .i64), (.sl 13), (.i .i64), (.i .i64), (.i .i64), (.i .i64)]), (.one .b)] fun z => ((gC (tpL z) 0), (gC (tpL z) 1), aB (gC (tpL z) 2))
def q0d  (Bl : List UInt8) (Bm B9 Aa : Int) (Ab : List AV) (Bj Bv : Int) (Ca : List UInt8) (Cb Cc Cd Ce Cf Cg : Int) (K : Ex → Env → Mem → Option (AV × AV × Bool)) := (fun z_v9 => K .norm (qi [(3, (.ptr 0 0)), (4, .cptr [(.str Bl), (.int .i64 Bm)]), (5, .cptr [(.int .i64 B9)]), (6, (.ptr 1 0)), (7, (.ptr 2 0)), (9, (.int .i64 z_v9))]) (qj [(some (.box true [(.int .i64 Aa), (.sl 9 Ab)])), (some (.box true [(.int .i64 Bj), .nils])), (some (.box true [(.int .i64 Bv), (.str Ca), (.int .i64 Cb), (.int .i64 Cc), .nils, (.int .i64 Cd), (.int .i64 Ce), (.int .i64 Cf), (.int .i64 Cg)]))]))
def qib  (Bl : List UInt8) (Bm B9 v9 Aa : Int) (Ab : List AV) (Bj Bv : Int) (Ca : List UInt8) (Cb Cc Cd Ce Cf Cg : Int) (kn : Int → Option (AV × AV × Bool)) : Option (AV × AV × Bool) :=
  (bif (decide (v9 < (0 : Int))) then (oB (qbh Ab (.func qlm [(.cptr [(.int .i64 B9)]), (.cptr [(.str Bl), (.int .i64 Bm)])])) fun r1 => (kn r1)) else (kn v9))
def qkk := hull (qib)
theorem q0e : qkk = qib := qb _
def q2k : SubB Tryd.prog (TIof Tryd.prog) 57 0 (kret [(.cell 6 true 2), (.cell 7 true 9), .t 8] qm5) := jnB tabOk follows Tryd.f12 11 (.s .z (.s (.r [(3, .c qb2.b)] [.sel [3, 4, 5, 6, 7, 9] [0, 1, 2]]) (.v [.sel [3, 4, 5, 6, 7, 9] [0, 1, 2]]))) S54_ (qib) (fun f v K => f (v.s 18 0) (v.i 18 1) (v.i 22 0) (v.i 36 0) (v.i 3 0) (v.l 3 1) (v.i 7 0) (v.i 11 0) (v.s 11 1) (v.i 11 2) (v.i 11 3) (v.i 11 5) (v.i 11 6) (v.i 11 7) (v.i 11 8) (q0d (v.s 18 0) (v.i 18 1) (v.i 22 0) (v.i 3 0) (v.l 3 1) (v.i 7 0) (v.i 11 0) (v.s 11 1) (v.i 11 2) (v.i 11 3) (v.i 11 5) (v.i 11 6) (v.i 11 7) (v.i 11 8) K)) (by kernel_rfl) (fun _ _ => (by kernel_rfl))
def qy3  (B9 Aa : Int) (Ab : List AV) (Bj Bv : Int) (Ca : List UInt8) (Cb Cc Cd Ce Cf Cg : Int) (K : Ex → Env → Mem → Option (AV × AV × Bool)) := (fun z_v9 => K .norm (qi [(3, (.ptr 0 0)), (5, .cptr [(.int .i64 B9)]), (6, (.ptr 1 0)), (7, (.ptr 2 0)), (9, (.int .i64 z_v9))]) (qj [(some (.box true [(.int .i64 Aa), (.sl 9 Ab)])), (some (.box true [(.int .i64 Bj), .nils])), (some (.box true [(.int .i64 Bv), (.str Ca), (.int .i64 Cb), (.int .i64 Cc), .nils, (.int .i64 Cd), (.int .i64 Ce), (.int .i64 Cf), (.int .i64 Cg)]))]))
def qhk  (Bl : List UInt8) (Bm B9 v9 Aa : Int) (Ab : List AV) (Bj Bv : Int) (Ca : List UInt8) (Cb Cc Cd Ce Cf Cg : Int) (kn : Int → Option (AV × AV × Bool)) : Option (AV × AV × Bool) :=
  (bif (decide (v9 < (0 : Int))) then (oB (qbh Ab (.func qln [(.cptr [(.int .i64 B9)]), (.cptr [(.str Bl), (.int .i64 Bm)])])) fun r1 => (kn r1)) else (kn v9))
def qi8 := hull (qhk)
theorem qy4 : qi8 = qhk := qb _
def q0f : SubB Tryd.prog (TIof Tryd.prog) 57 0 (kret [(.cell 6 true 2), (.cell 7 true 9), .t 8] qm5) := jnB tabOk follows Tryd.f12 23 (.s .z (.s (.r [(3, .c qb2.b)] [.sel [3, 5, 6, 7, 9] [0, 1, 2]]) (.v [.sel [3, 5, 6, 7, 9] [0, 1, 2]]))) S54_ (qhk) (fun f v K => f (v.s 18 0) (v.i 18 1) (v.i 22 0) (v.i 36 0) (v.i 3 0) (v.l 3 1) (v.i 7 0) (v.i 11 0) (v.s 11 1) (v.i 11 2) (v.i 11 3) (v.i 11 5) (v.i 11 6) (v.i 11 7) (v.i 11 8) (qy3 (v.i 22 0) (v.i 3 0) (v.l 3 1) (v.i 7 0) (v.i 11 0) (v.s 11 1) (v.i 11 2) (v.i 11 3) (v.i 11 5) (v.i 11 6) (v.i 11 7) (v.i 11 8) K)) (by kernel_rfl) (fun _ _ => (by kernel_rfl))
def qmb (Ae : Int) (Af : List AV) (Ar : List UInt8) (As v2 : Int) : Option (AV × AV × Bool) :=
  (oB (qbh Af (.func qll [(.cptr [(.int .i64 v2)]), (.cptr [(.str Ar), (.int .i64 As)])])) fun r1 => (qkk Ar As v2 r1 Ae Af (0 : Int) (0 : Int) ([] : List UInt8) (0 : Int) (0 : Int) (0 : Int) (0 : Int) (0 : Int) (0 : Int) (fun v9q2 => (qi8 Ar As v2 v9q2 Ae Af (0 : Int) (0 : Int) ([] : List UInt8) (0 : Int) (0 : Int) (0 : Int) (0 : Int) (0 : Int) (0 : Int) (fun v9q3 => (oB (qbc Ae Af Af) fun r4 => (bif (decide (v9q3 < (0 : Int))) then (bif hd (gL r4.cells 1) ((gL r4.cells 1).length) then (some ((.agg [(.int .i64 (gI r4.cells 0)), (.sl 9 (gL r4.cells 1))]), (.agg [(.int .i64 (0 : Int)), (.str ([] : List UInt8)), (.int .i64 (0 : Int)), (.int .i64 (0 : Int)), (.sl 13 ([] : List AV)), (.int .i64 (0 : Int)), (.int .i64 (0 : Int)), (.int .i64 (0 : Int)), (.int .i64 (0 : Int))]), false)) else none) else (bif hd (gL r4.cells 1) ((gL r4.cells 1).length) then (bif decide (0 ≤ v9q3 ∧ v9q3 < ((gL r4.cells 1).length)) then (bif hd (gL r4.cells 1) ((gL r4.cells 1).length) then (bif hd (gL r4.cells 1) ((gL r4.cells 1).length) then (oB ((gL r4.cells 1)[v9q3.toNat]?) fun y5 => (oB (putE y5 8 1 [(.int .i64 v2)]) fun z6 => (bif hd ((gL r4.cells 1).set v9q3.toNat z6) ((gL r4.cells 1).length) then (bif decide (0 ≤ v9q3 ∧ v9q3 < ((gL r4.cells 1).length)) then (bif hd ((gL r4.cells 1).set v9q3.toNat z6) ((gL r4.cells 1).length) then (oB (((gL r4.cells 1).set v9q3.toNat z6)[v9q3.toNat]?) fun y7 => (oB (rdE y7 0 true 9) fun z8 => (bif fitV (.st qc) z8 then (oB (qe0 (gI z8.cells 0) (gS z8.cells 1) (gI z8.cells 2) (gI z8.cells 3) (gL z8.cells 4) (gI z8.cells 5) (gI z8.cells 6) (gI z8.cells 7) (gI z8.cells 8)) fun r9 => (bif hd ((gL r4.cells 1).set v9q3.toNat z6) ((gL r4.cells 1).length) then (some ((.agg [(.int .i64 (gI r4.cells 0)), (.sl 9 ((gL r4.cells 1).set v9q3.toNat z6))]), (.agg [(.int .i64 (gI r9.cells 0)), (.str (gS r9.cells 1)), (.int .i64 (gI r9.cells 2)), (.int .i64 (IntKind.i64.wrap ((gI r9.cells 7) - (if (0 : Int) > v2 then (0 : Int) else v2)))), (.sl 13 (gL r9.cells 4)), (.int .i64 (gI r9.cells 5)), (.int .i64 (gI r9.cells 6)), (.int .i64 (gI r9.cells 7)), (.int .i64 (gI r9.cells 8))]), true)) else none)) else none))) else none) else none) else none))) else none) else none) else none) else none))))))))
def qhw := hull qmb
theorem q5x : qhw = qmb := qb _
def qmc {R : Type} : EntF Tryd.prog R := entB (nt := 57) (dec := qm5) (enc := (fun r => .tup [qdq (.st [(.i .i64), (.sl 9)]) r.1, qdq (.st [(.i .i64), .s, (.i .i64), (.i .i64), (.sl 13), (.i .i64), (.i .i64), (.i .i64), (.i .i64)]) r.2.1, .bool r.2.2])) tabOk follows Tryd.func12 [(.cell 6 true 2), (.cell 7 true 9), .t 8] (hdeN fun _ => rfl) (.s .z (.s (.r [(2, .s (.cls 4)), (2, .s (.cls 5)), (3, .c qb2.b)] []) (.s (.sub [.sel [3, 4, 5, 6, 7, 9] [0, 3, 4]] q2k []) (.s (.sub [.sel [3, 4, 5, 6, 7, 9] [0, 1, 2]] q0f []) (.s (.r [(3, .c qca.b)] []) (.s (.s .z (.s (.s .z (.v [.snapb 1, .nilc 2 4 13])) .z)) (.s .z (.s (.r [(4, .p (.eta 46 (.st qc))), (5, .k qqv.b)] []) (.s .z (.s .z (.v [.snapb 1]))))))))))) S55_ qmb (fun f v => f (v.i 1 0) (v.l 1 1) (v.s 5 0) (v.i 5 1) (v.i 8 0)) (by kernel_rfl) (by kernel_rfl) (by kernel_rfl) fun _ => (by kernel_rfl)
def qp0 : Nat := 44
def qp1 : Nat := 45
def qkl : Nat := 46
def qhl : Nat := 47
def S56_ : Shp := ⟨[(2, .one (.l .b)), (3, .one (.l (.i .i64))), (4, .one (.l (.i .i64))), (5, .one (.l (.i .i64))), (6, .one (.l (.i .i64))), (7, .one (.ptr 0 0)), (8, .one (.ptr 1 0)), (14, .one (.ptr 2 0))], [.box true [(.l (.i .i64)), (.l (.sl 9))], .box true [(.l .s), (.l (.i .i64))], .box true [(.l (.i .i64)), (.l .nil)]]⟩
def S57_ : Shp := ⟨[(2, .one (.l .b)), (4, .one (.l (.i .i64))), (6, .one (.l (.i .i64))), (7, .one (.ptr 0 0)), (8, .cptr [.s, (.i .i64)]), (14, .one (.ptr 1 0)), (15, .one (.ptr 2 0)), (16, .one (.l .fn)), (17, .one (.ptr 3 0))], [.box true [(.l (.i .i64)), (.l (.sl 9))], .box true [(.l (.i .i64)), (.l .nil)], .box true [(.l (.i .i64)), (.l .s), (.l (.i .i64)), (.l (.i .i64)), (.l .nil), (.l (.i .i64)), (.l (.i .i64)), (.l (.i .i64)), (.l (.i .i64))], .box true [(.l .fn)]]⟩
def S58_ : Shp := ⟨[(0, .st [(.l (.i .i64)), (.l (.sl 9))]), (1, .st [(.l .s), (.l (.i .i64))]), (2, .one (.l .b)), (3, .one (.l (.i .i64))), (4, .one (.l (.i .i64))), (5, .one (.l (.i .i64))), (6, .one (.l (.i .i64)))], []⟩
def qy5  (v2 : Bool) (v3 v4 v5 v6 Aa : Int) (Ab : List AV) (Bj : List UInt8) (Ch Bv : Int) (K : Ex → Env → Mem → Option AV) := (fun z_v47 => K .norm (qi [(2, (.bool v2)), (3, (.int .i64 v3)), (4, (.int .i64 v4)), (5, (.int .i64 v5)), (6, (.int .i64 v6)), (7, (.ptr 0 0)), (8, (.ptr 1 0)), (14, (.ptr 2 0)), (47, (.bool z_v47))]) (qj [(some (.box true [(.int .i64 Aa), (.sl 9 Ab)])), (some (.box true [(.str Bj), (.int .i64 Ch)])), (some (.box true [(.int .i64 Bv), .nils]))]))
def qhm  (v2 : Bool) (v3 v4 v5 v6 Aa : Int) (Ab : List AV) (Bj : List UInt8) (Ch Bv : Int) (kn : Bool → Option AV) : Option AV :=
  (oB (qbs Bj) fun r1 => (bif (((((!r1) || (decide (v3 < (1 : Int)))) || (decide (v3 > (2147483647 : Int)))) || (decide (v6 < (0 : Int)))) || (decide (v6 > (4294967295 : Int)))) then (kn true) else (bif (!v2) then (kn (decide (Ch < (1 : Int)))) else (kn false))))
def qm6 := hull (qhm)
theorem qy6 : qm6 = qhm := qb _
def q0g : SubB Tryd.prog (TIof Tryd.prog) 93 0 (kret [(.cell 14 true 2)] (decT [(.i .i64), (.sl 9)])) := jnB tabOk follows Tryd.f16 9 (.r [(2, .c qcf.b), (5, .g 2), (9, .g 2), (13, .g 2), (17, .g 2)] [.sel [2, 3, 4, 5, 6, 7, 8, 14, 47] [0, 1, 2]]) S56_ (qhm) (fun f v K => f (v.b 8 0) (v.i 12 0) (v.i 16 0) (v.i 20 0) (v.i 24 0) (v.i 3 0) (v.l 3 1) (v.s 7 0) (v.i 7 1) (v.i 11 0) (qy5 (v.b 8 0) (v.i 12 0) (v.i 16 0) (v.i 20 0) (v.i 24 0) (v.i 3 0) (v.l 3 1) (v.s 7 0) (v.i 7 1) (v.i 11 0) K)) (by kernel_rfl) (fun _ _ => (by kernel_rfl))
def qxv  (v4 v6 Aa : Int) (Ab : List AV) (Bj : Int) (Ca : List UInt8) (Cc Cd Ce Cf Cg : Int) (K : Ex → Env → Mem → Option AV) := (fun z_v16 z_b2_0 z_b2_2 z_b3_0 => K .norm (qi [(4, (.int .i64 v4)), (6, (.int .i64 v6)), (7, (.ptr 0 0)), (14, (.ptr 1 0)), (15, (.ptr 2 0)), (16, (.fv z_v16)), (17, (.ptr 3 0))]) (qj [(some (.box true [(.int .i64 Aa), (.sl 9 Ab)])), (some (.box true [(.int .i64 Bj), .nils])), (some (.box true [(.int .i64 z_b2_0), (.str Ca), (.int .i64 z_b2_2), (.int .i64 Cc), .nils, (.int .i64 Cd), (.int .i64 Ce), (.int .i64 Cf), (.int .i64 Cg)])), (some (.box true [(.fv z_b3_0)]))]))
def qgi  (v2 : Bool) (v4 v6 : Int) (Ci : List UInt8) (Cj : Int) (v16 : AV) (Aa : Int) (Ab : List AV) (Bj Bv : Int) (Ca : List UInt8) (Cb Cc Cd Ce Cf Cg : Int) (Bw : AV) (kn : AV → Int → Int → AV → Option AV) : Option AV :=
  (bif v2 then (kn (.func qkl [(.cptr [(.str Ci), (.int .i64 Cj)])]) (2 : Int) (0 : Int) (.func qkl [(.cptr [(.str Ci), (.int .i64 Cj)])])) else (kn v16 Bv Cb Bw))
def qra := hull (qgi)
theorem qxw : qra = qgi := qb _
def qy7 : SubB Tryd.prog (TIof Tryd.prog) 93 0 (kret [(.cell 14 true 2)] (decT [(.i .i64), (.sl 9)])) := jnB tabOk follows Tryd.f16 95 (.s .z (.s (.s .z (.s .z (.v [.sel [4, 6, 7, 14, 15, 16, 17] [0, 1, 2, 3]]))) (.v [.sel [4, 6, 7, 14, 15, 16, 17] [0, 1, 2, 3]]))) S57_ (qgi) (fun f v K => f (v.b 8 0) (v.i 16 0) (v.i 24 0) (v.s 34 0) (v.i 34 1) (v.f 64 0) (v.i 3 0) (v.l 3 1) (v.i 7 0) (v.i 11 0) (v.s 11 1) (v.i 11 2) (v.i 11 3) (v.i 11 5) (v.i 11 6) (v.i 11 7) (v.i 11 8) (v.f 15 0) (qxv (v.i 16 0) (v.i 24 0) (v.i 3 0) (v.l 3 1) (v.i 7 0) (v.s 11 1) (v.i 11 3) (v.i 11 5) (v.i 11 6) (v.i 11 7) (v.i 11 8) K)) (by kernel_rfl) (fun _ _ => (by kernel_rfl))
def qkm (Ae : Int) (Af : List AV) (Ar : List UInt8) (As : Int) (v2 : Bool) (v3 v4 v5 v6 : Int) : Option AV :=
  (qm6 v2 v3 v4 v5 v6 Ae Af Ar As (0 : Int) (fun v47q1 => (bif v47q1 then (oB (qbc Ae Af Af) fun r2 => (some (.agg [(.int .i64 (gI r2.cells 0)), (.sl 9 (gL r2.cells 1))]))) else (oB (qpx v3 v6) fun r3 => (qra v2 v4 v6 Ar As (.func qp0 [(.cptr [(.str Ar), (.int .i64 As)])]) Ae Af (0 : Int) (1 : Int) Ar As v3 v4 v5 r3 v6 (.func qp1 [(.cptr [(.str Ar), (.int .i64 As)])]) (fun v16q4 b2_0q5 b2_2q6 b3_0q7 => (oB (qf2 Ae Af v4 v6 v16q4) fun r8 => (bif r8 then (oB (qbc Ae Af Af) fun r9 => (some (.agg [(.int .i64 (gI r9.cells 0)), (.sl 9 (gL r9.cells 1))]))) else (oB (qx Af (.func qhl [(.cptr [(.fv b3_0q7)])])) fun r10 => (oB (qfa Ae r10 b2_0q5 Ar b2_2q6 v3 ([] : List AV) v4 v5 r3 v6 v6) fun r11 => (some (.agg [(.int .i64 (gI r11.cells 0)), (.sl 9 (gL r11.cells 1))]))))))))))))
def qkn := hull qkm
theorem q40 : qkn = qkm := qb _
def qvo {R : Type} : EntF Tryd.prog R := entB (nt := 93) (dec := (decT [(.i .i64), (.sl 9)])) (enc := (qdq (.st [(.i .i64), (.sl 9)]))) tabOk follows Tryd.func16 [(.cell 14 true 2)] hdeT (.s .z (.s (.s (.sub [.sel [2, 3, 4, 5, 6, 7, 8, 14] [0, 1, 2]] q0g []) (.s (.s (.r [(3, .k qca.b)] []) .z) .z)) (.s (.d [] [(10, .c qx4.b)] [] []) (.s (.r [(0, .s (.cls 8))] []) (.s .z (.s (.sub [.sel [2, 4, 6, 7, 8, 14, 15, 16, 17] [0, 2, 3, 4]] qy7 []) (.s (.s (.r [(4, .c qom.b)] []) (.s (.s (.r [(3, .k qca.b)] []) .z) .z)) (.s (.dv [.cls 17] [] [(5, .c qbo.b)] [] []) (.s (.r [(3, .k qt2.b)] []) .z))))))))) S58_ qkm (fun f v => f (v.i 1 0) (v.l 1 1) (v.s 5 0) (v.i 5 1) (v.b 8 0) (v.i 12 0) (v.i 16 0) (v.i 20 0) (v.i 24 0)) (by kernel_rfl) (by kernel_rfl) (by kernel_rfl) fun _ => (by kernel_rfl)
def S59_ : Shp := ⟨[(1, .one (.l .s)), (2, .one (.l (.i .i64))), (3, .one (.ptr 0 0)), (6, .one (.ptr 1 0)), (8, .one (.l (.i .i64))), (9, .one (.l (.i .i64))), (10, .one (.l (.i .i64))), (11, .one (.ptr 2 0)), (15, .one (.l (.sl 9))), (16, .one (.l (.i .i64))), (17, .one (.l (.i .i64)))], [.box true [(.l (.i .i64)), (.l (.sl 9))], .box true [(.l .s), (.l (.i .i64)), (.l (.i .i64)), (.l .nil)], .box true (lk qc)]⟩
def S60_ : Shp := ⟨[(1, .one (.l .s)), (2, .one (.l (.i .i64))), (3, .one (.ptr 0 0)), (6, .one (.ptr 1 0)), (8, .one (.l (.i .i64))), (9, .one (.l (.i .i64))), (15, .one (.l (.sl 9))), (16, .one (.l (.i .i64))), (17, .one (.l (.i .i64)))], [.box true [(.l (.i .i64)), (.l (.sl 9))], .box true [(.l .s), (.l (.i .i64)), (.l (.i .i64)), (.l .nil)]]⟩
def S61_ : Shp := ⟨[(0, .st [(.l (.i .i64)), (.l (.sl 9))]), (1, .one (.l .s)), (2, .one (.l (.i .i64)))], []⟩
def qil : AV → Option (AV × Bool) := decN [(.st [.s, (.i .i64), (.i .i64), (.sl 13)]), (.one .b)] fun z => ((gC (tpL z) 0), aB (gC (tpL z) 1))
def qsj  (v1 : List UInt8) (v2 v8 v9 v10 : Int) (v15 : List AV) (v16 v17 Aa : Int) (Ab : List AV) (Bj : List UInt8) (Ch Ck Bv : Int) (Ca : List UInt8) (Cb Cc : Int) (Cl : List AV) (Cd Ce Cf Cg : Int) (K : Ex → Env → Mem → Option (AV × Bool)) := (fun z_v44 => K .norm (qi [(1, (.str v1)), (2, (.int .i64 v2)), (3, (.ptr 0 0)), (6, (.ptr 1 0)), (8, (.int .i64 v8)), (9, (.int .i64 v9)), (10, (.int .i64 v10)), (11, (.ptr 2 0)), (15, (.sl 9 v15)), (16, (.int .i64 v16)), (17, (.int .i64 v17)), (44, (.bool z_v44))]) (qj [(some (.box true [(.int .i64 Aa), (.sl 9 Ab)])), (some (.box true [(.str Bj), (.int .i64 Ch), (.int .i64 Ck), .nils])), (some (.box true (qjk Bv Ca Cb Cc Cl Cd Ce Cf Cg)))]))
def qg5  (v1 : List UInt8) (v2 v8 v9 v10 : Int) (v15 : List AV) (v16 v17 Aa : Int) (Ab : List AV) (Bj : List UInt8) (Ch Ck Bv : Int) (Ca : List UInt8) (Cb Cc : Int) (Cl : List AV) (Cd Ce Cf Cg : Int) (kn : Bool → Option (AV × Bool)) : Option (AV × Bool) :=
  (bif ((Bv != (0 : Int)) || (Cb != (2 : Int))) then (kn true) else (oB (qbf Bv Ca Cb Cc Cl Cd Ce Cf Cg v2) fun r1 => (bif (!r1) then (kn true) else (oB (qip v1 Ca) fun r2 => (kn (!r2))))))
def qim := hull (qg5)
theorem qsk : qim = qg5 := qb _
def qul : SubB Tryd.prog (TIof Tryd.prog) 74 0 (kret [(.cell 6 true 4), .t 7] qil) := jnB tabOk follows Tryd.f18 9419 (.r [(4, .g 4), (12, .c qb0.b), (20, .c qty.b)] [.sel [1, 2, 3, 6, 8, 9, 10, 11, 15, 16, 17, 44] [0, 1, 2]]) S59_ (qg5) (fun f v K => f (v.s 4 0) (v.i 8 0) (v.i 32 0) (v.i 36 0) (v.i 40 0) (v.l 60 0) (v.i 64 0) (v.i 68 0) (v.i 3 0) (v.l 3 1) (v.s 7 0) (v.i 7 1) (v.i 7 2) (v.i 11 0) (v.s 11 1) (v.i 11 2) (v.i 11 3) (v.l 11 4) (v.i 11 5) (v.i 11 6) (v.i 11 7) (v.i 11 8) (qsj (v.s 4 0) (v.i 8 0) (v.i 32 0) (v.i 36 0) (v.i 40 0) (v.l 60 0) (v.i 64 0) (v.i 68 0) (v.i 3 0) (v.l 3 1) (v.s 7 0) (v.i 7 1) (v.i 7 2) (v.i 11 0) (v.s 11 1) (v.i 11 2) (v.i 11 3) (v.l 11 4) (v.i 11 5) (v.i 11 6) (v.i 11 7) (v.i 11 8) K)) (by kernel_rfl) (fun _ _ => (by kernel_rfl))
def qko  (v2 Aa : Int) (Ab : List AV) (Bj : List UInt8) (Ch Ck : Int) (K : Ex → Env → Mem → Option (AV × Bool)) := (fun z_v8 => K (.exit 0) (qi [(2, (.int .i64 v2)), (3, (.ptr 0 0)), (6, (.ptr 1 0)), (8, (.int .i64 z_v8))]) (qj [(some (.box true [(.int .i64 Aa), (.sl 9 Ab)])), (some (.box true [(.str Bj), (.int .i64 Ch), (.int .i64 Ck), .nils]))]))
def qds  (v1 : List UInt8) (v2 v8 v9 : Int) (v15 : List AV) (v16 v17 Aa : Int) (Ab : List AV) (Bj : List UInt8) (Ch Ck : Int) (next : Int → Int → Int → Option (AV × Bool)) (kx0 : Int → Option (AV × Bool)) : Option (AV × Bool) :=
  (bif (decide (v17 < v16)) then (oB (ixB v15 v17) fun y1 => (bif fitC qc y1.cells then (qim v1 v2 v8 v9 v17 v15 v16 v17 Aa Ab Bj Ch Ck (gI y1.cells 0) (gS y1.cells 1) (gI y1.cells 2) (gI y1.cells 3) (gL y1.cells 4) (gI y1.cells 5) (gI y1.cells 6) (gI y1.cells 7) (gI y1.cells 8) (fun v44q2 => (bif v44q2 then (next v8 v9 (IntKind.i64.wrap (v17 + (1 : Int)))) else (oB (qf1 (gS y1.cells 1)) fun r3 => (bif (decide ((r3.length : Int) > v9)) then (next v17 (r3.length : Int) (IntKind.i64.wrap (v17 + (1 : Int)))) else (next v8 v9 (IntKind.i64.wrap (v17 + (1 : Int))))))))) else none)) else (kx0 v8))
def qdt  (v1 : List UInt8) (v2 : Int) (v15 : List AV) (v16 Aa : Int) (Ab : List AV) (Bj : List UInt8) (Ch Ck : Int) (kx0 : Int → Option (AV × Bool)) : Nat → Int → Int → Int → Option (AV × Bool)
  | 0 => (fun _ _ _ => none)
  | n + 1 => (fun v8 v9 v17 => qds v1 v2 v8 v9 v15 v16 v17 Aa Ab Bj Ch Ck (qdt v1 v2 v15 v16 Aa Ab Bj Ch Ck kx0 n) kx0)
def qoo := hull (qdt)
theorem qum : qoo = qdt := qb _
def qvp : SubB Tryd.prog (TIof Tryd.prog) 74 0 (kret [(.cell 6 true 4), .t 7] qil) := lpB tabOk follows Tryd.f18 75 (.s .z (.s (.s .z (.v [.sel [2, 3, 6, 8] [0, 1]])) (.s (.b (.s (.r [(1, .p (.etac 20 qc))] []) (.s (.s (.sub [.sel [1, 2, 3, 6, 8, 9, 10, 11, 15, 16, 17] [0, 1, 2]] qul []) .z) (.s (.r [(3, .k qlf.b)] []) .z)))) (.v [.sel [1, 2, 3, 6, 8, 9, 15, 16, 17] [0, 1]])))) S60_ (qdt) (fun f v K n => f (v.s 4 0) (v.i 8 0) (v.l 60 0) (v.i 64 0) (v.i 3 0) (v.l 3 1) (v.s 7 0) (v.i 7 1) (v.i 7 2) (qko (v.i 8 0) (v.i 3 0) (v.l 3 1) (v.s 7 0) (v.i 7 1) (v.i 7 2) K) n) (fun v f K => qds (v.s 4 0) (v.i 8 0) (v.i 32 0) (v.i 36 0) (v.l 60 0) (v.i 64 0) (v.i 68 0) (v.i 3 0) (v.l 3 1) (v.s 7 0) (v.i 7 1) (v.i 7 2) f (qko (v.i 8 0) (v.i 3 0) (v.l 3 1) (v.s 7 0) (v.i 7 1) (v.i 7 2) K)) (fun f v => f (v.i 32 0) (v.i 36 0) (v.i 68 0)) (fun k v => (fun z0 z1 z2 => k (((v.ui 32 0 z0).ui 36 0 z1).ui 68 0 z2))) (by kernel_rfl) (fun _ _ => (by kernel_rfl)) (fun _ _ _ => (by kernel_rfl)) (fun _ _ _ => (by kernel_rfl)) (fun _ _ => (by kernel_rfl)) (fun _ _ _ _ _ => (by kernel_rfl))
def qhn (Ae : Int) (Af : List AV) (v1 : List UInt8) (v2 : Int) : Option (AV × Bool) :=
  (qoo v1 v2 Af (Af.length : Int) Ae Af ([] : List UInt8) (0 : Int) (0 : Int) (fun v8q1 => (bif (decide (v8q1 < (0 : Int))) then (some ((.agg [(.str ([] : List UInt8)), (.int .i64 (0 : Int)), (.int .i64 (0 : Int)), (.sl 13 ([] : List AV))]), false)) else (oB (ixB Af v8q1) fun y2 => (bif fitC qc y2.cells then (oB (qe0 (gI y2.cells 0) (gS y2.cells 1) (gI y2.cells 2) (gI y2.cells 3) (gL y2.cells 4) (gI y2.cells 5) (gI y2.cells 6) (gI y2.cells 7) (gI y2.cells 8)) fun r3 => (some ((.agg [(.str (gS r3.cells 1)), (.int .i64 (gI r3.cells 2)), (.int .i64 (IntKind.i64.wrap ((gI r3.cells 7) - (if (0 : Int) > v2 then (0 : Int) else v2)))), (.sl 13 (gL r3.cells 4))]), true))) else none)))) FU (-1 : Int) (-1 : Int) (0 : Int))
def qi9 := hull qhn
theorem qy8 : qi9 = qhn := qb _
def q0h {R : Type} : EntF Tryd.prog R := entB (nt := 74) (dec := qil) (enc := (fun r => .tup [qdq (.st [.s, (.i .i64), (.i .i64), (.sl 13)]) r.1, .bool r.2])) tabOk follows Tryd.func18 [(.cell 6 true 4), .t 7] (hdeN fun _ => rfl) (.s .z (.s .z (.s (.s .z (.b (.sub [.sel [1, 2, 3, 6, 8, 9, 15, 16, 17] [0, 1]] qvp []))) (.s (.s .z (.s (.s .z (.v [.nilc 1 3 13])) .z)) (.s (.r [(3, .p (.etac 62 qc)), (5, .k qqv.b)] []) .z))))) S61_ qhn (fun f v => f (v.i 1 0) (v.l 1 1) (v.s 4 0) (v.i 8 0)) (by kernel_rfl) (by kernel_rfl) (by kernel_rfl) fun _ => (by kernel_rfl)
def qjl : Nat := 49
def S62_ : Shp := ⟨[(0, .st [(.l (.i .i64)), (.l (.sl 9))]), (1, .one (.l .s))], []⟩
def qja (Ae : Int) (Af : List AV) (v1 : List UInt8) : Option AV :=
  (oB (qx Af (.func qjl [(.cptr [(.str v1)])])) fun r1 => (oB (qbc Ae Af r1) fun r2 => (some (.agg [(.int .i64 (gI r2.cells 0)), (.sl 9 (gL r2.cells 1))]))))
def qfb := hull qja
theorem q2l : qfb = qja := qb _
def qt3 {R : Type} : EntF Tryd.prog R := entB (nt := 11) (dec := (decT [(.i .i64), (.sl 9)])) (enc := (qdq (.st [(.i .i64), (.sl 9)]))) tabOk follows Tryd.func19 [(.cell 4 true 2)] hdeT (.s .z (.s (.dv [.cls 3] [] [(4, .c qbo.b)] [(0, .k qca.b)] []) .z)) S62_ qja (fun f v => f (v.i 1 0) (v.l 1 1) (v.s 4 0)) (by kernel_rfl) (by kernel_rfl) (by kernel_rfl) fun _ => (by kernel_rfl)
def qjm : Nat := 48
def S63_ : Shp := ⟨[(0, .st [(.l (.i .i64)), (.l (.sl 9))]), (1, .one (.l (.i .i64)))], []⟩
def qjb (Ae : Int) (Af : List AV) (v1 : Int) : Option AV :=
  (oB (qx Af (.func qjm [(.cptr [(.int .i64 v1)])])) fun r1 => (oB (qbc Ae Af r1) fun r2 => (some (.agg [(.int .i64 (gI r2.cells 0)), (.sl 9 (gL r2.cells 1))]))))
def qfc := hull qjb
theorem q2m : qfc = qjb := qb _
def qt4 {R : Type} : EntF Tryd.prog R := entB (nt := 11) (dec := (decT [(.i .i64), (.sl 9)])) (enc := (qdq (.st [(.i .i64), (.sl 9)]))) tabOk follows Tryd.func17 [(.cell 4 true 2)] hdeT (.s .z (.s (.dv [.cls 3] [] [(4, .c qbo.b)] [(0, .k qca.b)] []) .z)) S63_ qjb (fun f v => f (v.i 1 0) (v.l 1 1) (v.i 4 0)) (by kernel_rfl) (by kernel_rfl) (by kernel_rfl) fun _ => (by kernel_rfl)
def S64_ : Shp := ⟨[(1, .one (.ptr 0 0)), (2, .one (.l (.i .i64))), (4, .one (.l (.i .i64))), (6, .one (.ptr 1 0)), (7, .one (.l .b)), (10, .one (.l .b))], [.box true [(.l (.i .i64)), (.l (.sl 9))], .box true (lk qc)]⟩
def qrb  (Aa : Int) (Ab : List AV) (K : Ex → Env → Mem → Option Bool) := (fun z_v73 => K .norm (qi [(1, (.ptr 0 0)), (73, (.bool z_v73))]) (qj [(some (.box true [(.int .i64 Aa), (.sl 9 Ab)]))]))
def qd2  (v2 v4 : Int) (v7 v10 : Bool) (Aa : Int) (Ab : List AV) (Bj : Int) (Ch : List UInt8) (Ck Cm : Int) (Cn : List AV) (Co Cp Cq Cr : Int) (kn : Bool → Option Bool) : Option Bool :=
  (bif (v2 != (0 : Int)) then (kn true) else (bif (v4 != (1 : Int)) then (kn true) else (bif (!v7) then (kn true) else (bif (Cm != (20 : Int)) then (kn true) else (bif (Co != (5 : Int)) then (kn true) else (bif v10 then (kn true) else (oB (qj6 ([97, 46, 101, 120, 97, 109, 112, 108, 101, 46] : List UInt8) (9 : Int)) fun r1 => (oB (qe2 Aa Ab (gS r1.cells 0) (gI r1.cells 1) (gI r1.cells 2) (gL r1.cells 3) (3 : Int) (0 : Int) (100 : Int)) fun r2 => (kn (((gL r2.cells 1).length : Int) != (1 : Int)))))))))))
def qmp := hull (qd2)
theorem qrc : qmp = qd2 := qb _
def qsl : SubB Tryd.prog (TIof Tryd.prog) 133 0 (kret [.t 0] decB) := jnB tabOk follows Tryd.f8 319 (.d [] [(26, .c qq2.b)] [(0, .k qma.b)] [.sel [1, 73] [0]]) S64_ (qd2) (fun f v K => f (v.i 8 0) (v.i 16 0) (v.b 28 0) (v.b 40 0) (v.i 3 0) (v.l 3 1) (v.i 7 0) (v.s 7 1) (v.i 7 2) (v.i 7 3) (v.l 7 4) (v.i 7 5) (v.i 7 6) (v.i 7 7) (v.i 7 8) (qrb (v.i 3 0) (v.l 3 1) K)) (by kernel_rfl) (fun _ _ => (by kernel_rfl))
def qgj : Option Bool :=
  (oB (qhr (2 : Int)) fun r1 => (oB (qhr (0 : Int)) fun r2 => (oB (qj6 ([97, 46, 101, 120, 97, 109, 112, 108, 101, 46] : List UInt8) (60 : Int)) fun r3 => (oB (qe2 (gI r1.1.cells 0) ([] : List AV) (gS r3.cells 0) (gI r3.cells 1) (gI r3.cells 2) (gL r3.cells 3) (5 : Int) (0 : Int) (100 : Int)) fun r4 => (oB (qhw (gI r4.cells 0) (gL r4.cells 1) ([97, 46, 101, 120, 97, 109, 112, 108, 101, 46] : List UInt8) (1 : Int) (140 : Int)) fun r5 => (oB (qhw (gI r4.cells 0) (gL r4.cells 1) ([97, 46, 101, 120, 97, 109, 112, 108, 101, 46] : List UInt8) (1 : Int) (160 : Int)) fun r6 => (qmp r1.2 r2.2 r5.2.2 r6.2.2 (gI r4.cells 0) (gL r4.cells 1) (gI r5.2.1.cells 0) (gS r5.2.1.cells 1) (gI r5.2.1.cells 2) (gI r5.2.1.cells 3) (gL r5.2.1.cells 4) (gI r5.2.1.cells 5) (gI r5.2.1.cells 6) (gI r5.2.1.cells 7) (gI r5.2.1.cells 8) (fun v73q7 => (bif v73q7 then (some false) else (oB (qkn (gI r4.cells 0) (gL r4.cells 1) ([98, 46] : List UInt8) (0 : Int) true (30 : Int) (5 : Int) (0 : Int) (100 : Int)) fun r8 => (oB (qhw (gI r8.cells 0) (gL r8.cells 1) ([98, 46] : List UInt8) (2 : Int) (100 : Int)) fun r9 => (bif hd ([(.agg [(.bool false), (.int .u64 (0 : Int)), (.int .u64 (0 : Int)), (.str ([97, 46] : List UInt8)), (.str ([] : List UInt8)), (.str ([] : List UInt8)), (.int .i64 (0 : Int)), (.int .i64 (0 : Int)), (.int .i64 (0 : Int)), (.int .i64 (0 : Int)), (.int .i64 (0 : Int)), (.int .i64 (0 : Int)), (.int .u64 (0 : Int))])] : List AV) (([(.agg [(.bool false), (.int .u64 (0 : Int)), (.int .u64 (0 : Int)), (.str ([97, 46] : List UInt8)), (.str ([] : List UInt8)), (.str ([] : List UInt8)), (.int .i64 (0 : Int)), (.int .i64 (0 : Int)), (.int .i64 (0 : Int)), (.int .i64 (0 : Int)), (.int .i64 (0 : Int)), (.int .i64 (0 : Int)), (.int .u64 (0 : Int))])] : List AV).length) then (oB (qe2 (gI r8.cells 0) (gL r8.cells 1) ([101, 120, 97, 109, 112, 108, 101, 46] : List UInt8) (2 : Int) (60 : Int) ([(.agg [(.bool false), (.int .u64 (0 : Int)), (.int .u64 (0 : Int)), (.str ([97, 46] : List UInt8)), (.str ([] : List UInt8)), (.str ([] : List UInt8)), (.int .i64 (0 : Int)), (.int .i64 (0 : Int)), (.int .i64 (0 : Int)), (.int .i64 (0 : Int)), (.int .i64 (0 : Int)), (.int .i64 (0 : Int)), (.int .u64 (0 : Int))])] : List AV) (5 : Int) (0 : Int) (100 : Int)) fun r10 => (oB (qi9 (gI r10.cells 0) (gL r10.cells 1) ([97, 46, 101, 120, 97, 109, 112, 108, 101, 46] : List UInt8) (110 : Int)) fun r11 => (bif (((((r9.2.2 && ((gI r9.2.1.cells 0) == (2 : Int))) && (((gL r8.cells 1).length : Int) == (2 : Int))) && r11.2) && ((gS r11.1.cells 0) == ([101, 120, 97, 109, 112, 108, 101, 46] : List UInt8))) && ((gI r11.1.cells 2) == (50 : Int))) then (oB (qfb (gI r8.cells 0) (gL r8.cells 1) ([46] : List UInt8)) fun r12 => (bif (((gL r12.cells 1).length : Int) == (0 : Int)) then (oB (qfc (gI r8.cells 0) (gL r8.cells 1) (130 : Int)) fun r13 => (some (((gL r13.cells 1).length : Int) == (1 : Int)))) else (some false))) else (some false)))) else none))))))))))))
def qf3 := hull qgj
theorem qxx : qf3 = qgj := qb _
def qop {R : Type} : EntF Tryd.prog R := entB (nt := 133) (dec := decB) (enc := AV.bool) tabOk follows Tryd.func8 [.t 0] hdeB (.s .z (.s (.r [(0, .c ql4.b)] []) (.s (.r [(0, .c ql4.b)] []) (.s (.d [] [(1, .c qq2.b)] [(0, .k qma.b)] []) (.s (.r [(2, .k qmc.b)] []) (.s (.r [(2, .k qmc.b)] []) (.s (.s (.sub [.sel [1, 2, 4, 6, 7, 10] [0, 3]] qsl []) .z) (.s (.r [(2, .k qvo.b)] []) (.s (.r [(2, .k qmc.b)] []) (.s .z (.s (.r [(2, .k qma.b), (3, .k q0h.b)] []) (.s (.r [(2, .g 3), (7, .g 4), (13, .g 1), (16, .g 3), (21, .g 3), (27, .k qt3.b), (34, .k qt4.b)] []) .z)))))))))))) (⟨[], []⟩ : Shp) qgj (fun f v => f) (by kernel_rfl) (by kernel_rfl) (by kernel_rfl) fun _ => (by kernel_rfl)
def qlo : List LT := [(.i .i64), .s, (.i .i64), (.i .i64), .op, .s, (.i .i64), .b, (.i .i64), (.i .i64), (.i .i64)]
def S65_ : Shp := ⟨[(1, .one (.ptr 0 0)), (2, .one (.ptr 1 0)), (3, .one (.own 2)), (4, .one (.l (.i .i64)))], [.box true (lk qhs), .box true [(.l .s), (.l (.i .i64)), (.l (.i .i64)), (.l .nil)], .arr true 13]⟩
def qiq  (Aa : List UInt8) (Ab Ac : Int) (Ad : List AV) (Bj : List UInt8) (Ch Ck : Int) (K : Ex → Env → Mem → Option AV) := (fun z_a2 => K (.exit 0) (qi [(1, (.ptr 0 0)), (2, (.ptr 1 0)), (3, (.own 2 z_a2.length))]) (qj [(some (.box true (qvn Aa Ab Ac Ad))), (some (.box true [(.str Bj), (.int .i64 Ch), (.int .i64 Ck), .nils])), (some (.arr true 13 z_a2))]))
def qc4  (v4 : Int) (Aa : List UInt8) (Ab Ac : Int) (Ad : List AV) (Bj : List UInt8) (Ch Ck : Int) (a2 : List AV) (next : Int → (List AV) → Option AV) (kx0 : (List AV) → Option AV) : Option AV :=
  (bif ((decide (v4 < (Ad.length : Int))) && (decide (v4 < (10 : Int)))) then (oB (ixB Ad v4) fun y1 => (bif fitC qdn y1.cells then (oB (cutI (gS y1.cells 3) none (some (if (300 : Int) < ((gS y1.cells 3).length : Int) then (300 : Int) else ((gS y1.cells 3).length : Int)))) fun s2 => (oB (cutI (gS y1.cells 4) none (some (if (300 : Int) < ((gS y1.cells 4).length : Int) then (300 : Int) else ((gS y1.cells 4).length : Int)))) fun s3 => (oB (cutI (gS y1.cells 5) none (some (if (300 : Int) < ((gS y1.cells 5).length : Int) then (300 : Int) else ((gS y1.cells 5).length : Int)))) fun s4 => (bif hd a2 a2.length then (bif hd ([(.agg [(.bool (gB y1.cells 0)), (.int .u64 (gI y1.cells 1)), (.int .u64 (gI y1.cells 2)), (.str s2), (.str s3), (.str s4), (.int .i64 (gI y1.cells 6)), (.int .i64 (gI y1.cells 7)), (.int .i64 (gI y1.cells 8)), (.int .i64 (gI y1.cells 9)), (.int .i64 (gI y1.cells 10)), (.int .i64 (gI y1.cells 11)), (.int .u64 (gI y1.cells 12))])] : List AV) (([(.agg [(.bool (gB y1.cells 0)), (.int .u64 (gI y1.cells 1)), (.int .u64 (gI y1.cells 2)), (.str s2), (.str s3), (.str s4), (.int .i64 (gI y1.cells 6)), (.int .i64 (gI y1.cells 7)), (.int .i64 (gI y1.cells 8)), (.int .i64 (gI y1.cells 9)), (.int .i64 (gI y1.cells 10)), (.int .i64 (gI y1.cells 11)), (.int .u64 (gI y1.cells 12))])] : List AV).length) then (bif decide ((a2.length + ([(.agg [(.bool (gB y1.cells 0)), (.int .u64 (gI y1.cells 1)), (.int .u64 (gI y1.cells 2)), (.str s2), (.str s3), (.str s4), (.int .i64 (gI y1.cells 6)), (.int .i64 (gI y1.cells 7)), (.int .i64 (gI y1.cells 8)), (.int .i64 (gI y1.cells 9)), (.int .i64 (gI y1.cells 10)), (.int .i64 (gI y1.cells 11)), (.int .u64 (gI y1.cells 12))])] : List AV).length) * 128 ≤ 140737488355328) then (next (IntKind.i64.wrap (v4 + (1 : Int))) (a2 ++ ([(.agg [(.bool (gB y1.cells 0)), (.int .u64 (gI y1.cells 1)), (.int .u64 (gI y1.cells 2)), (.str s2), (.str s3), (.str s4), (.int .i64 (gI y1.cells 6)), (.int .i64 (gI y1.cells 7)), (.int .i64 (gI y1.cells 8)), (.int .i64 (gI y1.cells 9)), (.int .i64 (gI y1.cells 10)), (.int .i64 (gI y1.cells 11)), (.int .u64 (gI y1.cells 12))])] : List AV))) else none) else none) else none)))) else none)) else (kx0 a2))
def qch  (Aa : List UInt8) (Ab Ac : Int) (Ad : List AV) (Bj : List UInt8) (Ch Ck : Int) (kx0 : (List AV) → Option AV) : Nat → Int → (List AV) → Option AV
  | 0 => (fun _ _ => none)
  | n + 1 => (fun v4 a2 => qc4 v4 Aa Ab Ac Ad Bj Ch Ck a2 (qch Aa Ab Ac Ad Bj Ch Ck kx0 n) kx0)
def qmq := hull (qch)
theorem qrd : qmq = qch := qb _
def qsm : SubB Tryd.prog (TIof Tryd.prog) 61 0 (kret [(.cell 2 true 4)] (decT [.s, (.i .i64), (.i .i64), (.fr true 13)])) := lpB tabOk follows Tryd.f13 151 (.s (.s (.r [(6, .g 2)] []) (.s .z (.v [.sel [1, 2, 3] [0, 1, 2]]))) (.s (.b (.s (.r [(3, .p (.etac 28 qdn))] []) .z)) (.v [.sel [1, 2, 3, 4] [0, 1, 2]]))) S65_ (qch) (fun f v K n => f (v.s 3 0) (v.i 3 1) (v.i 3 2) (v.l 3 3) (v.s 7 0) (v.i 7 1) (v.i 7 2) (qiq (v.s 3 0) (v.i 3 1) (v.i 3 2) (v.l 3 3) (v.s 7 0) (v.i 7 1) (v.i 7 2) K) n) (fun v f K => qc4 (v.i 16 0) (v.s 3 0) (v.i 3 1) (v.i 3 2) (v.l 3 3) (v.s 7 0) (v.i 7 1) (v.i 7 2) (v.r 2) f (qiq (v.s 3 0) (v.i 3 1) (v.i 3 2) (v.l 3 3) (v.s 7 0) (v.i 7 1) (v.i 7 2) K)) (fun f v => f (v.i 16 0) (v.r 2)) (fun k v => (fun z0 z1 => k ((v.ui 16 0 z0).ur 2 z1))) (by kernel_rfl) (fun _ _ => (by kernel_rfl)) (fun _ _ _ => (by kernel_rfl)) (fun _ _ _ => (by kernel_rfl)) (fun _ _ => (by kernel_rfl)) (fun _ _ _ _ _ => (by kernel_rfl))
def qgk (Ae : List UInt8) (Af Ag : Int) (Ah : List AV) : Option AV :=
  (oB (cutI Ae none (some (if (300 : Int) < (Ae.length : Int) then (300 : Int) else (Ae.length : Int)))) fun s1 => (bif (hd ([] : List AV) (([] : List AV).length) && true) then (qmq s1 Af Ag Ah ([] : List UInt8) (0 : Int) (0 : Int) (fun a2q2 => (bif hd a2q2 a2q2.length then (some (.agg [(.str s1), (.int .i64 Af), (.int .i64 Ag), (.fr true 13 a2q2)])) else none)) FU (0 : Int) ([] : List AV)) else none))
def qlp := hull qgk
theorem qxy : qlp = qgk := qb _
def qy9 {R : Type} : EntF Tryd.prog R := entB (nt := 61) (dec := (decT [.s, (.i .i64), (.i .i64), (.fr true 13)])) (enc := (qdq (.st [.s, (.i .i64), (.i .i64), (.fr true 13)]))) tabOk follows Tryd.func13 [(.cell 2 true 4)] hdeT (.s .z (.s .z (.s .z (.s (.s .z (.b (.sub [.own 3 13, .sel [1, 2, 3, 4] [0, 1, 2]] qsm []))) .z)))) S3_ qgk (fun f v => f (v.s 1 0) (v.i 1 1) (v.i 1 2) (v.l 1 3)) (by kernel_rfl) (by kernel_rfl) (by kernel_rfl) fun _ => (by kernel_rfl)
def qd8 : List LT := [(.i .i64), .s, (.i .i64), (.i .i64), (.sl 13), .s, (.i .i64), .b, (.i .i64), (.i .i64), (.i .i64)]
def S66_ : Shp := ⟨[(0, .st [(.l (.i .i64)), (.l (.sl 9))]), (1, .st (lk qd8))], []⟩
def qic (Ae : Int) (Af : List AV) (Ar : Int) (As : List UInt8) (At Au : Int) (Av : List AV) (Aw : List UInt8) (Ax : Int) (Ay : Bool) (Az A0 A1 : Int) : Option AV :=
  (oB (qlp As At Au Av) fun r1 => (oB (cutI Aw none (some (if (300 : Int) < (Aw.length : Int) then (300 : Int) else (Aw.length : Int)))) fun s2 => (bif (Ar == (0 : Int)) then (oB (qe2 Ae Af (gS r1.cells 0) (gI r1.cells 1) (gI r1.cells 2) (gL r1.cells 3) Az A0 A1) fun r3 => (some (.agg [(.int .i64 (gI r3.cells 0)), (.sl 9 (gL r3.cells 1))]))) else (bif (Ar == (1 : Int)) then (oB (qkn Ae Af s2 Ax Ay (gI r1.cells 2) Az A0 A1) fun r4 => (some (.agg [(.int .i64 (gI r4.cells 0)), (.sl 9 (gL r4.cells 1))]))) else (bif (Ar == (2 : Int)) then (oB (qhw Ae Af s2 Ax A1) fun r5 => (some (.agg [(.int .i64 (gI r5.1.cells 0)), (.sl 9 (gL r5.1.cells 1))]))) else (bif (Ar == (4 : Int)) then (oB (qfb Ae Af s2) fun r6 => (some (.agg [(.int .i64 (gI r6.cells 0)), (.sl 9 (gL r6.cells 1))]))) else (bif (Ar == (5 : Int)) then (oB (qfc Ae Af A1) fun r7 => (some (.agg [(.int .i64 (gI r7.cells 0)), (.sl 9 (gL r7.cells 1))]))) else (some (.agg [(.int .i64 Ae), (.sl 9 Af)])))))))))
def qkp := hull qic
theorem q0i : qkp = qic := qb _
def q2n {R : Type} : EntF Tryd.prog R := entB (nt := 80) (dec := (decT [(.i .i64), (.sl 9)])) (enc := (qdq (.st [(.i .i64), (.sl 9)]))) tabOk follows Tryd.func22 [(.cell 4 true 2)] hdeT (.s .z (.s (.r [(2, .k qy9.b)] []) (.s .z (.s .z (.s (.s .z (.b (.s .z (.s (.s (.r [(8, .k qma.b)] []) .z) (.s .z (.s (.s (.r [(12, .k qvo.b)] []) .z) (.s .z (.s (.s (.r [(4, .k qmc.b)] []) .z) (.s .z (.s (.s (.r [(2, .k qt3.b)] []) .z) (.s .z (.s (.s (.r [(3, .k qt4.b)] []) .z) .z)))))))))))) .z))))) S66_ qic (fun f v => f (v.i 1 0) (v.l 1 1) (v.i 5 0) (v.s 5 1) (v.i 5 2) (v.i 5 3) (v.l 5 4) (v.s 5 5) (v.i 5 6) (v.b 5 7) (v.i 5 8) (v.i 5 9) (v.i 5 10)) (by kernel_rfl) (by kernel_rfl) (by kernel_rfl) fun _ => (by kernel_rfl)
def S67_ : Shp := ⟨[(1, .one (.l (.sl 11))), (4, .one (.ptr 0 0)), (5, .one (.ptr 1 0)), (7, .one (.l (.i .i64)))], [.box true [(.l (.i .i64)), (.l .nil)], .box true [(.l (.i .i64)), (.l (.sl 9))]]⟩
def S68_ : Shp := ⟨[(0, .one (.l (.i .i64))), (1, .one (.l (.sl 11)))], []⟩
def qkq  (Aa : Int) (K : Ex → Env → Mem → Option AV) := (fun z_b1_0 z_b1_1 => K (.exit 0) (qi [(4, (.ptr 0 0)), (5, (.ptr 1 0))]) (qj [(some (.box true [(.int .i64 Aa), .nils])), (some (.box true [(.int .i64 z_b1_0), (.sl 9 z_b1_1)]))]))
def qcv  (v1 : List AV) (v7 Aa Bj : Int) (Ch : List AV) (next : Int → Int → (List AV) → Option AV) (kx0 : Int → (List AV) → Option AV) : Option AV :=
  (bif ((decide (v7 < (v1.length : Int))) && (decide (v7 < (30 : Int)))) then (oB (ixB v1 v7) fun y1 => (bif fitC qlo y1.cells then (bif fitV (.st qd8) (.agg [(.int .i64 (gI y1.cells 0)), (.str (gS y1.cells 1)), (.int .i64 (gI y1.cells 2)), (.int .i64 (gI y1.cells 3)), (gC y1.cells 4), (.str (gS y1.cells 5)), (.int .i64 (gI y1.cells 6)), (.bool (gB y1.cells 7)), (.int .i64 (gI y1.cells 8)), (.int .i64 (gI y1.cells 9)), (.int .i64 (gI y1.cells 10))]) then (oB (qkp Bj Ch (gI y1.cells 0) (gS y1.cells 1) (gI y1.cells 2) (gI y1.cells 3) (aL (gC y1.cells 4)) (gS y1.cells 5) (gI y1.cells 6) (gB y1.cells 7) (gI y1.cells 8) (gI y1.cells 9) (gI y1.cells 10)) fun r2 => (next (IntKind.i64.wrap (v7 + (1 : Int))) (gI r2.cells 0) (gL r2.cells 1))) else none) else none)) else (kx0 Bj Ch))
def qcw  (v1 : List AV) (Aa : Int) (kx0 : Int → (List AV) → Option AV) : Nat → Int → Int → (List AV) → Option AV
  | 0 => (fun _ _ _ => none)
  | n + 1 => (fun v7 Bj Ch => qcv v1 v7 Aa Bj Ch (qcw v1 Aa kx0 n) kx0)
def qoq := hull (qcw)
theorem qun : qoq = qcw := qb _
def qvq : SubB Tryd.prog (TIof Tryd.prog) 30 0 (kret [(.cell 4 true 2)] (decT [(.i .i64), (.sl 9)])) := lpB tabOk follows Tryd.f9 75 (.s (.s (.r [(5, .g 2)] []) (.s .z (.v [.sel [4, 5] [0, 1]]))) (.s (.b (.d [] [(3, .e 26 qlo)] [(0, .s (.eta 27 (.st qd8))), (0, .k q2n.b)] [])) (.v [.sel [1, 4, 5, 7] [0, 1]]))) S67_ (qcw) (fun f v K n => f (v.l 4 0) (v.i 3 0) (qkq (v.i 3 0) K) n) (fun v f K => qcv (v.l 4 0) (v.i 28 0) (v.i 3 0) (v.i 7 0) (v.l 7 1) f (qkq (v.i 3 0) K)) (fun f v => f (v.i 28 0) (v.i 7 0) (v.l 7 1)) (fun k v => (fun z0 z1 z2 => k (((v.ui 28 0 z0).ui 7 0 z1).ul 7 1 z2))) (by kernel_rfl) (fun _ _ => (by kernel_rfl)) (fun _ _ _ => (by kernel_rfl)) (fun _ _ _ => (by kernel_rfl)) (fun _ _ => (by kernel_rfl)) (fun _ _ _ _ _ => (by kernel_rfl))
def qho (v0 : Int) (v1 : List AV) : Option AV :=
  (oB (qhr v0) fun r1 => (qoq v1 (0 : Int) (fun b1_0q2 b1_1q3 => (some (.agg [(.int .i64 b1_0q2), (.sl 9 b1_1q3)]))) FU (0 : Int) (gI r1.1.cells 0) ([] : List AV)))
def qm7 := hull qho
theorem qza : qm7 = qho := qb _
def q0j {R : Type} : EntF Tryd.prog R := entB (nt := 30) (dec := (decT [(.i .i64), (.sl 9)])) (enc := (qdq (.st [(.i .i64), (.sl 9)]))) tabOk follows Tryd.func9 [(.cell 4 true 2)] hdeT (.s .z (.s (.r [(1, .c ql4.b)] []) (.s (.s .z (.b (.sub [.nilc 1 1 9, .sel [1, 4, 5, 7] [0, 1]] qvq []))) .z))) S68_ qho (fun f v => f (v.i 0 0) (v.l 4 0)) (by kernel_rfl) (by kernel_rfl) (by kernel_rfl) fun _ => (by kernel_rfl)
def S69_ : Shp := ⟨[(7, .one (.ptr 0 0)), (8, .one (.l (.i .i64))), (9, .one (.ptr 1 0)), (43, .one (.l (.sl 9))), (44, .one (.l (.i .i64))), (45, .one (.l (.i .i64)))], [.box true [(.l (.i .i64)), (.l (.sl 9))], .box true (lk qc)]⟩
def S70_ : Shp := ⟨[(7, .one (.ptr 0 0)), (9, .one (.ptr 1 0)), (10, .one (.ptr 2 0)), (11, .one (.l (.i .i64))), (43, .one (.l (.sl 9))), (44, .one (.l (.i .i64))), (45, .one (.l (.i .i64)))], [.box true [(.l (.i .i64)), (.l (.sl 9))], .box true (lk qc), .box true (lk qhs)]⟩
def S71_ : Shp := ⟨[(7, .one (.ptr 0 0)), (43, .one (.l (.sl 9))), (44, .one (.l (.i .i64))), (45, .one (.l (.i .i64)))], [.box true [(.l (.i .i64)), (.l (.sl 9))]]⟩
def qnk  (K : Ex → Env → Mem → Option Bool) := (fun z_v4 => K .norm (qi [(4, (.bool z_v4))]) (qj []))
def qc5  (v0 : Int) (kn : Bool → Option Bool) : Option Bool :=
  (bif ((decide (v0 < (1 : Int))) || (decide (v0 > (256 : Int)))) then (oB (qf3) fun r1 => (kn r1)) else (kn false))
def qir := hull (qc5)
theorem qnl : qir = qc5 := qb _
def qor : SubB Tryd.prog (TIof Tryd.prog) 122 0 (kret [.t 4] decB) := jnB tabOk follows Tryd.f3 77 (.r [(3, .g 2), (7, .c qop.b)] [.sel [4] []]) S0_ (qc5) (fun f v K => f (v.i 0 0) (qnk K)) (by kernel_rfl) (fun _ _ => (by kernel_rfl))
def qm8  (v8 : Int) (v43 : List AV) (v44 v45 Aa : Int) (Ab : List AV) (Bj : Int) (Ch : List UInt8) (Ck Cm : Int) (Cn : List AV) (Co Cp Cq Cr : Int) (K : Ex → Env → Mem → Option Bool) := (fun z_v85 => K .norm (qi [(7, (.ptr 0 0)), (8, (.int .i64 v8)), (9, (.ptr 1 0)), (43, (.sl 9 v43)), (44, (.int .i64 v44)), (45, (.int .i64 v45)), (85, (.bool z_v85))]) (qj [(some (.box true [(.int .i64 Aa), (.sl 9 Ab)])), (some (.box true (qjk Bj Ch Ck Cm Cn Co Cp Cq Cr)))]))
def qd3  (v8 : Int) (v43 : List AV) (v44 v45 Aa : Int) (Ab : List AV) (Bj : Int) (Ch : List UInt8) (Ck Cm : Int) (Cn : List AV) (Co Cp Cq Cr : Int) (kn : Bool → Option Bool) : Option Bool :=
  (bif ((((!(((Bj == (0 : Int)) == (decide ((Cn.length : Int) > (0 : Int)))) && true)) || (!(((Bj == (2 : Int)) == (Ck == (0 : Int))) && true))) || (decide (Bj < (0 : Int)))) || (decide (Bj > (2 : Int)))) then (kn true) else (oB (qbs Ch) fun r1 => (kn (!r1))))
def qen := hull (qd3)
theorem qm9 : qen = qd3 := qb _
def qnm : SubB Tryd.prog (TIof Tryd.prog) 122 0 (kret [.t 4] decB) := jnB tabOk follows Tryd.f3 37679 (.r [(10, .g 8), (20, .g 3), (25, .g 3), (33, .c qcf.b)] [.sel [7, 8, 9, 43, 44, 45, 85] [0, 1]]) S69_ (qd3) (fun f v K => f (v.i 32 0) (v.l 172 0) (v.i 176 0) (v.i 180 0) (v.i 3 0) (v.l 3 1) (v.i 7 0) (v.s 7 1) (v.i 7 2) (v.i 7 3) (v.l 7 4) (v.i 7 5) (v.i 7 6) (v.i 7 7) (v.i 7 8) (qm8 (v.i 32 0) (v.l 172 0) (v.i 176 0) (v.i 180 0) (v.i 3 0) (v.l 3 1) (v.i 7 0) (v.s 7 1) (v.i 7 2) (v.i 7 3) (v.l 7 4) (v.i 7 5) (v.i 7 6) (v.i 7 7) (v.i 7 8) K)) (by kernel_rfl) (fun _ _ => (by kernel_rfl))
def qna  (v43 : List AV) (v44 v45 Aa : Int) (Ab : List AV) (K : Ex → Env → Mem → Option Bool) := (fun z_v119 => K .norm (qi [(7, (.ptr 0 0)), (43, (.sl 9 v43)), (44, (.int .i64 v44)), (45, (.int .i64 v45)), (119, (.bool z_v119))]) (qj [(some (.box true [(.int .i64 Aa), (.sl 9 Ab)]))]))
def qd4  (v11 : Int) (v43 : List AV) (v44 v45 Aa : Int) (Ab : List AV) (Bj : Int) (Ch : List UInt8) (Ck Cm : Int) (Cn : List AV) (Co Cp Cq Cr : Int) (Bv : List UInt8) (Ca Cb : Int) (Cc : List AV) (kn : Bool → Option Bool) : Option Bool :=
  (bif (decide (v11 > (0 : Int))) then (kn true) else (bif (v11 == (0 : Int)) then (bif (decide (Ca ≥ Ck)) then (kn true) else (kn (Ca == (0 : Int)))) else (kn false)))
def qeo := hull (qd4)
theorem qnb : qeo = qd4 := qb _
def qnn : SubB Tryd.prog (TIof Tryd.prog) 122 0 (kret [.t 4] decB) := jnB tabOk follows Tryd.f3 750383 (.v [.sel [7, 43, 44, 45, 119] [0]]) S70_ (qd4) (fun f v K => f (v.i 44 0) (v.l 172 0) (v.i 176 0) (v.i 180 0) (v.i 3 0) (v.l 3 1) (v.i 7 0) (v.s 7 1) (v.i 7 2) (v.i 7 3) (v.l 7 4) (v.i 7 5) (v.i 7 6) (v.i 7 7) (v.i 7 8) (v.s 11 0) (v.i 11 1) (v.i 11 2) (v.l 11 3) (qna (v.l 172 0) (v.i 176 0) (v.i 180 0) (v.i 3 0) (v.l 3 1) K)) (by kernel_rfl) (fun _ _ => (by kernel_rfl))
def qgb  (K : Ex → Env → Mem → Option Bool) := (fun (_ : Unit) => K (.exit 0) (qi []) (qj []))
def qb3  (v43 : List AV) (v44 v45 Aa : Int) (Ab : List AV) (next : Int → Option Bool) (kx0 : Unit → Option Bool) : Option Bool :=
  (bif (decide (v45 < v44)) then (oB (ixB v43 v45) fun y1 => (bif fitC qc y1.cells then (qen v45 v43 v44 v45 Aa Ab (gI y1.cells 0) (gS y1.cells 1) (gI y1.cells 2) (gI y1.cells 3) (gL y1.cells 4) (gI y1.cells 5) (gI y1.cells 6) (gI y1.cells 7) (gI y1.cells 8) (fun v85q2 => (bif v85q2 then (some false) else (bif (decide (v45 > (0 : Int))) then (oB (ixB Ab (IntKind.i64.wrap (v45 - (1 : Int)))) fun y3 => (bif fitC qc y3.cells then (oB (qgs (gS y3.cells 1) (gS y1.cells 1)) fun r4 => (qeo r4 v43 v44 v45 Aa Ab (gI y1.cells 0) (gS y1.cells 1) (gI y1.cells 2) (gI y1.cells 3) (gL y1.cells 4) (gI y1.cells 5) (gI y1.cells 6) (gI y1.cells 7) (gI y1.cells 8) (gS y3.cells 1) (gI y3.cells 2) (gI y3.cells 3) (gL y3.cells 4) (fun v119q5 => (bif v119q5 then (some false) else (next (IntKind.i64.wrap (v45 + (1 : Int)))))))) else none)) else (next (IntKind.i64.wrap (v45 + (1 : Int)))))))) else none)) else (kx0 ()))
def qb4  (v43 : List AV) (v44 Aa : Int) (Ab : List AV) (kx0 : Unit → Option Bool) : Nat → Int → Option Bool
  | 0 => (fun _ => none)
  | n + 1 => (fun v45 => qb3 v43 v44 v45 Aa Ab (qb4 v43 v44 Aa Ab kx0 n) kx0)
def qep := hull (qb4)
theorem qnc : qep = qb4 := qb _
def qno : SubB Tryd.prog (TIof Tryd.prog) 122 0 (kret [.t 4] decB) := lpB tabOk follows Tryd.f3 303 (.s .z (.s (.s .z (.v [.sel [] []])) (.s (.b (.s (.r [(1, .p (.etac 48 qc))] []) (.s (.s (.sub [.sel [7, 8, 9, 43, 44, 45] [0, 1]] qnm []) .z) (.s .z (.s (.s (.r [(4, .p (.etac 92 qc))] []) (.s (.r [(5, .c qpv.b)] []) (.s (.sub [.sel [7, 9, 10, 11, 43, 44, 45] [0, 1, 2]] qnn []) .z))) .z))))) (.v [.sel [7, 43, 44, 45] [0]])))) S71_ (qb4) (fun f v K n => f (v.l 172 0) (v.i 176 0) (v.i 3 0) (v.l 3 1) (qgb K) n) (fun v f K => qb3 (v.l 172 0) (v.i 176 0) (v.i 180 0) (v.i 3 0) (v.l 3 1) f (qgb K)) (fun f v => f (v.i 180 0)) (fun k v => (fun z0 => k (v.ui 180 0 z0))) (by kernel_rfl) (fun _ _ => (by kernel_rfl)) (fun _ _ _ => (by kernel_rfl)) (fun _ _ _ => (by kernel_rfl)) (fun _ _ => (by kernel_rfl)) (fun _ _ _ _ _ => (by kernel_rfl))
def qdv (v0 : Int) (v1 : List AV) : Option Bool :=
  (oB (qhr v0) fun r1 => (bif (r1.2 != (0 : Int)) then (qir v0 (fun v4q2 => (some v4q2))) else (oB (qm7 v0 v1) fun r3 => (bif (((gI r3.cells 0) != v0) || (decide (((gL r3.cells 1).length : Int) > v0))) then (some false) else (qep (gL r3.cells 1) ((gL r3.cells 1).length : Int) (gI r3.cells 0) (gL r3.cells 1) (fun (_ : Unit) => (oB (qf3) fun r4 => (some r4))) FU (0 : Int))))))
def qeh := hull qdv
theorem qqy : qeh = qdv := qb _
def qre {R : Type} : EntF Tryd.prog R := entB (nt := 122) (dec := decB) (enc := AV.bool) tabOk follows Tryd.func3 [.t 4] hdeB (.s .z (.s (.s (.r [(1, .c ql4.b)] []) (.s .z (.s (.s (.sub [.sel [0] []] qor []) .z) .z))) (.s (.r [(2, .k q0j.b)] []) (.s (.s (.r [(5, .g 5)] []) .z) (.s (.s .z (.b (.sub [.sel [7, 43, 44, 45] [1]] qno []))) (.s (.r [(0, .c qop.b)] []) .z)))))) S68_ qdv (fun f v => f (v.i 0 0) (v.l 4 0)) (by kernel_rfl) (by kernel_rfl) (by kernel_rfl) fun _ => (by kernel_rfl)
end
end Go.Proofs.YtmficjbenbhneaaDoor.Dn
