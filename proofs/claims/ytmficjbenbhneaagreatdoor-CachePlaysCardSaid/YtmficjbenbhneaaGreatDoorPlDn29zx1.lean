import Derived.Test.YtmficjbenbhneaaGreatDoorProg
import Derived.Test.YtmficjbenbhneaaGreatDoorPlLibD
set_option linter.all false
namespace Go.Proofs.YtmficjbenbhneaaGreatDoor.Dn
open Go Go.Pev
open Go.IntKind (i64 u64)
set_option maxRecDepth 100000
set_option maxHeartbeats 4000000
theorem zT:True:=True.intro
theorem zA {a b:Prop}(x:a)(y:b):a/\b:=⟨x,y⟩
theorem tabOk:Tab.ok (TIof Tryz.prog) Tryz.prog:=fun _ _ h=>h
theorem follows:Tryz.prog.follows .mixedOrders=true:=by kernel_rfl
instance:Sure Tryz.prog:=⟨tabOk,follows⟩
def S0_:Shp:=⟨[(0,.one (.l (.i .i64)))],[]⟩
def qbgh:AV->Option (AV×Int):=decN [(.st [(.i .i64),.nil]),(.one (.i .i64))] fun z=>((gC (tpL z) 0),aI (gC (tpL z) 1))
noncomputable section
def qm8 (v0:Int):Option (AV×Int):=
 (bif((decide (v0<1))||(decide (v0>256)))then(some ((.agg [(.int .i64 0),.nils]),1))else(some ((.agg [(.int .i64 v0),.nils]),0)))
def qos:=hull qm8
theorem q4i:qos=qm8:=qa _
def qxo {R:Type}:EntF Tryz.prog R:=entB (nt:=13) (dec:=qbgh) (enc:=(fun r=>.tup [qcf (.st [(.i .i64),.nil]) r.1,.int .i64 r.2])) Tryz.func4 [(.cell 2 true 2),.t 3] (hdeN fun _=>rfl) (.s .z (.s (.s (.r [(3,.g 2)] []) .z) .z)) S0_ qm8 (fun f v=>f (v.i 0 0))
def q9e:AV->Option (AV×Int):=decN [(.st [(.i .i64),.nil]),(.one (.i .i64))] fun z=>((gC (tpL z) 0),aI (gC (tpL z) 1))
def qiz (v0:Int):Option (AV×Int):=
 (bif((decide (v0<1))||(decide (v0>256)))then(some ((.agg [(.int .i64 0),.nils]),1))else(some ((.agg [(.int .i64 v0),.nils]),0)))
def qpe:=hull qiz
theorem qwf:qpe=qiz:=qa _
def qbdd {R:Type}:EntF Tryz.prog R:=entB (nt:=13) (dec:=q9e) (enc:=(fun r=>.tup [qcf (.st [(.i .i64),.nil]) r.1,.int .i64 r.2])) Tryz.func5 [(.cell 2 true 2),.t 3] (hdeN fun _=>rfl) (.s .z (.s (.s (.r [(3,.g 2)] []) .z) .z)) S0_ qiz (fun f v=>f (v.i 0 0))
def qb:List LT:=[(.i .i64),.s,(.i .i64),(.i .i64),(.sl 13),(.i .i64),(.i .i64),(.i .i64),(.i .i64)]
def qbb:List LT:=[.b,(.i .u64),(.i .u64),.s,.s,.s,(.i .i64),(.i .i64),(.i .i64),(.i .i64),(.i .i64),(.i .i64),(.i .u64)]
def qb9:List LT:=[.s,(.i .i64),(.i .i64),(.sl 13)]
def S1_:Shp:=⟨[(2,.one (.ptr 0 0)),(3,.one (.ptr 1 0)),(36,.one (.l (.i .i64))),(37,.one (.l (.i .i64)))],[.box true (lk qb9),.box true (lk qb9)]⟩
def S2_:Shp:=⟨[(0,.st (lk qb9)),(1,.st (lk qb9))],[]⟩
def qot (K:Ex->Env->Mem->Option Bool):=(fun(_:Unit)=>K (.exit 0) (qe []) (qd []))
def qe6 (v36 v37:Int)(Aa:LU)(Ab Ac:Int)(Ad:LA)(Ae:LU)(Af Ag:Int)(Ah:LA)(next:Int->Option Bool)(kx0:Unit->Option Bool):Option Bool:=
 (bif(decide (v37<v36))then(oB (ixB Ad v37) fun y1=>(bif fitC qbb y1.cells then(oB (ixB Ah v37) fun y2=>(bif fitC qbb y2.cells then(bif(!(((gB y1.cells 0)==(gB y2.cells 0))&&(((gI y1.cells 1)==(gI y2.cells 1))&&(((gI y1.cells 2)==(gI y2.cells 2))&&(((gS y1.cells 3)==(gS y2.cells 3))&&(((gS y1.cells 4)==(gS y2.cells 4))&&(((gS y1.cells 5)==(gS y2.cells 5))&&(((gI y1.cells 6)==(gI y2.cells 6))&&(((gI y1.cells 7)==(gI y2.cells 7))&&(((gI y1.cells 8)==(gI y2.cells 8))&&(((gI y1.cells 9)==(gI y2.cells 9))&&(((gI y1.cells 10)==(gI y2.cells 10))&&(((gI y1.cells 11)==(gI y2.cells 11))&&(((gI y1.cells 12)==(gI y2.cells 12))&&true))))))))))))))then(some false)else(next (i64.wrap (v37+1))))else none))else none))else(kx0 ()))
def qe7 (v36:Int)(Aa:LU)(Ab Ac:Int)(Ad:LA)(Ae:LU)(Af Ag:Int)(Ah:LA)(kx0:Unit->Option Bool):Nat->Int->Option Bool
 |0=>(fun _=>none)
 |n+1=>(fun v37=>qe6 v36 v37 Aa Ab Ac Ad Ae Af Ag Ah (qe7 v36 Aa Ab Ac Ad Ae Af Ag Ah kx0 n) kx0)
def qtk:=hull (qe7)
theorem qz7:qtk=qe7:=qa _
def q3e:SubB Tryz.prog (TIof Tryz.prog) 52 0 (kret [.t 4] decB):=lpB Tryz.f13 75 (.s .z (.s (.s .z (.v [.sel [] []])) (.s (.b (.s .z (.s (.d [] [(3,.e 43 qbb),(8,.e 48 qbb)] [] []) .z))) (.v [.sel [2,3,36,37] [0,1]])))) S1_ (qe7) (fun f v K n=>f (v.i 144 0) (v.s 3 0) (v.i 3 1) (v.i 3 2) (v.l 3 3) (v.s 7 0) (v.i 7 1) (v.i 7 2) (v.l 7 3) (qot K) n) (fun v f K=>qe6 (v.i 144 0) (v.i 148 0) (v.s 3 0) (v.i 3 1) (v.i 3 2) (v.l 3 3) (v.s 7 0) (v.i 7 1) (v.i 7 2) (v.l 7 3) f (qot K)) (fun f v=>f (v.i 148 0)) (fun k v=>(fun z0=>k (v.ui 148 0 z0)))
def qkx (Ai:LU)(Aj Ak:Int)(Al:LA)(Am:LU)(An Ao:Int)(Ap:LA):Option Bool:=
 (bif((((!(Ai==Am))||(Aj != An))||(Ak != Ao))||((Al.length:Int) != (Ap.length:Int)))then(some false)else(qtk (Al.length:Int) Ai Aj Ak Al Am An Ao Ap (fun(_:Unit)=>(some true)) FU 0))
def qhd:=hull qkx
theorem q9f:qhd=qkx:=qa _
def qpf {R:Type}:EntF Tryz.prog R:=entB (nt:=52) (dec:=decB) (enc:=AV.bool) Tryz.func13 [.t 4] hdeB (.s .z (.s (.s (.r [(6,.g 5),(13,.g 5),(20,.g 7)] []) .z) (.s (.s .z (.b (.sub [.sel [2,3,36,37] [0,1]] q3e []))) .z))) S2_ qkx (fun f v=>f (v.s 1 0) (v.i 1 1) (v.i 1 2) (v.l 1 3) (v.s 5 0) (v.i 5 1) (v.i 5 2) (v.l 5 3))
def S3_:Shp:=⟨[(3,.one (.ptr 0 0)),(23,.one (.l (.sl 9))),(24,.one (.l (.i .i64))),(25,.one (.l (.i .i64)))],[.box true [(.l (.i .i64)),(.l (.sl 9))]]⟩
def S4_:Shp:=⟨[(0,.st [(.l (.i .i64)),(.l (.sl 9))]),(1,.st [(.l (.i .i64)),(.l (.sl 9))])],[]⟩
def qlp (K:Ex->Env->Mem->Option Bool):=(fun(_:Unit)=>K (.exit 0) (qe []) (qd []))
def qde (v23:LA)(v24 v25 Aa:Int)(Ab:LA)(next:Int->Option Bool)(kx0:Unit->Option Bool):Option Bool:=
 (bif(decide (v25<v24))then(oB (ixB v23 v25) fun y1=>(bif fitC qb y1.cells then(oB (ixB Ab v25) fun y2=>(bif fitC qb y2.cells then(oB (qhd (gS y1.cells 1) (gI y1.cells 2) (gI y1.cells 3) (gL y1.cells 4) (gS y2.cells 1) (gI y2.cells 2) (gI y2.cells 3) (gL y2.cells 4)) fun r3=>(bif((((((!r3)||((gI y1.cells 0) != (gI y2.cells 0)))||((gI y1.cells 5) != (gI y2.cells 5)))||((gI y1.cells 6) != (gI y2.cells 6)))||((gI y1.cells 7) != (gI y2.cells 7)))||((gI y1.cells 8) != (gI y2.cells 8)))then(some false)else(next (i64.wrap (v25+1)))))else none))else none))else(kx0 ()))
def qdf (v23:LA)(v24 Aa:Int)(Ab:LA)(kx0:Unit->Option Bool):Nat->Int->Option Bool
 |0=>(fun _=>none)
 |n+1=>(fun v25=>qde v23 v24 v25 Aa Ab (qdf v23 v24 Aa Ab kx0 n) kx0)
def qpg:=hull (qdf)
theorem qv0:qpg=qdf:=qa _
def qxp:SubB Tryz.prog (TIof Tryz.prog) 77 0 (kret [.t 4] decB):=lpB Tryz.f6 75 (.s .z (.s (.s .z (.v [.sel [] []])) (.s (.b (.s (.r [(1,.p (.etac 28 qb))] []) (.s (.r [(3,.p (.etac 33 qb))] []) (.s (.r [(4,.c qpf.b),(7,.g 5),(14,.g 5),(21,.g 5),(28,.g 5),(35,.g 5)] []) .z)))) (.v [.sel [3,23,24,25] [0]])))) S3_ (qdf) (fun f v K n=>f (v.l 92 0) (v.i 96 0) (v.i 3 0) (v.l 3 1) (qlp K) n) (fun v f K=>qde (v.l 92 0) (v.i 96 0) (v.i 100 0) (v.i 3 0) (v.l 3 1) f (qlp K)) (fun f v=>f (v.i 100 0)) (fun k v=>(fun z0=>k (v.ui 100 0 z0)))
def qhg (Ai:Int)(Aj:LA)(Am:Int)(An:LA):Option Bool:=
 (bif((Ai != Am)||((Aj.length:Int) != (An.length:Int)))then(some false)else(qpg Aj (Aj.length:Int) Am An (fun(_:Unit)=>(some true)) FU 0))
def qfe:=hull qhg
theorem q3f:qfe=qhg:=qa _
def qsd {R:Type}:EntF Tryz.prog R:=entB (nt:=77) (dec:=decB) (enc:=AV.bool) Tryz.func6 [.t 4] hdeB (.s .z (.s (.s (.r [(6,.g 7)] []) .z) (.s (.s .z (.b (.sub [.sel [3,23,24,25] [1]] qxp []))) .z))) S4_ qhg (fun f v=>f (v.i 1 0) (v.l 1 1) (v.i 5 0) (v.l 5 1))
def S5_:Shp:=⟨[(0,.one (.l .s)),(1,.one (.l (.i .i64)))],[]⟩
def qqx (v0:LU)(v1:Int):Option AV:=
 (bif hd ([(.agg [(.bool false),(.int .u64 0),(.int .u64 1),(.str ([]:List UInt8)),(.str ([]:List UInt8)),(.str ([]:List UInt8)),(.int .i64 0),(.int .i64 0),(.int .i64 0),(.int .i64 0),(.int .i64 0),(.int .i64 0),(.int .u64 0)])]:List AV) (([(.agg [(.bool false),(.int .u64 0),(.int .u64 1),(.str ([]:List UInt8)),(.str ([]:List UInt8)),(.str ([]:List UInt8)),(.int .i64 0),(.int .i64 0),(.int .i64 0),(.int .i64 0),(.int .i64 0),(.int .i64 0),(.int .u64 0)])]:List AV).length)then(some (.agg [(.str v0),(.int .i64 1),(.int .i64 v1),(.fr true 13 ([(.agg [(.bool false),(.int .u64 0),(.int .u64 1),(.str ([]:List UInt8)),(.str ([]:List UInt8)),(.str ([]:List UInt8)),(.int .i64 0),(.int .i64 0),(.int .i64 0),(.int .i64 0),(.int .i64 0),(.int .i64 0),(.int .u64 0)])]:List AV))]))else none)
def qph:=hull qqx
theorem qbax:qph=qqx:=qa _
def qx8 {R:Type}:EntF Tryz.prog R:=entB (nt:=11) (dec:=(decT [.s,(.i .i64),(.i .i64),(.fr true 13)])) (enc:=(qcf (.st [.s,(.i .i64),(.i .i64),(.fr true 13)]))) Tryz.func20 [(.cell 4 true 4)] hdeT (.z) S5_ qqx (fun f v=>f (v.s 0 0) (v.i 4 0))
def ql9:Nat:=45
def S6_:Shp:=⟨[(1,.one (.ptr 0 0)),(3,.one (.own 1)),(7,.one (.l (.sl 13))),(8,.one (.l (.i .i64))),(9,.one (.l (.i .i64)))],[.box true (lk qb9),.arr true 16]⟩
def S7_:Shp:=⟨[(0,.st (lk qb9))],[]⟩
def qpi (K:Ex->Env->Mem->Option (List AV)):=(fun z_a0=>K (.exit 0) (qe [(3,(.own 0 z_a0.length))]) (qd [(some (.arr true 16 z_a0))]))
def qfn (v7:LA)(v8 v9:Int)(Aa:LU)(Ab Ac:Int)(Ad a1:LA)(next:Int->(List AV)->Option (List AV))(kx0:(List AV)->Option (List AV)):Option (List AV):=
 (bif(decide (v9<v8))then(oB (ixB v7 v9) fun y1=>(bif fitC qbb y1.cells then(bif hd a1 a1.length then(bif hd ([(.agg [(.str Aa),(.int .i64 Ab),(.int .i64 Ac),(.bool (gB y1.cells 0)),(.int .u64 (gI y1.cells 1)),(.int .u64 (gI y1.cells 2)),(.str (gS y1.cells 3)),(.str (gS y1.cells 4)),(.str (gS y1.cells 5)),(.int .i64 (gI y1.cells 6)),(.int .i64 (gI y1.cells 7)),(.int .i64 (gI y1.cells 8)),(.int .i64 (gI y1.cells 9)),(.int .i64 (gI y1.cells 10)),(.int .i64 (gI y1.cells 11)),(.int .u64 (gI y1.cells 12))])]:List AV) (([(.agg [(.str Aa),(.int .i64 Ab),(.int .i64 Ac),(.bool (gB y1.cells 0)),(.int .u64 (gI y1.cells 1)),(.int .u64 (gI y1.cells 2)),(.str (gS y1.cells 3)),(.str (gS y1.cells 4)),(.str (gS y1.cells 5)),(.int .i64 (gI y1.cells 6)),(.int .i64 (gI y1.cells 7)),(.int .i64 (gI y1.cells 8)),(.int .i64 (gI y1.cells 9)),(.int .i64 (gI y1.cells 10)),(.int .i64 (gI y1.cells 11)),(.int .u64 (gI y1.cells 12))])]:List AV).length)then(bif decide ((a1.length+([(.agg [(.str Aa),(.int .i64 Ab),(.int .i64 Ac),(.bool (gB y1.cells 0)),(.int .u64 (gI y1.cells 1)),(.int .u64 (gI y1.cells 2)),(.str (gS y1.cells 3)),(.str (gS y1.cells 4)),(.str (gS y1.cells 5)),(.int .i64 (gI y1.cells 6)),(.int .i64 (gI y1.cells 7)),(.int .i64 (gI y1.cells 8)),(.int .i64 (gI y1.cells 9)),(.int .i64 (gI y1.cells 10)),(.int .i64 (gI y1.cells 11)),(.int .u64 (gI y1.cells 12))])]:List AV).length)*160<=140737488355328)then(next (i64.wrap (v9+1)) (a1++([(.agg [(.str Aa),(.int .i64 Ab),(.int .i64 Ac),(.bool (gB y1.cells 0)),(.int .u64 (gI y1.cells 1)),(.int .u64 (gI y1.cells 2)),(.str (gS y1.cells 3)),(.str (gS y1.cells 4)),(.str (gS y1.cells 5)),(.int .i64 (gI y1.cells 6)),(.int .i64 (gI y1.cells 7)),(.int .i64 (gI y1.cells 8)),(.int .i64 (gI y1.cells 9)),(.int .i64 (gI y1.cells 10)),(.int .i64 (gI y1.cells 11)),(.int .u64 (gI y1.cells 12))])]:List AV)))else none)else none)else none)else none))else(kx0 a1))
def qdq (v7:LA)(v8:Int)(Aa:LU)(Ab Ac:Int)(Ad:LA)(kx0:(List AV)->Option (List AV)):Nat->Int->(List AV)->Option (List AV)
 |0=>(fun _ _=>none)
 |n+1=>(fun v9 a1=>qfn v7 v8 v9 Aa Ab Ac Ad a1 (qdq v7 v8 Aa Ab Ac Ad kx0 n) kx0)
def qum:=hull (qdq)
theorem q3g:qum=qdq:=qa _
def q4j:SubB Tryz.prog (TIof Tryz.prog) 26 0 (kret [.t 2] (decF true 16)):=lpB Tryz.f69 75 (.s .z (.s (.s .z (.v [.sel [3] [1]])) (.s (.b (.s (.r [(0,.p (.etac 11 qbb))] []) .z)) (.v [.sel [1,3,7,8,9] [0,1]])))) S6_ (qdq) (fun f v K n=>f (v.l 28 0) (v.i 32 0) (v.s 3 0) (v.i 3 1) (v.i 3 2) (v.l 3 3) (qpi K) n) (fun v f K=>qfn (v.l 28 0) (v.i 32 0) (v.i 36 0) (v.s 3 0) (v.i 3 1) (v.i 3 2) (v.l 3 3) (v.r 1) f (qpi K)) (fun f v=>f (v.i 36 0) (v.r 1)) (fun k v=>(fun z0 z1=>k ((v.ui 36 0 z0).ur 1 z1)))
def qky (Ai:LU)(Aj Ak:Int)(Al:LA):Option (List AV):=
 (bif(hd ([]:List AV) (([]:List AV).length)&&true)then(qum Al (Al.length:Int) Ai Aj Ak Al (fun a0q1=>(bif hd a0q1 a0q1.length then(some a0q1)else none)) FU 0 ([]:List AV))else none)
def qs3:=hull qky
theorem q9g:qs3=qky:=qa _
def qbay {R:Type}:EntF Tryz.prog R:=entB (nt:=26) (dec:=(decF true 16)) (enc:=(AV.fr true 16)) Tryz.func69 [.t 2] hdeF (.s .z (.s .z (.s (.s .z (.b (.sub [.own 3 16,.sel [1,3,7,8,9] [0,1]] q4j []))) .z))) S7_ qky (fun f v=>f (v.s 1 0) (v.i 1 1) (v.i 1 2) (v.l 1 3))
def qgv:List LT:=[.s,(.i .i64),(.i .i64),.b,(.i .u64),(.i .u64),.s,.s,.s,(.i .i64),(.i .i64),(.i .i64),(.i .i64),(.i .i64),(.i .i64),(.i .u64)]
def S8_:Shp:=⟨[(0,.one (.l .s)),(1,.one (.l .s))],[]⟩
def qez (v0 v1:LU):Option Bool:=
 (bif(decide ((v0.length:Int)>=(v1.length:Int)))then(oB (cutI v0 (some (i64.wrap ((v0.length:Int)-(v1.length:Int)))) none) fun s1=>(some (s1==v1)))else(some false))
def qou:=hull qez
theorem qun:qou=qez:=qa _
def qv1 {R:Type}:EntF Tryz.prog R:=entB (nt:=21) (dec:=decB) (enc:=AV.bool) Tryz.func99 [.t 4] hdeB (.z) S8_ qez (fun f v=>f (v.s 0 0) (v.s 4 0))
def qgy (v0 v1:LU):Option Bool:=
 (oB (qou v0 v1) fun r1=>(some r1))
def qii:=hull qgy
theorem qz8:qii=qgy:=qa _
def qqo {R:Type}:EntF Tryz.prog R:=entB (nt:=8) (dec:=decB) (enc:=AV.bool) Tryz.func80 [.t 4] hdeB (.s .z (.s (.r [(2,.c qv1.b)] []) .z)) S8_ qgy (fun f v=>f (v.s 0 0) (v.s 4 0))
theorem qbhd {R:Type}:qg8 Tryz.prog 116 (qrp (R:=R)):=qbj6 Tryz.func116 (by kernel_rfl) (by kernel_rfl) (by kernel_rfl) (by kernel_rfl)
theorem qbhe {R:Type}:qg8 Tryz.prog 129 (qrq (R:=R)):=qbj7 Tryz.func129 (by kernel_rfl) (by kernel_rfl) (by kernel_rfl) (by kernel_rfl)
def S9_:Shp:=⟨[(0,.one (.l .s)),(1,.one (.l (.i .u8)))],[]⟩
def qe0 (v0:LU)(v1:Int):Option Int:=
 (oB (qud v0 v1) fun r1=>(some r1))
def qov:=hull qe0
theorem qup:qov=qe0:=qa _
def qv2 {R:Type}:EntF Tryz.prog R:=entB (nt:=8) (dec:=(decI .i64)) (enc:=(AV.int .i64)) Tryz.func123 [.t 4] hdeI (.s .z (.s (.r [(2,.c (eK qbhe))] []) .z)) S9_ qe0 (fun f v=>f (v.s 0 0) (v.i 4 0))
def qgz (v0 v1:LU):Option Int:=
 (bif(((v1.length:Int)==0)||(v1==v0))then(some 0)else(bif((v1.length:Int)==1)then(oB (ixB v1 0) fun c1=>(oB (qov v0 (c1.toNat:Int)) fun r2=>(some r2)))else(bif(decide ((v1.length:Int)>=(v0.length:Int)))then(some (-1))else none)))
def qtl:=hull qgz
theorem qz9:qtl=qgz:=qa _
def q3h {R:Type}:EntF Tryz.prog R:=entB (nt:=143) (dec:=(decI .i64)) (enc:=(AV.int .i64)) Tryz.func117 [.t 4] hdeI (.s .z (.s .z (.s (.b (.s (.r [(3,.g 3)] []) (.s .z (.s .z (.s (.s (.r [(3,.c qv2.b)] []) .z) .z))))) (.s .z (.s .z (.s .z (.s .z (.s .z (.s (.b .x) .z))))))))) S8_ qgz (fun f v=>f (v.s 0 0) (v.s 4 0))
def qkz (v0 v1:LU):Option Int:=
 (oB (qtl v0 v1) fun r1=>(some r1))
def qnm:=hull qkz
theorem q9h:qnm=qkz:=qa _
def qwg {R:Type}:EntF Tryz.prog R:=entB (nt:=8) (dec:=(decI .i64)) (enc:=(AV.int .i64)) Tryz.func103 [.t 4] hdeI (.s .z (.s (.r [(2,.c q3h.b)] []) .z)) S8_ qkz (fun f v=>f (v.s 0 0) (v.s 4 0))
def S10_:Shp:=⟨[(0,.one (.l .s)),(1,.one (.l .s)),(5,.one (.l (.i .i64)))],[]⟩
def qqp (v0 v1:LU)(v5:Int)(next:(List UInt8)->Int->Option Int):Option Int:=
 (oB (qnm v0 v1) fun r1=>(bif(r1==(-1))then(some v5)else(oB (cutI v0 (some (i64.wrap (r1+(v1.length:Int)))) none) fun s2=>(next s2 (i64.wrap (v5+1))))))
def qkp (v1:LU):Nat->(List UInt8)->Int->Option Int
 |0=>(fun _ _=>none)
 |n+1=>(fun v0 v5=>qqp v0 v1 v5 (qkp v1 n))
def q7p:=hull (qkp)
def q3i:SubB Tryz.prog (TIof Tryz.prog) 34 0 (kret [.t 4] (decI .i64)):=lpB Tryz.f102 79 (.b (.s (.r [(2,.c qwg.b)] []) (.s .z (.s .z (.v [.sel [0,1,5] []]))))) S10_ (qkp) (fun f v K n=>f (v.s 4 0) n) (fun v f K=>qqp (v.s 0 0) (v.s 4 0) (v.i 20 0) f) (fun f v=>f (v.s 0 0) (v.i 20 0)) (fun k v=>(fun z0 z1=>k ((v.us 0 0 z0).ui 20 0 z1)))
def qk0 (v0 v1:LU):Option Int:=
 (bif((v1.length:Int)==0)then none else(bif((v1.length:Int)==1)then(oB (ixB v1 0) fun c1=>(oB (quc v0 (c1.toNat:Int)) fun r2=>(some r2)))else(q7p v1 FU v0 0)))
def qs4:=hull qk0
theorem q9i:qs4=qk0:=qa _
def qbaz {R:Type}:EntF Tryz.prog R:=entB (nt:=34) (dec:=(decI .i64)) (enc:=(AV.int .i64)) Tryz.func102 [.t 4] hdeI (.s .z (.s (.s .z (.s (.s (.r [(1,.c (eK (qbno (f:=114))))] []) .z) .z)) (.s (.s .z (.s (.s (.r [(3,.c (eK qbhd))] []) .z) .z)) (.s .z (.b (.sub [.sel [0,1,5] []] q3i [])))))) S8_ qk0 (fun f v=>f (v.s 0 0) (v.s 4 0))
def S11_:Shp:=⟨[(0,.one (.l .s)),(1,.one (.l .s)),(2,.one (.l (.i .i64))),(3,.one (.l (.i .i64)))],[]⟩
def S12_:Shp:=⟨[(0,.one (.l .s)),(1,.one (.l .s)),(2,.one (.l (.i .i64))),(3,.one (.l (.i .i64))),(9,.one (.own 0)),(10,.one (.l (.i .i64)))],[.arr true 1]⟩
def qv3 (v0 v1:LU)(v2:Int)(K:Ex->Env->Mem->Option (List AV)):=(fun z_v3=>K .norm (qe [(0,(.str v0)),(1,(.str v1)),(2,(.int .i64 v2)),(3,(.int .i64 z_v3))]) (qd []))
def qfi (v0 v1:LU)(v2 v3:Int)(kn:Int->Option (List AV)):Option (List AV):=
 (bif(decide (v3<0))then(oB (qs4 v0 v1) fun r1=>(kn (i64.wrap (r1+1))))else(kn v3))
def qpj:=hull (qfi)
theorem qv4:qpj=qfi:=qa _
def qxq:SubB Tryz.prog (TIof Tryz.prog) 66 0 (kret [.t 8] (decX (.one (.sl 1)) fun z=>aL z)):=jnB Tryz.f92 23 (.s .z (.s (.r [(2,.c qbaz.b)] [.sel [0,1,2,3] []]) (.v [.sel [0,1,2,3] []]))) S11_ (qfi) (fun f v K=>f (v.s 0 0) (v.s 4 0) (v.i 8 0) (v.i 12 0) (qv3 (v.s 0 0) (v.s 4 0) (v.i 8 0) K))
def qlq (K:Ex->Env->Mem->Option (List AV)):=(fun z_v0 z_v10 z_a0=>K (.exit 0) (qe [(0,(.str z_v0)),(9,(.own 0 z_a0.length)),(10,(.int .i64 z_v10))]) (qd [(some (.arr true 1 z_a0))]))
def qdg (v0 v1:LU)(v2 v3 v10:Int)(a0:LA)(next:(List UInt8)->Int->(List AV)->Option (List AV))(kx0:(List UInt8)->Int->(List AV)->Option (List AV)):Option (List AV):=
 (bif(decide (v10<v3))then(oB (qnm v0 v1) fun r1=>(bif(decide (r1<0))then(kx0 v0 v10 a0)else(oB (cutI v0 none (some (i64.wrap (r1+v2)))) fun s2=>(bif hd a0 a0.length then(bif decide (0<=v10/\v10<a0.length)then(bif hd a0 a0.length then(oB (a0[v10.toNat]?) fun y3=>(oB (putE y3 0 1 [(.str s2)]) fun z4=>(oB (cutI v0 (some (i64.wrap (r1+(v1.length:Int)))) none) fun s5=>(bif hd (a0.set v10.toNat z4) a0.length then(next s5 (i64.wrap (v10+1)) (a0.set v10.toNat z4))else none))))else none)else none)else none))))else(kx0 v0 v10 a0))
def qb0 (v1:LU)(v2 v3:Int)(kx0:(List UInt8)->Int->(List AV)->Option (List AV)):Nat->(List UInt8)->Int->(List AV)->Option (List AV)
 |0=>(fun _ _ _=>none)
 |n+1=>(fun v0 v10 a0=>qdg v0 v1 v2 v3 v10 a0 (qb0 v1 v2 v3 kx0 n) kx0)
def qpk:=hull (qb0)
theorem qv5:qpk=qb0:=qa _
def qxr:SubB Tryz.prog (TIof Tryz.prog) 66 0 (kret [.t 8] (decX (.one (.sl 1)) fun z=>aL z)):=lpB Tryz.f92 2303 (.s (.s .z (.s .z (.v [.sel [0,9,10] [0]]))) (.b (.s (.r [(2,.c qwg.b)] []) (.s (.s .z (.s (.v [.sel [0,9,10] [0]]) .z)) (.s .z (.s .z (.v [.hd 9,.sel [0,1,2,3,9,10] [0]]))))))) S12_ (qb0) (fun f v K n=>f (v.s 4 0) (v.i 8 0) (v.i 12 0) (qlq K) n) (fun v f K=>qdg (v.s 0 0) (v.s 4 0) (v.i 8 0) (v.i 12 0) (v.i 40 0) (v.r 0) f (qlq K)) (fun f v=>f (v.s 0 0) (v.i 40 0) (v.r 0)) (fun k v=>(fun z0 z1 z2=>k (((v.us 0 0 z0).ui 40 0 z1).ur 0 z2)))
def qhh (v0 v1:LU)(v2 v3:Int):Option (List AV):=
 (bif(v3==0)then(some ([]:List AV))else(bif(v1==([]:List UInt8))then none else(qpj v0 v1 v2 v3 (fun v3q1=>(bif decide (0<=(if(i64.wrap ((v0.length:Int)+1))<v3q1 then(i64.wrap ((v0.length:Int)+1))else v3q1)/\(if(i64.wrap ((v0.length:Int)+1))<v3q1 then(i64.wrap ((v0.length:Int)+1))else v3q1)<=(if(i64.wrap ((v0.length:Int)+1))<v3q1 then(i64.wrap ((v0.length:Int)+1))else v3q1)/\(if(i64.wrap ((v0.length:Int)+1))<v3q1 then(i64.wrap ((v0.length:Int)+1))else v3q1)*16<=281474976710656)then(bif(hd (List.replicate (if(i64.wrap ((v0.length:Int)+1))<v3q1 then(i64.wrap ((v0.length:Int)+1))else v3q1).toNat ((.str ([]:List UInt8)):AV)) ((List.replicate (if(i64.wrap ((v0.length:Int)+1))<v3q1 then(i64.wrap ((v0.length:Int)+1))else v3q1).toNat ((.str ([]:List UInt8)):AV)).length)&&true)then(qpk v1 v2 (i64.wrap ((if(i64.wrap ((v0.length:Int)+1))<v3q1 then(i64.wrap ((v0.length:Int)+1))else v3q1)-1)) (fun v0q2 v10q3 a0q4=>(bif hd a0q4 a0q4.length then(bif decide (0<=v10q3/\v10q3<a0q4.length)then(bif hd a0q4 a0q4.length then(oB (a0q4[v10q3.toNat]?) fun y5=>(oB (putE y5 0 1 [(.str v0q2)]) fun z6=>(bif hd (a0q4.set v10q3.toNat z6) a0q4.length then(oB (cutI (a0q4.set v10q3.toNat z6) none (some (i64.wrap (v10q3+1)))) fun s7=>(some s7))else none)))else none)else none)else none)) FU v0 0 (List.replicate (if(i64.wrap ((v0.length:Int)+1))<v3q1 then(i64.wrap ((v0.length:Int)+1))else v3q1).toNat ((.str ([]:List UInt8)):AV)))else none)else none)))))
def quq:=hull qhh
theorem q3j:quq=qhh:=qa _
def q4k {R:Type}:EntF Tryz.prog R:=entB (nt:=66) (dec:=(decX (.one (.sl 1)) fun z=>aL z)) (enc:=(fun r=>.sl 1 r)) Tryz.func92 [.t 8] (hdeX fun _=>rfl) (.s .z (.s (.s .z (.s (.s .z (.v [.eta 8 (.one (.sl 1))])) .z)) (.s (.s .z (.s (.s (.r [(2,.c (eK (qbno (f:=101))))] []) .z) .z)) (.s (.sub [.sel [0,1,2,3] []] qxq []) (.s .z (.s .z (.s .z (.s .z (.s (.b (.sub [.sel [0,1,2,3,9,10] [0]] qxr [])) .z))))))))) S11_ qhh (fun f v=>f (v.s 0 0) (v.s 4 0) (v.i 8 0) (v.i 12 0))
def qk1 (v0 v1:LU):Option (List AV):=
 (oB (quq v0 v1 0 (-1)) fun r1=>(some r1))
def qnn:=hull qk1
theorem q9j:qnn=qk1:=qa _
def qwh {R:Type}:EntF Tryz.prog R:=entB (nt:=8) (dec:=(decX (.one (.sl 1)) fun z=>aL z)) (enc:=(fun r=>.sl 1 r)) Tryz.func66 [.t 4] (hdeX fun _=>rfl) (.s .z (.s (.r [(2,.k q4k.b)] []) .z)) S8_ qk1 (fun f v=>f (v.s 0 0) (v.s 4 0))
def S13_:Shp:=⟨[(0,.one (.l .s)),(4,.one (.l (.i .u8))),(13,.one (.l (.i .i64))),(14,.one (.l (.i .i64)))],[]⟩
def S14_:Shp:=⟨[(0,.one (.l .s)),(13,.one (.l (.i .i64))),(14,.one (.l (.i .i64)))],[]⟩
def S15_:Shp:=⟨[(0,.one (.l .s))],[]⟩
def qx9 (v0:LU)(v13 v14:Int)(K:Ex->Env->Mem->Option Bool):=(fun z_v41=>K .norm (qe [(0,(.str v0)),(13,(.int .i64 v13)),(14,(.int .i64 v14)),(41,(.bool z_v41))]) (qd []))
def qf8 (v0:LU)(v4 v13 v14:Int)(kn:Bool->Option Bool):Option Bool:=
 (bif((decide (v4<97))||(decide (v4>122)))then(bif(decide (v4<48))then(kn ((v4 != 45)&&(v4 != 95)))else(kn (((decide (v4>57))&&(v4 != 45))&&(v4 != 95))))else(kn false))
def qlr:=hull (qf8)
theorem qya:qlr=qf8:=qa _
def q0a:SubB Tryz.prog (TIof Tryz.prog) 43 0 (kret [.t 2] decB):=jnB Tryz.f81 11467 (.r [(3,.g 2),(15,.g 2),(19,.g 2)] [.sel [0,13,14,41] []]) S13_ (qf8) (fun f v K=>f (v.s 0 0) (v.i 16 0) (v.i 52 0) (v.i 56 0) (qx9 (v.s 0 0) (v.i 52 0) (v.i 56 0) K))
def qm9 (K:Ex->Env->Mem->Option Bool):=(fun(_:Unit)=>K (.exit 0) (qe []) (qd []))
def qd8 (v0:LU)(v13 v14:Int)(next:Int->Option Bool)(kx0:Unit->Option Bool):Option Bool:=
 (bif(decide (v14<v13))then(oB (ixB v0 v14) fun c1=>(qlr v0 (c1.toNat:Int) v13 v14 (fun v41q2=>(bif v41q2 then(some false)else(next (i64.wrap (v14+1)))))))else(kx0 ()))
def qd9 (v0:LU)(v13:Int)(kx0:Unit->Option Bool):Nat->Int->Option Bool
 |0=>(fun _=>none)
 |n+1=>(fun v14=>qd8 v0 v13 v14 (qd9 v0 v13 kx0 n) kx0)
def qse:=hull (qd9)
theorem qyb:qse=qd9:=qa _
def q0b:SubB Tryz.prog (TIof Tryz.prog) 43 0 (kret [.t 2] decB):=lpB Tryz.f81 75 (.s .z (.s (.s .z (.v [.sel [] []])) (.s (.b (.s .z (.s .z (.s (.sub [.sel [0,4,13,14] []] q0a []) .z)))) (.v [.sel [0,13,14] []])))) S14_ (qd9) (fun f v K n=>f (v.s 0 0) (v.i 52 0) (qm9 K) n) (fun v f K=>qd8 (v.s 0 0) (v.i 52 0) (v.i 56 0) f (qm9 K)) (fun f v=>f (v.i 56 0)) (fun k v=>(fun z0=>k (v.ui 56 0 z0)))
def qjg (v0:LU):Option Bool:=
 (bif((v0==([]:List UInt8))||(decide ((v0.length:Int)>63)))then(some false)else(qse v0 (v0.length:Int) (fun(_:Unit)=>(some true)) FU 0))
def qqy:=hull qjg
theorem q7q:qqy=qjg:=qa _
def q9k {R:Type}:EntF Tryz.prog R:=entB (nt:=43) (dec:=decB) (enc:=AV.bool) Tryz.func81 [.t 2] hdeB (.s .z (.s (.s (.r [(3,.g 3)] []) .z) (.s (.s .z (.b (.sub [.sel [0,13,14] []] q0b []))) .z))) S15_ qjg (fun f v=>f (v.s 0 0))
def S16_:Shp:=⟨[(3,.one (.l (.i .i64))),(4,.one (.l .s)),(20,.one (.l (.sl 1))),(21,.one (.l (.i .i64))),(22,.one (.l (.i .i64)))],[]⟩
def S17_:Shp:=⟨[(20,.one (.l (.sl 1))),(21,.one (.l (.i .i64))),(22,.one (.l (.i .i64)))],[]⟩
def q4l (v0:LU)(K:Ex->Env->Mem->Option Bool):=(fun z_v14=>K .norm (qe [(0,(.str v0)),(14,(.bool z_v14))]) (qd []))
def qij (v0:LU)(kn:Bool->Option Bool):Option Bool:=
 (bif(decide ((v0.length:Int)>=255))then(kn true)else(oB (qii v0 ([46]:List UInt8)) fun r1=>(kn (!r1))))
def qwi:=hull (qij)
theorem q4m:qwi=qij:=qa _
def q7r:SubB Tryz.prog (TIof Tryz.prog) 39 0 (kret [.t 2] decB):=jnB Tryz.f52 19 (.r [(5,.c qqo.b)] [.sel [0,14] []]) S15_ (qij) (fun f v K=>f (v.s 0 0) (q4l (v.s 0 0) K))
def q4n (v20:LA)(v21 v22:Int)(K:Ex->Env->Mem->Option Bool):=(fun z_v37=>K .norm (qe [(20,(.sl 1 v20)),(21,(.int .i64 v21)),(22,(.int .i64 v22)),(37,(.bool z_v37))]) (qd []))
def qik (v3:Int)(v4:LU)(v20:LA)(v21 v22:Int)(kn:Bool->Option Bool):Option Bool:=
 (oB (qqy v4) fun r1=>(bif(!r1)then(bif(decide (v3>0))then(kn true)else(kn (!(v4==([42]:List UInt8)))))else(kn false)))
def qwj:=hull (qik)
theorem q4o:qwj=qik:=qa _
def q7s:SubB Tryz.prog (TIof Tryz.prog) 39 0 (kret [.t 2] decB):=jnB Tryz.f52 10647 (.r [(1,.c q9k.b)] [.sel [20,21,22,37] []]) S16_ (qik) (fun f v K=>f (v.i 12 0) (v.s 16 0) (v.l 80 0) (v.i 84 0) (v.i 88 0) (q4n (v.l 80 0) (v.i 84 0) (v.i 88 0) K))
def qqq (K:Ex->Env->Mem->Option Bool):=(fun(_:Unit)=>K (.exit 0) (qe []) (qd []))
def qf2 (v20:LA)(v21 v22:Int)(next:Int->Option Bool)(kx0:Unit->Option Bool):Option Bool:=
 (bif(decide (v22<v21))then(oB (ixB v20 v22) fun y1=>(bif fitC [.s] y1.cells then(qwj v22 (gS y1.cells 0) v20 v21 v22 (fun v37q2=>(bif v37q2 then(some false)else(next (i64.wrap (v22+1))))))else none))else(kx0 ()))
def qf3 (v20:LA)(v21:Int)(kx0:Unit->Option Bool):Nat->Int->Option Bool
 |0=>(fun _=>none)
 |n+1=>(fun v22=>qf2 v20 v21 v22 (qf3 v20 v21 kx0 n) kx0)
def qpl:=hull (qf3)
theorem q4p:qpl=qf3:=qa _
def q7t:SubB Tryz.prog (TIof Tryz.prog) 39 0 (kret [.t 2] decB):=lpB Tryz.f52 151 (.s .z (.s (.s .z (.v [.sel [] []])) (.s (.b (.s (.r [(1,.p (.etac 25 [.s]))] []) (.s (.sub [.sel [3,4,20,21,22] []] q7s []) .z))) (.v [.sel [20,21,22] []])))) S17_ (qf3) (fun f v K n=>f (v.l 80 0) (v.i 84 0) (qqq K) n) (fun v f K=>qf2 (v.l 80 0) (v.i 84 0) (v.i 88 0) f (qqq K)) (fun f v=>f (v.i 88 0)) (fun k v=>(fun z0=>k (v.ui 88 0 z0)))
def qno (v0:LU):Option Bool:=
 (bif(v0==([46]:List UInt8))then(some true)else(qwi v0 (fun v14q1=>(bif v14q1 then(some false)else(oB (cutI v0 none (some (i64.wrap ((v0.length:Int)-1)))) fun s2=>(oB (qnn s2 ([46]:List UInt8)) fun r3=>(qpl r3 (r3.length:Int) (fun(_:Unit)=>(some true)) FU 0)))))))
def qc1:=hull qno
theorem qbde:qc1=qno:=qa _
def qdl {R:Type}:EntF Tryz.prog R:=entB (nt:=39) (dec:=decB) (enc:=AV.bool) Tryz.func52 [.t 2] hdeB (.s .z (.s .z (.s (.s (.sub [.sel [0] []] q7r []) .z) (.s (.s (.r [(5,.k qwh.b)] []) (.b (.sub [.sel [20,21,22] []] q7t []))) .z)))) S15_ qno (fun f v=>f (v.s 0 0))
def qnp:Option (List AV):=
 (bif hd ([(.agg [(.int .i64 1),(.str ([65]:List UInt8)),(.str ([52]:List UInt8))]),(.agg [(.int .i64 2),(.str ([78,83]:List UInt8)),(.str ([104]:List UInt8))]),(.agg [(.int .i64 5),(.str ([67,78,65,77,69]:List UInt8)),(.str ([104]:List UInt8))]),(.agg [(.int .i64 6),(.str ([83,79,65]:List UInt8)),(.str ([104,109,118,119,120,121,122]:List UInt8))]),(.agg [(.int .i64 12),(.str ([80,84,82]:List UInt8)),(.str ([104]:List UInt8))]),(.agg [(.int .i64 15),(.str ([77,88]:List UInt8)),(.str ([65,104]:List UInt8))]),(.agg [(.int .i64 16),(.str ([84,88,84]:List UInt8)),(.str ([116]:List UInt8))]),(.agg [(.int .i64 28),(.str ([65,65,65,65]:List UInt8)),(.str ([54]:List UInt8))]),(.agg [(.int .i64 33),(.str ([83,82,86]:List UInt8)),(.str ([65,66,67,104]:List UInt8))]),(.agg [(.int .i64 39),(.str ([68,78,65,77,69]:List UInt8)),(.str ([104]:List UInt8))]),(.agg [(.int .i64 43),(.str ([68,83]:List UInt8)),(.str ([65,98,99,114]:List UInt8))]),(.agg [(.int .i64 46),(.str ([82,82,83,73,71]:List UInt8)),(.str ([65,115,98,120,121,122,70,104,114]:List UInt8))]),(.agg [(.int .i64 47),(.str ([78,83,69,67]:List UInt8)),(.str ([104,110]:List UInt8))]),(.agg [(.int .i64 48),(.str ([68,78,83,75,69,89]:List UInt8)),(.str ([65,98,99,114]:List UInt8))])]:List AV) (([(.agg [(.int .i64 1),(.str ([65]:List UInt8)),(.str ([52]:List UInt8))]),(.agg [(.int .i64 2),(.str ([78,83]:List UInt8)),(.str ([104]:List UInt8))]),(.agg [(.int .i64 5),(.str ([67,78,65,77,69]:List UInt8)),(.str ([104]:List UInt8))]),(.agg [(.int .i64 6),(.str ([83,79,65]:List UInt8)),(.str ([104,109,118,119,120,121,122]:List UInt8))]),(.agg [(.int .i64 12),(.str ([80,84,82]:List UInt8)),(.str ([104]:List UInt8))]),(.agg [(.int .i64 15),(.str ([77,88]:List UInt8)),(.str ([65,104]:List UInt8))]),(.agg [(.int .i64 16),(.str ([84,88,84]:List UInt8)),(.str ([116]:List UInt8))]),(.agg [(.int .i64 28),(.str ([65,65,65,65]:List UInt8)),(.str ([54]:List UInt8))]),(.agg [(.int .i64 33),(.str ([83,82,86]:List UInt8)),(.str ([65,66,67,104]:List UInt8))]),(.agg [(.int .i64 39),(.str ([68,78,65,77,69]:List UInt8)),(.str ([104]:List UInt8))]),(.agg [(.int .i64 43),(.str ([68,83]:List UInt8)),(.str ([65,98,99,114]:List UInt8))]),(.agg [(.int .i64 46),(.str ([82,82,83,73,71]:List UInt8)),(.str ([65,115,98,120,121,122,70,104,114]:List UInt8))]),(.agg [(.int .i64 47),(.str ([78,83,69,67]:List UInt8)),(.str ([104,110]:List UInt8))]),(.agg [(.int .i64 48),(.str ([68,78,83,75,69,89]:List UInt8)),(.str ([65,98,99,114]:List UInt8))])]:List AV).length)then(some ([(.agg [(.int .i64 1),(.str ([65]:List UInt8)),(.str ([52]:List UInt8))]),(.agg [(.int .i64 2),(.str ([78,83]:List UInt8)),(.str ([104]:List UInt8))]),(.agg [(.int .i64 5),(.str ([67,78,65,77,69]:List UInt8)),(.str ([104]:List UInt8))]),(.agg [(.int .i64 6),(.str ([83,79,65]:List UInt8)),(.str ([104,109,118,119,120,121,122]:List UInt8))]),(.agg [(.int .i64 12),(.str ([80,84,82]:List UInt8)),(.str ([104]:List UInt8))]),(.agg [(.int .i64 15),(.str ([77,88]:List UInt8)),(.str ([65,104]:List UInt8))]),(.agg [(.int .i64 16),(.str ([84,88,84]:List UInt8)),(.str ([116]:List UInt8))]),(.agg [(.int .i64 28),(.str ([65,65,65,65]:List UInt8)),(.str ([54]:List UInt8))]),(.agg [(.int .i64 33),(.str ([83,82,86]:List UInt8)),(.str ([65,66,67,104]:List UInt8))]),(.agg [(.int .i64 39),(.str ([68,78,65,77,69]:List UInt8)),(.str ([104]:List UInt8))]),(.agg [(.int .i64 43),(.str ([68,83]:List UInt8)),(.str ([65,98,99,114]:List UInt8))]),(.agg [(.int .i64 46),(.str ([82,82,83,73,71]:List UInt8)),(.str ([65,115,98,120,121,122,70,104,114]:List UInt8))]),(.agg [(.int .i64 47),(.str ([78,83,69,67]:List UInt8)),(.str ([104,110]:List UInt8))]),(.agg [(.int .i64 48),(.str ([68,78,83,75,69,89]:List UInt8)),(.str ([65,98,99,114]:List UInt8))])]:List AV))else none)
def qrw:=hull qnp
theorem qbdf:qrw=qnp:=qa _
def q2t {R:Type}:EntF Tryz.prog R:=entB (nt:=16) (dec:=(decF true 3)) (enc:=(AV.fr true 3)) Tryz.func118 [.t 0] hdeF (.z) (⟨[],[]⟩:Shp) qnp (fun f v=>f)
def qi0:List LT:=[(.i .i64),.s,.s]
def qba0 (x0:Int)(x1 x2:LU):List AV:=[.int .i64 x0,.str x1,.str x2]
def S18_:Shp:=⟨[(0,.one (.l (.i .i64))),(2,.one (.ptr 0 0)),(6,.one (.l (.sl 3))),(7,.one (.l (.i .i64))),(8,.one (.l (.i .i64)))],[.box true (lk qi0)]⟩
def qyc:AV->Option (AV×Bool):=decN [(.st [(.i .i64),.s,.s]),(.one .b)] fun z=>((gC (tpL z) 0),aB (gC (tpL z) 1))
def qtm (Aa:Int)(Ab Ac:LU)(K:Ex->Env->Mem->Option (AV×Bool)):=(fun(_:Unit)=>K (.exit 0) (qe [(2,(.ptr 0 0))]) (qd [(some (.box true (qba0 Aa Ab Ac)))]))
def qhi (v0:Int)(v6:LA)(v7 v8 Aa:Int)(Ab Ac:LU)(next:Int->Option (AV×Bool))(kx0:Unit->Option (AV×Bool)):Option (AV×Bool):=
 (bif(decide (v8<v7))then(oB (ixB v6 v8) fun y1=>(bif fitC qi0 y1.cells then(bif((gI y1.cells 0)==v0)then(some ((.agg [(.int .i64 (gI y1.cells 0)),(.str (gS y1.cells 1)),(.str (gS y1.cells 2))]),true))else(next (i64.wrap (v8+1))))else none))else(kx0 ()))
def qhj (v0:Int)(v6:LA)(v7 Aa:Int)(Ab Ac:LU)(kx0:Unit->Option (AV×Bool)):Nat->Int->Option (AV×Bool)
 |0=>(fun _=>none)
 |n+1=>(fun v8=>qhi v0 v6 v7 v8 Aa Ab Ac (qhj v0 v6 v7 Aa Ab Ac kx0 n) kx0)
def q2u:=hull (qhj)
theorem q9l:q2u=qhj:=qa _
def qba1:SubB Tryz.prog (TIof Tryz.prog) 19 0 (kret [(.cell 2 true 3),.t 3] qyc):=lpB Tryz.f104 37 (.s .z (.s (.s .z (.v [.sel [2] [0]])) (.s (.b (.s (.r [(0,.p (.etac 10 qi0))] []) .z)) (.v [.sel [0,2,6,7,8] [0]])))) S18_ (qhj) (fun f v K n=>f (v.i 0 0) (v.l 24 0) (v.i 28 0) (v.i 3 0) (v.s 3 1) (v.s 3 2) (qtm (v.i 3 0) (v.s 3 1) (v.s 3 2) K) n) (fun v f K=>qhi (v.i 0 0) (v.l 24 0) (v.i 28 0) (v.i 32 0) (v.i 3 0) (v.s 3 1) (v.s 3 2) f (qtm (v.i 3 0) (v.s 3 1) (v.s 3 2) K)) (fun f v=>f (v.i 32 0)) (fun k v=>(fun z0=>k (v.ui 32 0 z0)))
def qpm (v0:Int):Option (AV×Bool):=
 (oB (qrw) fun r1=>(q2u v0 r1 (r1.length:Int) 0 ([]:List UInt8) ([]:List UInt8) (fun(_:Unit)=>(some ((.agg [(.int .i64 0),(.str ([]:List UInt8)),(.str ([]:List UInt8))]),false))) FU 0))
def qba2:=hull qpm
theorem qbgi:qba2=qpm:=qa _
def qbhf {R:Type}:EntF Tryz.prog R:=entB (nt:=19) (dec:=qyc) (enc:=(fun r=>.tup [qcf (.st [(.i .i64),.s,.s]) r.1,.bool r.2])) Tryz.func104 [(.cell 2 true 3),.t 3] (hdeN fun _=>rfl) (.s .z (.s (.s (.r [(0,.k q2t.b)] []) (.b (.sub [.sel [0,2,6,7,8] [0]] qba1 []))) .z)) S0_ qpm (fun f v=>f (v.i 0 0))
def qnq (v0:Int):Option Bool:=
 (oB (qba2 v0) fun r1=>(some r1.2))
def qrx:=hull qnq
theorem qbdg:qrx=qnq:=qa _
def q2v {R:Type}:EntF Tryz.prog R:=entB (nt:=11) (dec:=decB) (enc:=AV.bool) Tryz.func93 [.t 2] hdeB (.s .z (.s (.r [(1,.c qbhf.b)] []) .z)) S0_ qnq (fun f v=>f (v.i 0 0))
def qbla:List LT:=[.b,(.i .u64),(.i .u64)]
def S19_:Shp:=⟨[(0,.st (lk qbla))],[]⟩
def qpn (Ai:Bool)(Aj Ak:Int):Option Bool:=
 (bif Ai then(some true)else(bif(Aj==0)then(some (decide (Ak<=4294967295)))else(some false)))
def q0c:=hull qpn
theorem qbgj:q0c=qpn:=qa _
def qbhg {R:Type}:EntF Tryz.prog R:=entB (nt:=15) (dec:=decB) (enc:=AV.bool) Tryz.func105 [.t 2] hdeB (.z) S19_ qpn (fun f v=>f (v.b 1 0) (v.i 1 1) (v.i 1 2))
def qe1 (v0 v1:LU):Option Bool:=
 (bif(decide ((v0.length:Int)>=(v1.length:Int)))then(oB (cutI v0 none (some (v1.length:Int))) fun s1=>(some (s1==v1)))else(some false))
def qow:=hull qe1
theorem qur:qow=qe1:=qa _
def qv6 {R:Type}:EntF Tryz.prog R:=entB (nt:=18) (dec:=decB) (enc:=AV.bool) Tryz.func127 [.t 4] hdeB (.z) S8_ qe1 (fun f v=>f (v.s 0 0) (v.s 4 0))
def qg0 (v0 v1:LU):Option Bool:=
 (oB (qow v0 v1) fun r1=>(some r1))
def qtn:=hull qg0
theorem q0d:qtn=qg0:=qa _
def q3k {R:Type}:EntF Tryz.prog R:=entB (nt:=8) (dec:=decB) (enc:=AV.bool) Tryz.func119 [.t 4] hdeB (.s .z (.s (.r [(2,.c qv6.b)] []) .z)) S8_ qg0 (fun f v=>f (v.s 0 0) (v.s 4 0))
def qpo (v0:LU):Option Bool:=
 (oB (qc1 v0) fun r1=>(bif r1 then(oB (qtn v0 ([42]:List UInt8)) fun r2=>(some (!r2)))else(some false)))
def qhk:=hull qpo
theorem qbgk:qhk=qpo:=qa _
def qi1 {R:Type}:EntF Tryz.prog R:=entB (nt:=10) (dec:=decB) (enc:=AV.bool) Tryz.func106 [.t 2] hdeB (.s .z (.s (.r [(1,.c qdl.b),(4,.c q3k.b)] []) .z)) S15_ qpo (fun f v=>f (v.s 0 0))
def qqz (v0:Int):Option Bool:=
 (some ((decide (v0>=0))&&(decide (v0<4294967296))))
def qus:=hull qqz
theorem qba3:qus=qqz:=qa _
def qbdh {R:Type}:EntF Tryz.prog R:=entB (nt:=9) (dec:=decB) (enc:=AV.bool) Tryz.func107 [.t 2] hdeB (.s .z (.s (.r [(3,.g 2)] []) .z)) S0_ qqz (fun f v=>f (v.i 0 0))
def S20_:Shp:=⟨[(0,.one (.l (.i .i64))),(1,.one (.l (.i .i64)))],[]⟩
def qq0 (v0 v1:Int):Option Bool:=
 (some ((decide (v0>=0))&&(decide (v0<=v1))))
def qt:=hull qq0
theorem qba4:qt=qq0:=qa _
def qu {R:Type}:EntF Tryz.prog R:=entB (nt:=12) (dec:=decB) (enc:=AV.bool) Tryz.func108 [.t 4] hdeB (.s .z (.s (.r [(3,.g 3)] []) .z)) S20_ qq0 (fun f v=>f (v.i 0 0) (v.i 4 0))
def qut (v0:LU):Option Bool:=
 (some ((decide ((v0.length:Int)>=1))&&(decide ((v0.length:Int)<=255))))
def qpp:=hull qut
theorem qbgl:qpp=qut:=qa _
def quu {R:Type}:EntF Tryz.prog R:=entB (nt:=11) (dec:=decB) (enc:=AV.bool) Tryz.func109 [.t 2] hdeB (.s .z (.s (.r [(4,.g 3)] []) .z)) S15_ qut (fun f v=>f (v.s 0 0))
def S21_:Shp:=⟨[(1,.one (.l (.i .u64))),(4,.one (.l (.sl 3))),(5,.one (.l (.i .i64))),(6,.one (.l (.i .i64)))],[]⟩
def quv (K:Ex->Env->Mem->Option Int):=(fun z_v1=>K (.exit 0) (qe [(1,(.int .u64 z_v1))]) (qd []))
def qi2 (v1:Int)(v4:LA)(v5 v6:Int)(next:Int->Int->Option Int)(kx0:Int->Option Int):Option Int:=
 (bif(decide (v6<v5))then(oB (ixB v4 v6) fun y1=>(bif fitC qi0 y1.cells then(bif decide ((gI y1.cells 0)<0)then none else(next (qgn .or .u64 v1 (u64.wrap (1*2^min (gI y1.cells 0).toNat u64.bits))) (i64.wrap (v6+1))))else none))else(kx0 v1))
def qi3 (v4:LA)(v5:Int)(kx0:Int->Option Int):Nat->Int->Int->Option Int
 |0=>(fun _ _=>none)
 |n+1=>(fun v1 v6=>qi2 v1 v4 v5 v6 (qi3 v4 v5 kx0 n) kx0)
def q4q:=hull (qi3)
theorem qba5:q4q=qi3:=qa _
def qbdi:SubB Tryz.prog (TIof Tryz.prog) 17 0 (kret [.t 0] (decI .u64)):=lpB Tryz.f110 75 (.s .z (.s (.s .z (.v [.sel [1] []])) (.s (.b (.s (.r [(0,.p (.etac 8 qi0))] []) .z)) (.v [.sel [1,4,5,6] []])))) S21_ (qi3) (fun f v K n=>f (v.l 16 0) (v.i 20 0) (quv K) n) (fun v f K=>qi2 (v.i 4 0) (v.l 16 0) (v.i 20 0) (v.i 24 0) f (quv K)) (fun f v=>f (v.i 4 0) (v.i 24 0)) (fun k v=>(fun z0 z1=>k ((v.ui 4 0 z0).ui 24 0 z1)))
def qry:Option Int:=
 (oB (qrw) fun r1=>(q4q r1 (r1.length:Int) (fun v1q2=>(some v1q2)) FU 0 0))
def q4r:=hull qry
theorem qbhh:q4r=qry:=qa _
def qbjo {R:Type}:EntF Tryz.prog R:=entB (nt:=17) (dec:=(decI .u64)) (enc:=(AV.int .u64)) Tryz.func110 [.t 0] hdeI (.s .z (.s .z (.s (.s (.r [(0,.k q2t.b)] []) (.b (.sub [.sel [1,4,5,6] []] qbdi []))) .z))) (⟨[],[]⟩:Shp) qry (fun f v=>f)
def qdm (x0:Bool)(x1 x2:Int)(x3 x4 x5:LU)(x6 x7 x8 x9 x10 x11 x12:Int):List AV:=[.bool x0,.int .u64 x1,.int .u64 x2,.str x3,.str x4,.str x5,.int .i64 x6,.int .i64 x7,.int .i64 x8,.int .i64 x9,.int .i64 x10,.int .i64 x11,.int .u64 x12]
def S22_:Shp:=⟨[(0,.one (.l (.i .i64))),(3,.one (.ptr 0 0)),(5,.one (.l (.i .i64)))],[.box true (lk qbb)]⟩
def S23_:Shp:=⟨[(3,.one (.ptr 0 0)),(5,.one (.l (.i .i64)))],[.box true (lk qbb)]⟩
def S24_:Shp:=⟨[(3,.one (.ptr 0 0))],[.box true (lk qbb)]⟩
def S25_:Shp:=⟨[(0,.one (.l (.i .i64))),(1,.st (lk qbb))],[]⟩
def q7u (v0 v5:Int)(Aa:Bool)(Ab Ac:Int)(Ad Aq Ar:LU)(As At Au Av Aw Ax Ay:Int)(K:Ex->Env->Mem->Option Bool):=(fun z_v6=>K .norm (qe [(0,(.int .i64 v0)),(3,(.ptr 0 0)),(5,(.int .i64 v5)),(6,(.bool z_v6))]) (qd [(some (.box true (qdm Aa Ab Ac Ad Aq Ar As At Au Av Aw Ax Ay)))]))
def qjh (v0 v5:Int)(Aa:Bool)(Ab Ac:Int)(Ad Aq Ar:LU)(As At Au Av Aw Ax Ay:Int)(kn:Bool->Option Bool):Option Bool:=
 (bif(v5==1)then(kn true)else(kn (v5==28)))
def qyd:=hull (qjh)
theorem q7v:qyd=qjh:=qa _
def q9m:SubB Tryz.prog (TIof Tryz.prog) 324 0 (kret [.t 4] decB):=jnB Tryz.f94 37 (.s .z (.s (.v [.sel [0,3,5,6] [0]]) (.v [.sel [0,3,5,6] [0]]))) S22_ (qjh) (fun f v K=>f (v.i 0 0) (v.i 20 0) (v.b 3 0) (v.i 3 1) (v.i 3 2) (v.s 3 3) (v.s 3 4) (v.s 3 5) (v.i 3 6) (v.i 3 7) (v.i 3 8) (v.i 3 9) (v.i 3 10) (v.i 3 11) (v.i 3 12) (q7u (v.i 0 0) (v.i 20 0) (v.b 3 0) (v.i 3 1) (v.i 3 2) (v.s 3 3) (v.s 3 4) (v.s 3 5) (v.i 3 6) (v.i 3 7) (v.i 3 8) (v.i 3 9) (v.i 3 10) (v.i 3 11) (v.i 3 12) K))
def q4s (v5:Int)(Aa:Bool)(Ab Ac:Int)(Ad Aq Ar:LU)(As At Au Av Aw Ax Ay:Int)(K:Ex->Env->Mem->Option Bool):=(fun z_v27=>K .norm (qe [(3,(.ptr 0 0)),(5,(.int .i64 v5)),(27,(.bool z_v27))]) (qd [(some (.box true (qdm Aa Ab Ac Ad Aq Ar As At Au Av Aw Ax Ay)))]))
def qil (v5:Int)(Aa:Bool)(Ab Ac:Int)(Ad Aq Ar:LU)(As At Au Av Aw Ax Ay:Int)(kn:Bool->Option Bool):Option Bool:=
 (bif(v5==2)then(kn true)else(bif(v5==5)then(kn true)else(bif(v5==12)then(kn true)else(kn (v5==39)))))
def qwk:=hull (qil)
theorem q4t:qwk=qil:=qa _
def q7w:SubB Tryz.prog (TIof Tryz.prog) 324 0 (kret [.t 4] decB):=jnB Tryz.f94 181 (.s .z (.s (.v [.sel [3,5,27] [0]]) (.s .z (.s (.v [.sel [3,5,27] [0]]) (.s .z (.s (.v [.sel [3,5,27] [0]]) (.v [.sel [3,5,27] [0]]))))))) S23_ (qil) (fun f v K=>f (v.i 20 0) (v.b 3 0) (v.i 3 1) (v.i 3 2) (v.s 3 3) (v.s 3 4) (v.s 3 5) (v.i 3 6) (v.i 3 7) (v.i 3 8) (v.i 3 9) (v.i 3 10) (v.i 3 11) (v.i 3 12) (q4s (v.i 20 0) (v.b 3 0) (v.i 3 1) (v.i 3 2) (v.s 3 3) (v.s 3 4) (v.s 3 5) (v.i 3 6) (v.i 3 7) (v.i 3 8) (v.i 3 9) (v.i 3 10) (v.i 3 11) (v.i 3 12) K))
def q4u (K:Ex->Env->Mem->Option Bool):=(fun z_v4=>K .norm (qe [(4,(.bool z_v4))]) (qd []))
def qim (Aa:Bool)(Ab Ac:Int)(Ad Aq Ar:LU)(As At Au Av Aw Ax Ay:Int)(kn:Bool->Option Bool):Option Bool:=
 (bif((Aa==false)&&((Ab==0)&&((Ac==0)&&((Ad==Ad)&&((Aq==Aq)&&((Ar==([]:List UInt8))&&((As==As)&&((At==At)&&((Au==Au)&&((Av==Av)&&((Aw==Aw)&&((Ax==0)&&((Ay==0)&&true)))))))))))))then(oB (qhk Ad) fun r1=>(bif r1 then(oB (qhk Aq) fun r2=>(bif r2 then(oB (qus As) fun r3=>(bif r3 then(oB (qt At 2147483647) fun r4=>(bif r4 then(oB (qt Au 2147483647) fun r5=>(bif r5 then(oB (qt Av 2147483647) fun r6=>(bif r6 then(oB (qt Aw 2147483647) fun r7=>(kn r7))else(kn false)))else(kn false)))else(kn false)))else(kn false)))else(kn false)))else(kn false)))else(kn false))
def qwl:=hull (qim)
theorem q4v:qwl=qim:=qa _
def q7x:SubB Tryz.prog (TIof Tryz.prog) 324 0 (kret [.t 4] decB):=jnB Tryz.f94 2549 (.r [(20,.c qi1.b),(25,.c qi1.b),(30,.c qbdh.b),(35,.c qu.b),(40,.c qu.b),(45,.c qu.b),(50,.c qu.b)] [.sel [4] []]) S24_ (qim) (fun f v K=>f (v.b 3 0) (v.i 3 1) (v.i 3 2) (v.s 3 3) (v.s 3 4) (v.s 3 5) (v.i 3 6) (v.i 3 7) (v.i 3 8) (v.i 3 9) (v.i 3 10) (v.i 3 11) (v.i 3 12) (q4u K))
def q4w (K:Ex->Env->Mem->Option Bool):=(fun z_v4=>K .norm (qe [(4,(.bool z_v4))]) (qd []))
def qin (Aa:Bool)(Ab Ac:Int)(Ad Aq Ar:LU)(As At Au Av Aw Ax Ay:Int)(kn:Bool->Option Bool):Option Bool:=
 (bif((Aa==false)&&((Ab==0)&&((Ac==0)&&((Ad==Ad)&&((Aq==([]:List UInt8))&&((Ar==Ar)&&((As==As)&&((At==At)&&((Au==Au)&&((Av==Av)&&((Aw==Aw)&&((Ax==Ax)&&((Ay==0)&&true)))))))))))))then(oB (qpp Ar) fun r1=>(bif r1 then(oB (qhk Ad) fun r2=>(bif r2 then(oB (qrx As) fun r3=>(bif(r3&&(As != 46))then(oB (qt At 127) fun r4=>(bif r4 then(oB (qt Au 2147483647) fun r5=>(bif r5 then(oB (qt Av 4294967295) fun r6=>(bif r6 then(oB (qt Aw 4294967295) fun r7=>(bif r7 then(oB (qt Ax 65535) fun r8=>(kn r8))else(kn false)))else(kn false)))else(kn false)))else(kn false)))else(kn false)))else(kn false)))else(kn false)))else(kn false))
def qwm:=hull (qin)
theorem q4x:qwm=qin:=qa _
def q7y:SubB Tryz.prog (TIof Tryz.prog) 324 0 (kret [.t 4] decB):=jnB Tryz.f94 2621429 (.r [(22,.c quu.b),(27,.c qi1.b),(32,.c q2v.b),(35,.g 3),(42,.c qu.b),(47,.c qu.b),(52,.c qu.b),(57,.c qu.b),(62,.c qu.b)] [.sel [4] []]) S24_ (qin) (fun f v K=>f (v.b 3 0) (v.i 3 1) (v.i 3 2) (v.s 3 3) (v.s 3 4) (v.s 3 5) (v.i 3 6) (v.i 3 7) (v.i 3 8) (v.i 3 9) (v.i 3 10) (v.i 3 11) (v.i 3 12) (q4w K))
def q4y (K:Ex->Env->Mem->Option Bool):=(fun z_v4=>K .norm (qe [(4,(.bool z_v4))]) (qd []))
def qio (Aa:Bool)(Ab Ac:Int)(Ad Aq Ar:LU)(As At Au Av Aw Ax Ay:Int)(kn:Bool->Option Bool):Option Bool:=
 (bif((Aa==false)&&((Ab==0)&&((Ac==0)&&((Ad==([]:List UInt8))&&((Aq==([]:List UInt8))&&((Ar==Ar)&&((As==As)&&((At==At)&&((Au==Au)&&((Av==0)&&((Aw==0)&&((Ax==0)&&((Ay==0)&&true)))))))))))))then(oB (qpp Ar) fun r1=>(bif r1 then(bif(As==256)then(bif(At==3)then(oB (qt Au 255) fun r2=>(kn r2))else(kn false))else(bif((As==257)&&(At==3))then(oB (qt Au 255) fun r3=>(kn r3))else(kn false)))else(kn false)))else(kn false))
def qwn:=hull (qio)
theorem q4z:qwn=qio:=qa _
def q7z:SubB Tryz.prog (TIof Tryz.prog) 324 0 (kret [.t 4] decB):=jnB Tryz.f94 41943029 (.r [(14,.c quu.b),(27,.g 3),(34,.c qu.b)] [.sel [4] []]) S24_ (qio) (fun f v K=>f (v.b 3 0) (v.i 3 1) (v.i 3 2) (v.s 3 3) (v.s 3 4) (v.s 3 5) (v.i 3 6) (v.i 3 7) (v.i 3 8) (v.i 3 9) (v.i 3 10) (v.i 3 11) (v.i 3 12) (q4y K))
def qnr (v0:Int)(Am:Bool)(An Ao:Int)(Ap Az A0:LU)(A1 A2 A3 A4 A5 A6 A7:Int):Option Bool:=
 (qyd v0 v0 Am An Ao Ap Az A0 A1 A2 A3 A4 A5 A6 A7 (fun v6q1=>(bif v6q1 then(bif((Am==Am)&&((An==An)&&((Ao==Ao)&&((Ap==([]:List UInt8))&&((Az==([]:List UInt8))&&((A0==([]:List UInt8))&&((A1==0)&&((A2==0)&&((A3==0)&&((A4==0)&&((A5==0)&&((A6==0)&&((A7==0)&&true)))))))))))))then(oB (q0c Am An Ao) fun r2=>(some (r2&&((Am==(v0==28))&&true))))else(some false))else(qwk v0 Am An Ao Ap Az A0 A1 A2 A3 A4 A5 A6 A7 (fun v27q3=>(bif v27q3 then(bif((Am==false)&&((An==0)&&((Ao==0)&&((Ap==Ap)&&((Az==([]:List UInt8))&&((A0==([]:List UInt8))&&((A1==0)&&((A2==0)&&((A3==0)&&((A4==0)&&((A5==0)&&((A6==0)&&((A7==0)&&true)))))))))))))then(oB (qhk Ap) fun r4=>(some r4))else(some false))else(bif(v0==6)then(qwl Am An Ao Ap Az A0 A1 A2 A3 A4 A5 A6 A7 (fun v4q5=>(some v4q5)))else(bif(v0==15)then(bif((Am==false)&&((An==0)&&((Ao==0)&&((Ap==Ap)&&((Az==([]:List UInt8))&&((A0==([]:List UInt8))&&((A1==A1)&&((A2==0)&&((A3==0)&&((A4==0)&&((A5==0)&&((A6==0)&&((A7==0)&&true)))))))))))))then(oB (qhk Ap) fun r6=>(bif r6 then(oB (qt A1 65535) fun r7=>(some r7))else(some false)))else(some false))else(bif(v0==16)then(some (((Am==false)&&((An==0)&&((Ao==0)&&((Ap==([]:List UInt8))&&((Az==([]:List UInt8))&&((A0==A0)&&((A1==0)&&((A2==0)&&((A3==0)&&((A4==0)&&((A5==0)&&((A6==0)&&((A7==0)&&true)))))))))))))&&(decide ((A0.length:Int)<=255))))else(bif(v0==33)then(bif((Am==false)&&((An==0)&&((Ao==0)&&((Ap==Ap)&&((Az==([]:List UInt8))&&((A0==([]:List UInt8))&&((A1==A1)&&((A2==A2)&&((A3==A3)&&((A4==0)&&((A5==0)&&((A6==0)&&((A7==0)&&true)))))))))))))then(oB (qhk Ap) fun r8=>(bif r8 then(oB (qt A1 65535) fun r9=>(bif r9 then(oB (qt A2 65535) fun r10=>(bif r10 then(oB (qt A3 65535) fun r11=>(some r11))else(some false)))else(some false)))else(some false)))else(some false))else(bif(v0==43)then(bif((Am==false)&&((An==0)&&((Ao==0)&&((Ap==([]:List UInt8))&&((Az==([]:List UInt8))&&((A0==A0)&&((A1==A1)&&((A2==A2)&&((A3==A3)&&((A4==0)&&((A5==0)&&((A6==0)&&((A7==0)&&true)))))))))))))then(oB (qpp A0) fun r12=>(bif r12 then(oB (qt A1 65535) fun r13=>(bif r13 then(oB (qt A2 255) fun r14=>(bif r14 then(oB (qt A3 255) fun r15=>(some r15))else(some false)))else(some false)))else(some false)))else(some false))else(bif(v0==46)then(qwm Am An Ao Ap Az A0 A1 A2 A3 A4 A5 A6 A7 (fun v4q16=>(some v4q16)))else(bif(v0==47)then(bif((Am==false)&&((An==0)&&((Ao==0)&&((Ap==Ap)&&((Az==([]:List UInt8))&&((A0==([]:List UInt8))&&((A1==0)&&((A2==0)&&((A3==0)&&((A4==0)&&((A5==0)&&((A6==0)&&((A7==A7)&&true)))))))))))))then(oB (qc1 Ap) fun r17=>(bif r17 then(bif(A7 != 0)then(oB (q4r) fun r18=>(some ((qgn .andNot .u64 A7 r18)==0)))else(some false))else(some false)))else(some false))else(bif(v0==48)then(qwn Am An Ao Ap Az A0 A1 A2 A3 A4 A5 A6 A7 (fun v4q19=>(some v4q19)))else(some false)))))))))))))))
def qxs:=hull qnr
theorem qbdj:qxs=qnr:=qa _
def qbgm {R:Type}:EntF Tryz.prog R:=entB (nt:=324) (dec:=decB) (enc:=AV.bool) Tryz.func94 [.t 4] hdeB (.s .z (.s (.s .z (.b (.s (.sub [.sel [0,3,5] [0]] q9m []) (.s (.s (.r [(8,.c qbhg.b),(11,.g 6)] []) .z) (.s (.sub [.sel [3,5] [0]] q7w []) (.s (.s (.r [(8,.c qi1.b)] []) .z) (.s .z (.s (.s (.sub [.sel [3] [0]] q7x []) .z) (.s .z (.s (.s (.r [(10,.c qi1.b),(15,.c qu.b)] []) .z) (.s .z (.s (.s (.r [(6,.g 4)] []) .z) (.s .z (.s (.s (.r [(14,.c qi1.b),(19,.c qu.b),(24,.c qu.b),(29,.c qu.b)] []) .z) (.s .z (.s (.s (.r [(14,.c quu.b),(19,.c qu.b),(24,.c qu.b),(29,.c qu.b)] []) .z) (.s .z (.s (.s (.sub [.sel [3] [0]] q7y []) .z) (.s .z (.s (.s (.d [] [(10,.c qdl.b),(20,.c qbjo.b)] [] []) .z) (.s .z (.s (.s (.sub [.sel [3] [0]] q7z []) .z) .z)))))))))))))))))))))) .z)) S25_ qnr (fun f v=>f (v.i 0 0) (v.b 5 0) (v.i 5 1) (v.i 5 2) (v.s 5 3) (v.s 5 4) (v.s 5 5) (v.i 5 6) (v.i 5 7) (v.i 5 8) (v.i 5 9) (v.i 5 10) (v.i 5 11) (v.i 5 12))
def S26_:Shp:=⟨[(0,.st (lk qgv))],[]⟩
def qns (Ai:LU)(Aj Ak:Int)(Al:Bool)(A8 A9:Int)(Ba Bb Bc:LU)(Bd Be Bf Bg Bh Bi Bj:Int):Option Bool:=
 (oB (qc1 Ai) fun r1=>(bif r1 then(oB (qrx Aj) fun r2=>(bif((r2&&(decide (Ak>=0)))&&(decide (Ak<=2147483647)))then(oB (qxs Aj Al A8 A9 Ba Bb Bc Bd Be Bf Bg Bh Bi Bj) fun r3=>(some r3))else(some false)))else(some false)))
def qxt:=hull qns
theorem qbdk:qxt=qns:=qa _
def qbgn {R:Type}:EntF Tryz.prog R:=entB (nt:=28) (dec:=decB) (enc:=AV.bool) Tryz.func71 [.t 2] hdeB (.s .z (.s (.r [(2,.c qdl.b),(6,.c q2v.b),(9,.g 3),(14,.g 3),(23,.c qbgm.b)] []) .z)) S26_ qns (fun f v=>f (v.s 1 0) (v.i 1 1) (v.i 1 2) (v.b 1 3) (v.i 1 4) (v.i 1 5) (v.s 1 6) (v.s 1 7) (v.s 1 8) (v.i 1 9) (v.i 1 10) (v.i 1 11) (v.i 1 12) (v.i 1 13) (v.i 1 14) (v.i 1 15))
def qhl (Ai:LU)(Aj Ak:Int)(Al:Bool)(A8 A9:Int)(Ba Bb Bc:LU)(Bd Be Bf Bg Bh Bi Bj:Int):Option Bool:=
 (oB (qxt Ai Aj Ak Al A8 A9 Ba Bb Bc Bd Be Bf Bg Bh Bi Bj) fun r1=>(some (!r1)))
def quw:=hull qhl
theorem q3l:quw=qhl:=qa _
def q40 {R:Type}:EntF Tryz.prog R:=entB (nt:=6) (dec:=decB) (enc:=AV.bool) Tryz.func70 [.t 2] hdeB (.s .z (.s (.r [(1,.c qbgn.b)] []) .z)) S26_ qhl (fun f v=>f (v.s 1 0) (v.i 1 1) (v.i 1 2) (v.b 1 3) (v.i 1 4) (v.i 1 5) (v.s 1 6) (v.s 1 7) (v.s 1 8) (v.i 1 9) (v.i 1 10) (v.i 1 11) (v.i 1 12) (v.i 1 13) (v.i 1 14) (v.i 1 15))
def S27_:Shp:=⟨[(1,.one (.fn 70 [])),(7,.one (.l (.sl 16))),(8,.one (.l (.i .i64))),(9,.one (.l (.i .i64)))],[]⟩
def S28_:Shp:=⟨[(0,.one (.l (.sl 16))),(1,.one (.fn 70 []))],[]⟩
def qc2 (K:Ex->Env->Mem->Option Int):=(fun(_:Unit)=>K (.exit 0) (qe []) (qd []))
def qq (v7:LA)(v8 v9:Int)(next:Int->Option Int)(kx0:Unit->Option Int):Option Int:=
 (bif(decide (v9<v8))then(oB (ixB v7 v9) fun y1=>(bif fitC qgv y1.cells then(oB (quw (gS y1.cells 0) (gI y1.cells 1) (gI y1.cells 2) (gB y1.cells 3) (gI y1.cells 4) (gI y1.cells 5) (gS y1.cells 6) (gS y1.cells 7) (gS y1.cells 8) (gI y1.cells 9) (gI y1.cells 10) (gI y1.cells 11) (gI y1.cells 12) (gI y1.cells 13) (gI y1.cells 14) (gI y1.cells 15)) fun r2=>(bif r2 then(some v9)else(next (i64.wrap (v9+1)))))else none))else(kx0 ()))
def qr (v7:LA)(v8:Int)(kx0:Unit->Option Int):Nat->Int->Option Int
 |0=>(fun _=>none)
 |n+1=>(fun v9=>qq v7 v8 v9 (qr v7 v8 kx0 n) kx0)
def qdn:=hull (qr)
theorem qha:qdn=qr:=qa _
def qhm:SubB Tryz.prog (TIof Tryz.prog) 19 0 (kret [.t 4] (decI .i64)):=lpB Tryz.f68 37 (.s .z (.s (.s .z (.v [.sel [] []])) (.s (.b (.s (.r [(1,.p (.etac 12 qgv))] []) (.s (.r [(2,.c q40.b)] []) .z))) (.v [.sel [1,7,8,9] []])))) S27_ (qr) (fun f v K n=>f (v.l 28 0) (v.i 32 0) (qc2 K) n) (fun v f K=>qq (v.l 28 0) (v.i 32 0) (v.i 36 0) f (qc2 K)) (fun f v=>f (v.i 36 0)) (fun k v=>(fun z0=>k (v.ui 36 0 z0)))
def qbe (v0:LA):Option Int:=
 (qdn v0 (v0.length:Int) (fun(_:Unit)=>(some (-1))) FU 0)
def qcc:=hull qbe
theorem qih:qcc=qbe:=qa _
def qi4 {R:Type}:EntF Tryz.prog R:=entB (nt:=19) (dec:=(decI .i64)) (enc:=(AV.int .i64)) Tryz.func68 [.t 4] hdeI (.s .z (.s (.s .z (.b (.sub [.sel [1,7,8,9] []] qhm []))) .z)) S28_ qbe (fun f v=>f (v.l 0 0))
def qji (Ai:LU)(Aj Ak:Int)(Al:LA):Option Bool:=
 (bif(((decide ((Al.length:Int)<1))||(decide ((Al.length:Int)>64)))||(Ak==0))then(some false)else(oB (qs3 Ai Aj Ak Al) fun r1=>(oB (qcc r1) fun r2=>(some (decide (r2<0))))))
def qq1:=hull qji
theorem q70:qq1=qji:=qa _
def q9n {R:Type}:EntF Tryz.prog R:=entB (nt:=22) (dec:=decB) (enc:=AV.bool) Tryz.func46 [.t 2] hdeB (.s .z (.s (.s (.r [(5,.g 4),(11,.g 3)] []) .z) (.s (.r [(1,.k qbay.b),(2,.c qi4.b)] []) .z))) S7_ qji (fun f v=>f (v.s 1 0) (v.i 1 1) (v.i 1 2) (v.l 1 3))
def qkq:Nat:=72
def S29_:Shp:=⟨[(0,.st (lk qb)),(1,.one (.l (.i .i64)))],[]⟩
def qkr (Ai:Int)(Aj:LU)(Ak Al:Int)(A8:LA)(A9 Ba Bb Bc v1:Int):Option Bool:=
 (some (decide (v1<Bb)))
def qbt:=hull qkr
theorem q0e:qbt=qkr:=qa _
def qcl {R:Type}:EntF Tryz.prog R:=entB (nt:=9) (dec:=decB) (enc:=AV.bool) Tryz.func33 [.t 4] hdeB (.z) S29_ qkr (fun f v=>f (v.i 1 0) (v.s 1 1) (v.i 1 2) (v.i 1 3) (v.l 1 4) (v.i 1 5) (v.i 1 6) (v.i 1 7) (v.i 1 8) (v.i 4 0))
def S30_:Shp:=⟨[(0,.st (lk qb)),(1,.one (.l .s)),(2,.one (.l (.i .i64)))],[]⟩
def qks (Ai:Int)(Aj:LU)(Ak Al:Int)(A8:LA)(A9 Ba Bb Bc:Int)(v1:LU)(v2:Int):Option Bool:=
 (some ((Aj==v1)&&(Ak==v2)))
def qc7:=hull qks
theorem q0f:qc7=qks:=qa _
def qe8 {R:Type}:EntF Tryz.prog R:=entB (nt:=19) (dec:=decB) (enc:=AV.bool) Tryz.func34 [.t 6] hdeB (.s .z (.s (.r [(6,.g 5)] []) .z)) S30_ qks (fun f v=>f (v.i 1 0) (v.s 1 1) (v.i 1 2) (v.i 1 3) (v.l 1 4) (v.i 1 5) (v.i 1 6) (v.i 1 7) (v.i 1 8) (v.s 4 0) (v.i 8 0))
def S31_:Shp:=⟨[(0,.st (lk qb)),(1,.cptr [(.i .i64)]),(2,.cptr [.s,(.i .i64)])],[]⟩
def qnt (Ai:Int)(Aj:LU)(Ak Al:Int)(A8:LA)(A9 Ba Bb Bc Am:Int)(Bl:LU)(Bm:Int):Option Bool:=
 (oB (qbt Ai Aj Ak Al A8 A9 Ba Bb Bc Am) fun r1=>(bif r1 then(oB (qc7 Ai Aj Ak Al A8 A9 Ba Bb Bc Bl Bm) fun r2=>(some r2))else(some false)))
def q8s:=hull qnt
theorem qbdl:q8s=qnt:=qa _
def qbgo {R:Type}:EntF Tryz.prog R:=entB (nt:=16) (dec:=decB) (enc:=AV.bool) Tryz.func32 [.t 4] hdeB (.s .z (.s (.r [(2,.c qcl.b),(9,.c qe8.b)] []) .z)) S31_ qnt (fun f v=>f (v.i 1 0) (v.s 1 1) (v.i 1 2) (v.i 1 3) (v.l 1 4) (v.i 1 5) (v.i 1 6) (v.i 1 7) (v.i 1 8) (v.i 6 0) (v.s 10 0) (v.i 10 1))
def qnu (Ai:Int)(Aj:LU)(Ak Al:Int)(A8:LA)(A9 Ba Bb Bc Am:Int)(Bl:LU)(Bm:Int):Option Bool:=
 (oB (qbt Ai Aj Ak Al A8 A9 Ba Bb Bc Am) fun r1=>(bif(r1&&(Ai==0))then(oB (qc7 Ai Aj Ak Al A8 A9 Ba Bb Bc Bl 5) fun r2=>(some r2))else(some false)))
def q8t:=hull qnu
theorem qbdm:q8t=qnu:=qa _
def qbgp {R:Type}:EntF Tryz.prog R:=entB (nt:=19) (dec:=decB) (enc:=AV.bool) Tryz.func35 [.t 4] hdeB (.s .z (.s (.r [(2,.c qcl.b),(4,.g 3),(12,.c qe8.b)] []) .z)) S31_ qnu (fun f v=>f (v.i 1 0) (v.s 1 1) (v.i 1 2) (v.i 1 3) (v.l 1 4) (v.i 1 5) (v.i 1 6) (v.i 1 7) (v.i 1 8) (v.i 6 0) (v.s 10 0) (v.i 10 1))
def S32_:Shp:=⟨[(0,.st (lk qb)),(1,.one (.l .s))],[]⟩
def qjj (Ai:Int)(Aj:LU)(Ak Al:Int)(A8:LA)(A9 Ba Bb Bc:Int)(v1:LU):Option Bool:=
 (some ((Ai==2)&&(Aj==v1)))
def qcv:=hull qjj
theorem qye:qcv=qjj:=qa _
def qea {R:Type}:EntF Tryz.prog R:=entB (nt:=15) (dec:=decB) (enc:=AV.bool) Tryz.func37 [.t 4] hdeB (.s .z (.s (.r [(4,.g 5)] []) .z)) S32_ qjj (fun f v=>f (v.i 1 0) (v.s 1 1) (v.i 1 2) (v.i 1 3) (v.l 1 4) (v.i 1 5) (v.i 1 6) (v.i 1 7) (v.i 1 8) (v.s 4 0))
def qnv (Ai:Int)(Aj:LU)(Ak Al:Int)(A8:LA)(A9 Ba Bb Bc Am:Int)(Bl:LU)(Bm:Int):Option Bool:=
 (oB (qbt Ai Aj Ak Al A8 A9 Ba Bb Bc Am) fun r1=>(bif r1 then(oB (qcv Ai Aj Ak Al A8 A9 Ba Bb Bc Bl) fun r2=>(some r2))else(some false)))
def q8u:=hull qnv
theorem qbdn:q8u=qnv:=qa _
def qbgq {R:Type}:EntF Tryz.prog R:=entB (nt:=14) (dec:=decB) (enc:=AV.bool) Tryz.func36 [.t 4] hdeB (.s .z (.s (.r [(2,.c qcl.b),(7,.c qea.b)] []) .z)) S31_ qnv (fun f v=>f (v.i 1 0) (v.s 1 1) (v.i 1 2) (v.i 1 3) (v.l 1 4) (v.i 1 5) (v.i 1 6) (v.i 1 7) (v.i 1 8) (v.i 6 0) (v.s 10 0) (v.i 10 1))
def S33_:Shp:=⟨[(0,.st (lk qb)),(1,.cptr qb9)],[]⟩
def qnw (Ai:Int)(Aj:LU)(Ak Al:Int)(A8:LA)(A9 Ba Bb Bc:Int)(Am:LU)(An Ao:Int)(Ap:LA):Option Bool:=
 (oB (qc7 Ai Aj Ak Al A8 A9 Ba Bb Bc Am An) fun r1=>(bif r1 then(some true)else(oB (qcv Ai Aj Ak Al A8 A9 Ba Bb Bc Am) fun r2=>(some r2))))
def q8v:=hull qnw
theorem qbdo:q8v=qnw:=qa _
def qbgr {R:Type}:EntF Tryz.prog R:=entB (nt:=16) (dec:=decB) (enc:=AV.bool) Tryz.func45 [.t 3] hdeB (.s .z (.s (.r [(5,.c qe8.b),(10,.c qea.b)] []) .z)) S33_ qnw (fun f v=>f (v.i 1 0) (v.s 1 1) (v.i 1 2) (v.i 1 3) (v.l 1 4) (v.i 1 5) (v.i 1 6) (v.i 1 7) (v.i 1 8) (v.s 6 0) (v.i 6 1) (v.i 6 2) (v.l 6 3))
def qnx (Ai:Int)(Aj:LU)(Ak Al:Int)(A8:LA)(A9 Ba Bb Bc:Int)(Am:LU)(An Ao:Int)(Ap:LA):Option Bool:=
 (oB (qcv Ai Aj Ak Al A8 A9 Ba Bb Bc Am) fun r1=>(some (!r1)))
def q8w:=hull qnx
theorem qbdp:q8w=qnx:=qa _
def qbgs {R:Type}:EntF Tryz.prog R:=entB (nt:=9) (dec:=decB) (enc:=AV.bool) Tryz.func49 [.t 3] hdeB (.s .z (.s (.r [(3,.c qea.b)] []) .z)) S33_ qnx (fun f v=>f (v.i 1 0) (v.s 1 1) (v.i 1 2) (v.i 1 3) (v.l 1 4) (v.i 1 5) (v.i 1 6) (v.i 1 7) (v.i 1 8) (v.s 6 0) (v.i 6 1) (v.i 6 2) (v.l 6 3))
def S34_:Shp:=⟨[(0,.st (lk qb)),(1,.cptr qb)],[]⟩
def qk2 (Ai:Int)(Aj:LU)(Ak Al:Int)(A8:LA)(A9 Ba Bb Bc Am:Int)(An:LU)(Ao Ap:Int)(Az:LA)(A0 A1 A2 A3:Int):Option Bool:=
 (oB (qc7 Ai Aj Ak Al A8 A9 Ba Bb Bc An Ao) fun r1=>(some r1))
def q2w:=hull qk2
theorem q9o:q2w=qk2:=qa _
def qba6 {R:Type}:EntF Tryz.prog R:=entB (nt:=12) (dec:=decB) (enc:=AV.bool) Tryz.func73 [.t 3] hdeB (.s .z (.s (.r [(7,.c qe8.b)] []) .z)) S34_ qk2 (fun f v=>f (v.i 1 0) (v.s 1 1) (v.i 1 2) (v.i 1 3) (v.l 1 4) (v.i 1 5) (v.i 1 6) (v.i 1 7) (v.i 1 8) (v.i 6 0) (v.s 6 1) (v.i 6 2) (v.i 6 3) (v.l 6 4) (v.i 6 5) (v.i 6 6) (v.i 6 7) (v.i 6 8))
theorem qbhi {R:Type}:qg8 Tryz.prog 128 (qrr (R':=R)):=qbj8 Tryz.func128 (by kernel_rfl) (by kernel_rfl) (by kernel_rfl) (by kernel_rfl)
def qhb (v0 v1:LU):Option Int:=
 (oB (q2j v0 v1) fun r1=>(some r1))
def qox:=hull qhb
theorem qux:qox=qhb:=qa _
def qv7 {R:Type}:EntF Tryz.prog R:=entB (nt:=8) (dec:=(decI .i64)) (enc:=(AV.int .i64)) Tryz.func120 [.t 4] hdeI (.s .z (.s (.r [(2,.c (eK qbhi))] []) .z)) S8_ qhb (fun f v=>f (v.s 0 0) (v.s 4 0))
def qip (v0 v1:LU):Option Int:=
 (oB (qox v0 v1) fun r1=>(some r1))
def qk3:=hull qip
theorem q41:qk3=qip:=qa _
def qto {R:Type}:EntF Tryz.prog R:=entB (nt:=8) (dec:=(decI .i64)) (enc:=(AV.int .i64)) Tryz.func111 [.t 4] hdeI (.s .z (.s (.r [(2,.c qv7.b)] []) .z)) S8_ qip (fun f v=>f (v.s 0 0) (v.s 4 0))
def q42 (v0:LU)(K:Ex->Env->Mem->Option (List AV)):=(fun z_v9=>K .norm (qe [(0,(.str v0)),(9,(.bool z_v9))]) (qd []))
def qiq (v0:LU)(kn:Bool->Option (List AV)):Option (List AV):=
 (bif(v0==([46]:List UInt8))then(kn true)else(oB (qc1 v0) fun r1=>(kn (!r1))))
def qwo:=hull (qiq)
theorem q43:qwo=qiq:=qa _
def q71:SubB Tryz.prog (TIof Tryz.prog) 16 0 (kret [.t 2] (decX (.one (.sl 1)) fun z=>aL z)):=jnB Tryz.f42 9 (.r [(4,.c qdl.b)] [.sel [0,9] []]) S15_ (qiq) (fun f v K=>f (v.s 0 0) (q42 (v.s 0 0) K))
def qma (v0:LU):Option (List AV):=
 (qwo v0 (fun v9q1=>(bif v9q1 then(some ([]:List AV))else(oB (cutI v0 none (some (i64.wrap ((v0.length:Int)-1)))) fun s2=>(oB (qnn s2 ([46]:List UInt8)) fun r3=>(some r3))))))
def qi5:=hull qma
theorem qba7:qi5=qma:=qa _
def qq2 {R:Type}:EntF Tryz.prog R:=entB (nt:=16) (dec:=(decX (.one (.sl 1)) fun z=>aL z)) (enc:=(fun r=>.sl 1 r)) Tryz.func42 [.t 2] (hdeX fun _=>rfl) (.s .z (.s (.s (.sub [.sel [0] []] q71 []) (.s (.s .z (.v [.eta 2 (.one (.sl 1))])) .z)) (.s (.r [(5,.k qwh.b)] []) .z))) S15_ qma (fun f v=>f (v.s 0 0))
def S35_:Shp:=⟨[(7,.one (.l (.sl 1))),(8,.one (.l (.sl 1))),(9,.one (.l (.i .i64)))],[]⟩
def qoy (v7 v8:LA)(K:Ex->Env->Mem->Option Int):=(fun(_:Unit)=>K (.exit 1) (qe [(7,(.sl 1 v7)),(8,(.sl 1 v8))]) (qd []))
def qkt (v7 v8:LA)(v9:Int)(next:Int->Option Int)(kx1:Unit->Option Int):Option Int:=
 (bif((decide (v9<=(v7.length:Int)))&&(decide (v9<=(v8.length:Int))))then(oB (ixB v7 (i64.wrap ((v7.length:Int)-v9))) fun y1=>(bif fitC [.s] y1.cells then(oB (ixB v8 (i64.wrap ((v8.length:Int)-v9))) fun y2=>(bif fitC [.s] y2.cells then(oB (qk3 (gS y1.cells 0) (gS y2.cells 0)) fun r3=>(bif(r3 != 0)then(some r3)else(next (i64.wrap (v9+1)))))else none))else none))else(kx1 ()))
def qc9 (v7 v8:LA)(kx1:Unit->Option Int):Nat->Int->Option Int
 |0=>(fun _=>none)
 |n+1=>(fun v9=>qkt v7 v8 v9 (qc9 v7 v8 kx1 n) kx1)
def qtp:=hull (qc9)
theorem q0g:qtp=qc9:=qa _
def q3m:SubB Tryz.prog (TIof Tryz.prog) 79 0 (kret [.t 4] (decI .i64)):=lpB Tryz.f95 303 (.s (.s (.r [(5,.g 4)] []) (.s .z (.v [.sel [7,8] []]))) (.s (.b (.s (.d [] [(5,.e 54 [.s]),(12,.e 61 [.s])] [(0,.c qto.b)] []) .z)) (.v [.sel [7,8,9] []]))) S35_ (qc9) (fun f v K n=>f (v.l 28 0) (v.l 32 0) (qoy (v.l 28 0) (v.l 32 0) K) n) (fun v f K=>qkt (v.l 28 0) (v.l 32 0) (v.i 36 0) f (qoy (v.l 28 0) (v.l 32 0) K)) (fun f v=>f (v.i 36 0)) (fun k v=>(fun z0=>k (v.ui 36 0 z0)))
def qk4 (v0 v1:LU):Option Int:=
 (oB (qc1 v0) fun r1=>(oB (qc1 v1) fun r2=>(bif(r1&&(!r2))then(some (-1))else(bif(r2&&(!r1))then(some 1)else(bif(!r1)then(oB (qk3 v0 v1) fun r3=>(some r3))else(oB (qi5 v0) fun r4=>(oB (qi5 v1) fun r5=>(qtp r4 r5 (fun(_:Unit)=>(bif(decide ((r4.length:Int)<(r5.length:Int)))then(some (-1))else(bif(decide ((r4.length:Int)>(r5.length:Int)))then(some 1)else(some 0)))) FU 1))))))))
def qs5:=hull qk4
theorem q9p:qs5=qk4:=qa _
def qba8 {R:Type}:EntF Tryz.prog R:=entB (nt:=79) (dec:=(decI .i64)) (enc:=(AV.int .i64)) Tryz.func95 [.t 4] hdeI (.s .z (.s (.r [(1,.c qdl.b),(3,.c qdl.b)] []) (.s (.b (.s (.r [(2,.g 2)] []) (.s .z (.s (.r [(2,.g 2)] []) (.s .z (.s .z (.s (.s (.r [(2,.c qto.b)] []) .z) .z))))))) (.s (.r [(1,.k qq2.b),(3,.k qq2.b)] []) (.s (.s .z (.b (.sub [.sel [7,8,9] []] q3m []))) .z))))) S8_ qk4 (fun f v=>f (v.s 0 0) (v.s 4 0))
def qpq (v0:Int):Option Bool:=
 (some (v0 != v0))
def qny:=hull qpq
theorem q9q:qny=qpq:=qa _
def qwp {R:Type}:EntF Tryz.prog R:=entB (nt:=6) (dec:=decB) (enc:=AV.bool) Tryz.func112 [.t 2] hdeB (.z) S0_ qpq (fun f v=>f (v.i 0 0))
def qir (v0 v1:Int):Option Int:=
 (oB (qny v0) fun r1=>(oB (qny v1) fun r2=>(bif r1 then(bif r2 then(some 0)else(some (-1)))else(bif r2 then(some 1)else(bif(decide (v0<v1))then(some (-1))else(bif(decide (v0>v1))then(some 1)else(some 0)))))))
def qpr:=hull qir
theorem q44:qpr=qir:=qa _
def q72 {R:Type}:EntF Tryz.prog R:=entB (nt:=20) (dec:=(decI .i64)) (enc:=(AV.int .i64)) Tryz.func96 [.t 4] hdeI (.s .z (.s (.r [(1,.c qwp.b)] []) (.s (.r [(1,.c qwp.b)] []) .z))) S20_ qir (fun f v=>f (v.i 0 0) (v.i 4 0))
def S36_:Shp:=⟨[(0,.st (lk qb)),(1,.st (lk qb))],[]⟩
def qnz (Ai:Int)(Aj:LU)(Ak Al:Int)(A8:LA)(A9 Ba Bb Bc Am:Int)(An:LU)(Ao Ap:Int)(Az:LA)(A0 A1 A2 A3:Int):Option Int:=
 (oB (qs5 Aj An) fun r1=>(bif(r1 != 0)then(some r1)else(oB (qpr Ak Ao) fun r2=>(some r2))))
def qxu:=hull qnz
theorem qbdq:qxu=qnz:=qa _
def qbgt {R:Type}:EntF Tryz.prog R:=entB (nt:=23) (dec:=(decI .i64)) (enc:=(AV.int .i64)) Tryz.func76 [.t 4] hdeI (.s .z (.s (.s (.r [(6,.c qba8.b)] []) .z) (.s (.r [(6,.c q72.b)] []) .z))) S36_ qnz (fun f v=>f (v.i 1 0) (v.s 1 1) (v.i 1 2) (v.i 1 3) (v.l 1 4) (v.i 1 5) (v.i 1 6) (v.i 1 7) (v.i 1 8) (v.i 5 0) (v.s 5 1) (v.i 5 2) (v.i 5 3) (v.l 5 4) (v.i 5 5) (v.i 5 6) (v.i 5 7) (v.i 5 8))
def qk5 (Ai:Int)(Aj:LU)(Ak Al:Int)(A8:LA)(A9 Ba Bb Bc Am:Int)(An:LU)(Ao Ap:Int)(Az:LA)(A0 A1 A2 A3:Int):Option Bool:=
 (oB (qxu Ai Aj Ak Al A8 A9 Ba Bb Bc Am An Ao Ap Az A0 A1 A2 A3) fun r1=>(some (decide (r1>0))))
def q2x:=hull qk5
theorem q9r:q2x=qk5:=qa _
def qba9 {R:Type}:EntF Tryz.prog R:=entB (nt:=8) (dec:=decB) (enc:=AV.bool) Tryz.func75 [.t 3] hdeB (.s .z (.s (.r [(2,.c qbgt.b)] []) .z)) S34_ qk5 (fun f v=>f (v.i 1 0) (v.s 1 1) (v.i 1 2) (v.i 1 3) (v.l 1 4) (v.i 1 5) (v.i 1 6) (v.i 1 7) (v.i 1 8) (v.i 6 0) (v.s 6 1) (v.i 6 2) (v.i 6 3) (v.l 6 4) (v.i 6 5) (v.i 6 6) (v.i 6 7) (v.i 6 8))
def S37_:Shp:=⟨[(0,.st (lk qb)),(1,.cptr [.s,(.i .i64)])],[]⟩
def qmb (Ai:Int)(Aj:LU)(Ak Al:Int)(A8:LA)(A9 Ba Bb Bc:Int)(Am:LU)(An:Int):Option Bool:=
 (oB (qc7 Ai Aj Ak Al A8 A9 Ba Bb Bc Am An) fun r1=>(bif r1 then(some true)else(oB (qcv Ai Aj Ak Al A8 A9 Ba Bb Bc Am) fun r2=>(some r2))))
def q45:=hull qmb
theorem qbba:q45=qmb:=qa _
def qbdr {R:Type}:EntF Tryz.prog R:=entB (nt:=16) (dec:=decB) (enc:=AV.bool) Tryz.func53 [.t 3] hdeB (.s .z (.s (.r [(5,.c qe8.b),(10,.c qea.b)] []) .z)) S37_ qmb (fun f v=>f (v.i 1 0) (v.s 1 1) (v.i 1 2) (v.i 1 3) (v.l 1 4) (v.i 1 5) (v.i 1 6) (v.i 1 7) (v.i 1 8) (v.s 6 0) (v.i 6 1))
def qmc (Ai:Int)(Aj:LU)(Ak Al:Int)(A8:LA)(A9 Ba Bb Bc:Int)(Am:LU)(An:Int):Option Bool:=
 (oB (qcv Ai Aj Ak Al A8 A9 Ba Bb Bc Am) fun r1=>(some r1))
def q46:=hull qmc
theorem qbbb:q46=qmc:=qa _
def qbds {R:Type}:EntF Tryz.prog R:=entB (nt:=8) (dec:=decB) (enc:=AV.bool) Tryz.func54 [.t 3] hdeB (.s .z (.s (.r [(3,.c qea.b)] []) .z)) S37_ qmc (fun f v=>f (v.i 1 0) (v.s 1 1) (v.i 1 2) (v.i 1 3) (v.l 1 4) (v.i 1 5) (v.i 1 6) (v.i 1 7) (v.i 1 8) (v.s 6 0) (v.i 6 1))
def qq3 (Ai:Int)(Aj:LU)(Ak Al:Int)(A8:LA)(A9 Ba Bb Bc:Int)(Am:LU)(An:Int):Option Bool:=
 (some (Aj==Am))
def q47:=hull qq3
theorem qbbc:q47=qq3:=qa _
def qbdt {R:Type}:EntF Tryz.prog R:=entB (nt:=10) (dec:=decB) (enc:=AV.bool) Tryz.func55 [.t 3] hdeB (.z) S37_ qq3 (fun f v=>f (v.i 1 0) (v.s 1 1) (v.i 1 2) (v.i 1 3) (v.l 1 4) (v.i 1 5) (v.i 1 6) (v.i 1 7) (v.i 1 8) (v.s 6 0) (v.i 6 1))
def S38_:Shp:=⟨[(0,.st (lk qb)),(1,.cptr [(.i .i64)])],[]⟩
def qk6 (Ai:Int)(Aj:LU)(Ak Al:Int)(A8:LA)(A9 Ba Bb Bc Am:Int):Option Bool:=
 (oB (qbt Ai Aj Ak Al A8 A9 Ba Bb Bc Am) fun r1=>(some r1))
def q2y:=hull qk6
theorem q9s:q2y=qk6:=qa _
def qbbd {R:Type}:EntF Tryz.prog R:=entB (nt:=7) (dec:=decB) (enc:=AV.bool) Tryz.func58 [.t 3] hdeB (.s .z (.s (.r [(2,.c qcl.b)] []) .z)) S38_ qk6 (fun f v=>f (v.i 1 0) (v.s 1 1) (v.i 1 2) (v.i 1 3) (v.l 1 4) (v.i 1 5) (v.i 1 6) (v.i 1 7) (v.i 1 8) (v.i 6 0))
def qps (v0 v1:LU):Option Bool:=
 (bif((v1==([46]:List UInt8))||(v0==v1))then(some true)else(bif decide (([46]:List UInt8).length+v1.length<=9223372036854775807)then(oB (qii v0 (([46]:List UInt8)++v1)) fun r1=>(some r1))else none))
def qbbe:=hull qps
theorem qbgu:qbbe=qps:=qa _
def qbhj {R:Type}:EntF Tryz.prog R:=entB (nt:=18) (dec:=decB) (enc:=AV.bool) Tryz.func65 [.t 4] hdeB (.s .z (.s (.r [(3,.g 3),(11,.c qqo.b)] []) .z)) S8_ qps (fun f v=>f (v.s 0 0) (v.s 4 0))
def qn0 (v0 v1:LU):Option Bool:=
 (oB (qc1 v0) fun r1=>(bif r1 then(oB (qc1 v1) fun r2=>(bif r2 then(oB (qbbe v0 v1) fun r3=>(some r3))else(some false)))else(some false)))
def qna:=hull qn0
theorem qbdu:qna=qn0:=qa _
def q2z {R:Type}:EntF Tryz.prog R:=entB (nt:=16) (dec:=decB) (enc:=AV.bool) Tryz.func41 [.t 4] hdeB (.s .z (.s (.r [(1,.c qdl.b),(4,.c qdl.b),(9,.c qbhj.b)] []) .z)) S8_ qn0 (fun f v=>f (v.s 0 0) (v.s 4 0))
def S39_:Shp:=⟨[(0,.st (lk qb)),(1,.cptr [.s])],[]⟩
def qk7 (Ai:Int)(Aj:LU)(Ak Al:Int)(A8:LA)(A9 Ba Bb Bc:Int)(Am:LU):Option Bool:=
 (oB (qna Aj Am) fun r1=>(some (!r1)))
def q20:=hull qk7
theorem q9t:q20=qk7:=qa _
def qbbf {R:Type}:EntF Tryz.prog R:=entB (nt:=10) (dec:=decB) (enc:=AV.bool) Tryz.func57 [.t 3] hdeB (.s .z (.s (.r [(4,.c q2z.b)] []) .z)) S39_ qk7 (fun f v=>f (v.i 1 0) (v.s 1 1) (v.i 1 2) (v.i 1 3) (v.l 1 4) (v.i 1 5) (v.i 1 6) (v.i 1 7) (v.i 1 8) (v.s 6 0))
def ap0:ApB Tryz.prog:=(ApB.cons qbbf.b (ApB.cons qbbd.b (ApB.cons qbdt.b (ApB.cons qbds.b (ApB.cons qbdr.b (ApB.cons qba9.b (ApB.cons qba6.b (ApB.cons qbgs.b (ApB.cons qbgr.b (ApB.cons qbgq.b (ApB.cons qbgp.b (ApB.cons qbgo.b (apN Tryz.prog)))))))))))))
def S40_:Shp:=⟨[(0,.st (lk qb)),(1,.cptr [.fn])],[]⟩
def qk8 (Ai:Int)(Aj:LU)(Ak Al:Int)(A8:LA)(A9 Ba Bb Bc:Int)(Am:AV):Option Bool:=
 (oB (ap0.ap Am [(.agg [(.int .i64 Ai),(.str Aj),(.int .i64 Ak),(.int .i64 Al),(.sl 13 A8),(.int .i64 A9),(.int .i64 Ba),(.int .i64 Bb),(.int .i64 Bc)])]) fun r1=>(some (!r1)))
def q21:=hull qk8
theorem q9u:q21=qk8:=qa _
def qbbg {R:Type}:EntF Tryz.prog R:=entB (nt:=8) (dec:=decB) (enc:=AV.bool) Tryz.func74 [.t 3] hdeB (.s .z (.s (.r [(2,.q ap0)] []) .z)) S40_ qk8 (fun f v=>f (v.i 1 0) (v.s 1 1) (v.i 1 2) (v.i 1 3) (v.l 1 4) (v.i 1 5) (v.i 1 6) (v.i 1 7) (v.i 1 8) (v.f 6 0))
def S41_:Shp:=⟨[(0,.st (lk qb)),(1,.cptr [.fn]),(2,.cptr [(.i .i64)])],[]⟩
def qk9 (Ai:Int)(Aj:LU)(Ak Al:Int)(A8:LA)(A9 Ba Bb Bc:Int)(Am:AV)(Bl:Int):Option Bool:=
 (oB (ap0.ap Am [(.agg [(.int .i64 Ai),(.str Aj),(.int .i64 Ak),(.int .i64 Al),(.sl 13 A8),(.int .i64 A9),(.int .i64 Ba),(.int .i64 Bb),(.int .i64 Bc)])]) fun r1=>(bif r1 then(some true)else(oB (qbt Ai Aj Ak Al A8 A9 Ba Bb Bc Bl) fun r2=>(some r2))))
def q23:=hull qk9
theorem q9v:q23=qk9:=qa _
def qbbh {R:Type}:EntF Tryz.prog R:=entB (nt:=13) (dec:=decB) (enc:=AV.bool) Tryz.func78 [.t 4] hdeB (.s .z (.s (.r [(2,.q ap0),(6,.c qcl.b)] []) .z)) S41_ qk9 (fun f v=>f (v.i 1 0) (v.s 1 1) (v.i 1 2) (v.i 1 3) (v.l 1 4) (v.i 1 5) (v.i 1 6) (v.i 1 7) (v.i 1 8) (v.f 6 0) (v.i 10 0))
def qmd (Ai:Int)(Aj:LU)(Ak Al:Int)(A8:LA)(A9 Ba Bb Bc:Int)(Am:AV):Option Bool:=
 (oB (ap0.ap Am [(.agg [(.int .i64 Ai),(.str Aj),(.int .i64 Ak),(.int .i64 Al),(.sl 13 A8),(.int .i64 A9),(.int .i64 Ba),(.int .i64 Bb),(.int .i64 Bc)])]) fun r1=>(some (!r1)))
def q48:=hull qmd
theorem qbbi:q48=qmd:=qa _
def qbdv {R:Type}:EntF Tryz.prog R:=entB (nt:=8) (dec:=decB) (enc:=AV.bool) Tryz.func56 [.t 3] hdeB (.s .z (.s (.r [(2,.q ap0)] []) .z)) S40_ qmd (fun f v=>f (v.i 1 0) (v.s 1 1) (v.i 1 2) (v.i 1 3) (v.l 1 4) (v.i 1 5) (v.i 1 6) (v.i 1 7) (v.i 1 8) (v.f 6 0))
def S42_:Shp:=⟨[(0,.st (lk qb)),(1,.cptr [.fn]),(2,.cptr [(.i .i64)]),(3,.cptr [(.i .i64)])],[]⟩
def qhn (Ai:Int)(Aj:LU)(Ak Al:Int)(A8:LA)(A9 Ba Bb Bc:Int)(Am:AV)(Bl Bn:Int):Option Bool:=
 (oB (ap0.ap Am [(.agg [(.int .i64 Ai),(.str Aj),(.int .i64 Ak),(.int .i64 Al),(.sl 13 A8),(.int .i64 A9),(.int .i64 Ba),(.int .i64 Bb),(.int .i64 Bc)])]) fun r1=>(bif r1 then(oB (qbt Ai Aj Ak Al A8 A9 Ba Bb Bc Bl) fun r2=>(some (r2&&(decide (A9>Bn)))))else(some false)))
def quy:=hull qhn
theorem q3n:quy=qhn:=qa _
def q49 {R:Type}:EntF Tryz.prog R:=entB (nt:=20) (dec:=decB) (enc:=AV.bool) Tryz.func72 [.t 5] hdeB (.s .z (.s (.r [(2,.q ap0),(6,.c qcl.b),(9,.g 4)] []) .z)) S42_ qhn (fun f v=>f (v.i 1 0) (v.s 1 1) (v.i 1 2) (v.i 1 3) (v.l 1 4) (v.i 1 5) (v.i 1 6) (v.i 1 7) (v.i 1 8) (v.f 6 0) (v.i 10 0) (v.i 14 0))
def ap1:ApB Tryz.prog:=(ApB.cons q49.b (ApB.cons qbdv.b (ApB.cons qbbh.b (ApB.cons qbbg.b ap0))))
def S43_:Shp:=⟨[(1,.one (.l .fn)),(7,.one (.l (.sl 9))),(8,.one (.l (.i .i64))),(9,.one (.l (.i .i64)))],[]⟩
def S44_:Shp:=⟨[(0,.one (.l (.sl 9))),(1,.one (.l .fn))],[]⟩
def qho (K:Ex->Env->Mem->Option Int):=(fun(_:Unit)=>K (.exit 0) (qe []) (qd []))
def qb4 (v1:AV)(v7:LA)(v8 v9:Int)(next:Int->Option Int)(kx0:Unit->Option Int):Option Int:=
 (bif(decide (v9<v8))then(oB (ixB v7 v9) fun y1=>(bif fitC qb y1.cells then(oB (ap1.ap v1 [(.agg [(.int .i64 (gI y1.cells 0)),(.str (gS y1.cells 1)),(.int .i64 (gI y1.cells 2)),(.int .i64 (gI y1.cells 3)),(.sl 13 (gL y1.cells 4)),(.int .i64 (gI y1.cells 5)),(.int .i64 (gI y1.cells 6)),(.int .i64 (gI y1.cells 7)),(.int .i64 (gI y1.cells 8))])]) fun r2=>(bif r2 then(some v9)else(next (i64.wrap (v9+1)))))else none))else(kx0 ()))
def qb5 (v1:AV)(v7:LA)(v8:Int)(kx0:Unit->Option Int):Nat->Int->Option Int
 |0=>(fun _=>none)
 |n+1=>(fun v9=>qb4 v1 v7 v8 v9 (qb5 v1 v7 v8 kx0 n) kx0)
def qke:=hull (qb5)
theorem qqn:qke=qb5:=qa _
def qq4:SubB Tryz.prog (TIof Tryz.prog) 19 0 (kret [.t 4] (decI .i64)):=lpB Tryz.f31 37 (.s .z (.s (.s .z (.v [.sel [] []])) (.s (.b (.s (.r [(1,.p (.etac 12 qb))] []) (.s (.r [(2,.q ap1)] []) .z))) (.v [.sel [1,7,8,9] []])))) S43_ (qb5) (fun f v K n=>f (v.f 4 0) (v.l 28 0) (v.i 32 0) (qho K) n) (fun v f K=>qb4 (v.f 4 0) (v.l 28 0) (v.i 32 0) (v.i 36 0) f (qho K)) (fun f v=>f (v.i 36 0)) (fun k v=>(fun z0=>k (v.ui 36 0 z0)))
def qd2 (v0:LA)(v1:AV):Option Int:=
 (qke v1 v0 (v0.length:Int) (fun(_:Unit)=>(some (-1))) FU 0)
def qbv:=hull qd2
theorem qs6:qbv=qd2:=qa _
def qco {R:Type}:EntF Tryz.prog R:=entB (nt:=19) (dec:=(decI .i64)) (enc:=(AV.int .i64)) Tryz.func31 [.t 4] hdeI (.s .z (.s (.s .z (.b (.sub [.sel [1,7,8,9] []] qq4 []))) .z)) S44_ qd2 (fun f v=>f (v.l 0 0) (v.f 4 0))
def S45_:Shp:=⟨[(0,.st [(.l (.i .i64)),(.l (.sl 9))]),(1,.one (.l (.i .i64))),(2,.one (.l (.i .i64))),(3,.one (.l .fn))],[]⟩
def qjk (Ai:Int)(Aj:LA)(v1 v2:Int)(v3:AV):Option Bool:=
 (oB (qbv Aj (.func qkq [(.cptr [(.fv v3)]),(.cptr [(.int .i64 v2)]),(.cptr [(.int .i64 v1)])])) fun r1=>(some (decide (r1>=0))))
def qi6:=hull qjk
theorem q73:qi6=qjk:=qa _
def quz {R:Type}:EntF Tryz.prog R:=entB (nt:=14) (dec:=decB) (enc:=AV.bool) Tryz.func47 [.t 8] hdeB (.s .z (.s (.r [(2,.s (.cls 5)),(2,.s (.cls 6)),(2,.s (.cls 7)),(3,.c qco.b)] []) .z)) S45_ qjk (fun f v=>f (v.i 1 0) (v.l 1 1) (v.i 4 0) (v.i 8 0) (v.f 12 0))
def qgw (l:LA):Option (List AV):=qbcx 128 l
def qls {R:Type}(xs:LA)(K:AV->Option R):Option R:=q2i 13 128 xs K
theorem qmz {R:Type}:qqi Tryz.prog 64 (qls (R:=R)):=qbre (ρ:=qbar 64 4 36 68) tabOk (qbnp follows "slices.Clone[[]ddi/api.Data,ddi/api.Data]" (by kernel_rfl) (by kernel_rfl) (by kernel_rfl) (by kernel_rfl) (by kernel_rfl) (by kernel_rfl) (by kernel_rfl) (by kernel_rfl)) (by kernel_rfl) (by decide) (by decide)
def S46_:Shp:=⟨[(0,.st (lk qb))],[]⟩
def qrz (Ai:Int)(Aj:LU)(Ak Al:Int)(A8:LA)(A9 Ba Bb Bc:Int):Option AV:=
 (oB (qgw A8) fun r1=>(some (.agg [(.int .i64 Ai),(.str Aj),(.int .i64 Ak),(.int .i64 Al),(.sl 13 r1),(.int .i64 A9),(.int .i64 Ba),(.int .i64 Bb),(.int .i64 Bc)])))
def qhp:=hull qrz
theorem qbhk:qhp=qrz:=qa _
def qxv {R:Type}:EntF Tryz.prog R:=entB (nt:=10) (dec:=(decT [(.i .i64),.s,(.i .i64),(.i .i64),(.sl 13),(.i .i64),(.i .i64),(.i .i64),(.i .i64)])) (enc:=(qcf (.st [(.i .i64),.s,(.i .i64),(.i .i64),(.sl 13),(.i .i64),(.i .i64),(.i .i64),(.i .i64)]))) Tryz.func39 [(.cell 2 true 9)] hdeT (.s .z (.s (.r [(3,.k (eB qmz))] []) .z)) S46_ qrz (fun f v=>f (v.i 1 0) (v.s 1 1) (v.i 1 2) (v.i 1 3) (v.l 1 4) (v.i 1 5) (v.i 1 6) (v.i 1 7) (v.i 1 8))
def S47_:Shp:=⟨[(2,.one (.ptr 0 0)),(4,.one (.ptr 1 0)),(5,.one (.own 2)),(11,.one (.l (.sl 9))),(12,.one (.l (.i .i64))),(13,.one (.l (.i .i64)))],[.box true [(.l (.i .i64)),(.l (.sl 9))],.box true [(.l (.i .i64)),(.l .nil)],.arr true 9]⟩
def S48_:Shp:=⟨[(0,.st [(.l (.i .i64)),(.l (.sl 9))]),(1,.one (.l (.sl 9)))],[]⟩
def qmw (Aa:Int)(Ab:LA)(Ae:Int)(K:Ex->Env->Mem->Option AV):=(fun z_a2=>K (.exit 0) (qe [(2,(.ptr 0 0)),(4,(.ptr 1 0)),(5,(.own 2 z_a2.length))]) (qd [(some (.box true [(.int .i64 Aa),(.sl 9 Ab)])),(some (.box true [(.int .i64 Ae),.nils])),(some (.arr true 9 z_a2))]))
def qdr (v11:LA)(v12 v13 Aa:Int)(Ab:LA)(Ae:Int)(a2:LA)(next:Int->(List AV)->Option AV)(kx0:(List AV)->Option AV):Option AV:=
 (bif(decide (v13<v12))then(oB (ixB v11 v13) fun y1=>(bif fitC qb y1.cells then(oB (qhp (gI y1.cells 0) (gS y1.cells 1) (gI y1.cells 2) (gI y1.cells 3) (gL y1.cells 4) (gI y1.cells 5) (gI y1.cells 6) (gI y1.cells 7) (gI y1.cells 8)) fun r2=>(bif hd a2 a2.length then(bif hd ([(.agg [(.int .i64 (gI r2.cells 0)),(.str (gS r2.cells 1)),(.int .i64 (gI r2.cells 2)),(.int .i64 (gI r2.cells 3)),(.sl 13 (gL r2.cells 4)),(.int .i64 (gI r2.cells 5)),(.int .i64 (gI r2.cells 6)),(.int .i64 (gI r2.cells 7)),(.int .i64 (gI r2.cells 8))])]:List AV) (([(.agg [(.int .i64 (gI r2.cells 0)),(.str (gS r2.cells 1)),(.int .i64 (gI r2.cells 2)),(.int .i64 (gI r2.cells 3)),(.sl 13 (gL r2.cells 4)),(.int .i64 (gI r2.cells 5)),(.int .i64 (gI r2.cells 6)),(.int .i64 (gI r2.cells 7)),(.int .i64 (gI r2.cells 8))])]:List AV).length)then(bif decide ((a2.length+([(.agg [(.int .i64 (gI r2.cells 0)),(.str (gS r2.cells 1)),(.int .i64 (gI r2.cells 2)),(.int .i64 (gI r2.cells 3)),(.sl 13 (gL r2.cells 4)),(.int .i64 (gI r2.cells 5)),(.int .i64 (gI r2.cells 6)),(.int .i64 (gI r2.cells 7)),(.int .i64 (gI r2.cells 8))])]:List AV).length)*96<=140737488355328)then(next (i64.wrap (v13+1)) (a2++([(.agg [(.int .i64 (gI r2.cells 0)),(.str (gS r2.cells 1)),(.int .i64 (gI r2.cells 2)),(.int .i64 (gI r2.cells 3)),(.sl 13 (gL r2.cells 4)),(.int .i64 (gI r2.cells 5)),(.int .i64 (gI r2.cells 6)),(.int .i64 (gI r2.cells 7)),(.int .i64 (gI r2.cells 8))])]:List AV)))else none)else none)else none))else none))else(kx0 a2))
def qcr (v11:LA)(v12 Aa:Int)(Ab:LA)(Ae:Int)(kx0:(List AV)->Option AV):Nat->Int->(List AV)->Option AV
 |0=>(fun _ _=>none)
 |n+1=>(fun v13 a2=>qdr v11 v12 v13 Aa Ab Ae a2 (qcr v11 v12 Aa Ab Ae kx0 n) kx0)
def qqr:=hull (qcr)
theorem qxw:qqr=qcr:=qa _
def qyf:SubB Tryz.prog (TIof Tryz.prog) 27 0 (kret [(.cell 4 true 2)] (decT [(.i .i64),(.fr true 9)])):=lpB Tryz.f38 75 (.s .z (.s (.s .z (.v [.sel [2,4,5] [0,1,2]])) (.s (.b (.s (.r [(0,.p (.etac 15 qb))] []) (.r [(2,.k qxv.b)] []))) (.v [.sel [2,4,5,11,12,13] [0,1,2]])))) S47_ (qcr) (fun f v K n=>f (v.l 44 0) (v.i 48 0) (v.i 3 0) (v.l 3 1) (v.i 7 0) (qmw (v.i 3 0) (v.l 3 1) (v.i 7 0) K) n) (fun v f K=>qdr (v.l 44 0) (v.i 48 0) (v.i 52 0) (v.i 3 0) (v.l 3 1) (v.i 7 0) (v.r 2) f (qmw (v.i 3 0) (v.l 3 1) (v.i 7 0) K)) (fun f v=>f (v.i 52 0) (v.r 2)) (fun k v=>(fun z0 z1=>k ((v.ui 52 0 z0).ur 2 z1)))
def qhq (Ai:Int)(Aj v1:LA):Option AV:=
 (bif decide (0<=(0:Int)/\0<=(v1.length:Int)/\(v1.length:Int)*96<=281474976710656)then(bif(hd (List.replicate (0:Int).toNat ((.agg [(.int .i64 0),(.str ([]:List UInt8)),(.int .i64 0),(.int .i64 0),.nils,(.int .i64 0),(.int .i64 0),(.int .i64 0),(.int .i64 0)]):AV)) ((List.replicate (0:Int).toNat ((.agg [(.int .i64 0),(.str ([]:List UInt8)),(.int .i64 0),(.int .i64 0),.nils,(.int .i64 0),(.int .i64 0),(.int .i64 0),(.int .i64 0)]):AV)).length)&&true)then(qqr v1 (v1.length:Int) Ai Aj 0 (fun a2q1=>(bif hd a2q1 a2q1.length then(some (.agg [(.int .i64 Ai),(.fr true 9 a2q1)]))else none)) FU 0 (List.replicate (0:Int).toNat ((.agg [(.int .i64 0),(.str ([]:List UInt8)),(.int .i64 0),(.int .i64 0),.nils,(.int .i64 0),(.int .i64 0),(.int .i64 0),(.int .i64 0)]):AV)))else none)else none)
def qbo:=hull qhq
theorem q3o:qbo=qhq:=qa _
def qcw {R:Type}:EntF Tryz.prog R:=entB (nt:=27) (dec:=(decT [(.i .i64),(.fr true 9)])) (enc:=(qcf (.st [(.i .i64),(.fr true 9)]))) Tryz.func38 [(.cell 4 true 2)] hdeT (.s .z (.s .z (.s (.s .z (.b (.sub [.sel [2,4,5,11,12,13] [0,1,2]] qyf []))) .z))) S48_ qhq (fun f v=>f (v.i 1 0) (v.l 1 1) (v.l 4 0))
def qq5:Nat:=49
def S49_:Shp:=⟨[(1,.one (.l .fn)),(5,.one (.own 0)),(8,.one (.l (.sl 9))),(9,.one (.l (.i .i64))),(10,.one (.l (.i .i64)))],[.arr true 9]⟩
def qig (K:Ex->Env->Mem->Option (List AV)):=(fun z_a0=>K (.exit 0) (qe [(5,(.own 0 z_a0.length))]) (qd [(some (.arr true 9 z_a0))]))
def qca (v1:AV)(v8:LA)(v9 v10:Int)(a0:LA)(next:Int->(List AV)->Option (List AV))(kx0:(List AV)->Option (List AV)):Option (List AV):=
 (bif(decide (v10<v9))then(oB (ixB v8 v10) fun y1=>(bif fitC qb y1.cells then(oB (ap1.ap v1 [(.agg [(.int .i64 (gI y1.cells 0)),(.str (gS y1.cells 1)),(.int .i64 (gI y1.cells 2)),(.int .i64 (gI y1.cells 3)),(.sl 13 (gL y1.cells 4)),(.int .i64 (gI y1.cells 5)),(.int .i64 (gI y1.cells 6)),(.int .i64 (gI y1.cells 7)),(.int .i64 (gI y1.cells 8))])]) fun r2=>(bif r2 then(bif hd a0 a0.length then(bif hd ([(.agg [(.int .i64 (gI y1.cells 0)),(.str (gS y1.cells 1)),(.int .i64 (gI y1.cells 2)),(.int .i64 (gI y1.cells 3)),(.sl 13 (gL y1.cells 4)),(.int .i64 (gI y1.cells 5)),(.int .i64 (gI y1.cells 6)),(.int .i64 (gI y1.cells 7)),(.int .i64 (gI y1.cells 8))])]:List AV) (([(.agg [(.int .i64 (gI y1.cells 0)),(.str (gS y1.cells 1)),(.int .i64 (gI y1.cells 2)),(.int .i64 (gI y1.cells 3)),(.sl 13 (gL y1.cells 4)),(.int .i64 (gI y1.cells 5)),(.int .i64 (gI y1.cells 6)),(.int .i64 (gI y1.cells 7)),(.int .i64 (gI y1.cells 8))])]:List AV).length)then(bif decide ((a0.length+([(.agg [(.int .i64 (gI y1.cells 0)),(.str (gS y1.cells 1)),(.int .i64 (gI y1.cells 2)),(.int .i64 (gI y1.cells 3)),(.sl 13 (gL y1.cells 4)),(.int .i64 (gI y1.cells 5)),(.int .i64 (gI y1.cells 6)),(.int .i64 (gI y1.cells 7)),(.int .i64 (gI y1.cells 8))])]:List AV).length)*96<=140737488355328)then(next (i64.wrap (v10+1)) (a0++([(.agg [(.int .i64 (gI y1.cells 0)),(.str (gS y1.cells 1)),(.int .i64 (gI y1.cells 2)),(.int .i64 (gI y1.cells 3)),(.sl 13 (gL y1.cells 4)),(.int .i64 (gI y1.cells 5)),(.int .i64 (gI y1.cells 6)),(.int .i64 (gI y1.cells 7)),(.int .i64 (gI y1.cells 8))])]:List AV)))else none)else none)else none)else(next (i64.wrap (v10+1)) a0)))else none))else(kx0 a0))
def qbs (v1:AV)(v8:LA)(v9:Int)(kx0:(List AV)->Option (List AV)):Nat->Int->(List AV)->Option (List AV)
 |0=>(fun _ _=>none)
 |n+1=>(fun v10 a0=>qca v1 v8 v9 v10 a0 (qbs v1 v8 v9 kx0 n) kx0)
def qla:=hull (qbs)
theorem qq6:qla=qbs:=qa _
def qsf:SubB Tryz.prog (TIof Tryz.prog) 23 0 (kret [.t 4] (decF true 9)):=lpB Tryz.f48 75 (.s .z (.s (.s .z (.v [.sel [5] [0]])) (.s (.b (.s (.r [(0,.p (.etac 12 qb))] []) (.s (.r [(2,.q ap1)] []) .z))) (.v [.sel [1,5,8,9,10] [0]])))) S49_ (qbs) (fun f v K n=>f (v.f 4 0) (v.l 32 0) (v.i 36 0) (qig K) n) (fun v f K=>qca (v.f 4 0) (v.l 32 0) (v.i 36 0) (v.i 40 0) (v.r 0) f (qig K)) (fun f v=>f (v.i 40 0) (v.r 0)) (fun k v=>(fun z0 z1=>k ((v.ui 40 0 z0).ur 0 z1)))
def qeb (v0:LA)(v1:AV):Option (List AV):=
 (bif(hd ([]:List AV) (([]:List AV).length)&&true)then(qla v1 v0 (v0.length:Int) (fun a0q1=>(bif hd a0q1 a0q1.length then(some a0q1)else none)) FU 0 ([]:List AV))else none)
def qbc:=hull qeb
theorem qty:qbc=qeb:=qa _
def qb6 {R:Type}:EntF Tryz.prog R:=entB (nt:=23) (dec:=(decF true 9)) (enc:=(AV.fr true 9)) Tryz.func48 [.t 4] hdeF (.s .z (.s .z (.s (.s .z (.b (.sub [.own 5 9,.sel [1,5,8,9,10] [0]] qsf []))) .z))) S44_ qeb (fun f v=>f (v.l 0 0) (v.f 4 0))
def qxx (v0 v1:Int):Option Int:=
 (some (if 4294967295<(i64.wrap (v1+v0))then 4294967295 else(i64.wrap (v1+v0))))
def qwq:=hull qxx
theorem qbhl:qwq=qxx:=qa _
def q8x {R:Type}:EntF Tryz.prog R:=entB (nt:=9) (dec:=(decI .i64)) (enc:=(AV.int .i64)) Tryz.func51 [.t 4] hdeI (.z) S20_ qxx (fun f v=>f (v.i 0 0) (v.i 4 0))
def qgx:Nat:=73
def qob:Nat:=74
def qoc:Nat:=75
def qbhm {R:Type}(vs:LA)(m:Mem)(K:AV->Mem->Option R):Option R:=qxe 9 96 vs m K
theorem qbhn {R:Type}:qsb Tryz.prog 77 (qbhm (R:=R)):=qbnr (ρ:=q6w 77 97 98 0 3 4 23 47) tabOk (qbl6 follows "slices.Insert[[]ddi/cache.Entry,ddi/cache.Entry]" (by kernel_rfl) (by kernel_rfl) Tryz.func97 (by kernel_rfl) (by kernel_rfl) (by kernel_rfl) (by kernel_rfl) (by kernel_rfl) (by kernel_rfl) (by kernel_rfl) (by kernel_rfl) (by kernel_rfl) (by kernel_rfl) (by kernel_rfl) (by kernel_rfl) (by kernel_rfl) (by kernel_rfl) (by kernel_rfl) (by kernel_rfl) (by kernel_rfl)) (by kernel_rfl) (by kernel_rfl) (by decide) (by decide)
def qod:Nat:=78
def qbho {R:Type}(vs:LA)(m:Mem)(K:AV->Mem->Option R):Option R:=qxd 9 vs m K
theorem qbhp {R:Type}:qsb Tryz.prog 79 (qbho (R:=R)):=qbnq (ρ:=q6v 79 0 3 4 23 47) tabOk (qbl5 follows "slices.Delete[[]ddi/cache.Entry,ddi/cache.Entry]" (by kernel_rfl) (by kernel_rfl) (by kernel_rfl) (by kernel_rfl) (by kernel_rfl) (by kernel_rfl) (by kernel_rfl) (by kernel_rfl) (by kernel_rfl) (by kernel_rfl) (by kernel_rfl) (by kernel_rfl) (by kernel_rfl) (by kernel_rfl)) (by kernel_rfl) (by decide)
def qbp (x0:Int)(x1:LU)(x2 x3:Int)(x4:LA)(x5 x6 x7 x8:Int):List AV:=[.int .i64 x0,.str x1,.int .i64 x2,.int .i64 x3,.sl 13 x4,.int .i64 x5,.int .i64 x6,.int .i64 x7,.int .i64 x8]
def S50_:Shp:=⟨[(3,.one (.ptr 0 0)),(4,.cptr qb),(5,.one (.ptr 1 0)),(6,.one (.ptr 2 0)),(7,.cptr [.fn]),(8,.one (.own 3)),(9,.one (.l (.i .i64)))],[.box true [(.l (.i .i64)),(.l (.sl 9))],.box true [(.l (.i .i64))],.box true [(.l (.i .i64)),(.l .nil)],.arr true 9]⟩
def S51_:Shp:=⟨[(3,.one (.ptr 0 0)),(5,.one (.ptr 1 0)),(6,.one (.ptr 2 0)),(7,.cptr [.fn]),(8,.one (.own 3))],[.box true [(.l (.i .i64)),(.l (.sl 9))],.box true [(.l (.i .i64))],.box true [(.l (.i .i64)),(.l .nil)],.arr true 9]⟩
def S52_:Shp:=⟨[(3,.one (.ptr 0 0)),(6,.one (.ptr 1 0)),(7,.cptr [.fn]),(8,.one (.own 2)),(10,.one (.l (.i .i64))),(11,.one (.l (.i .i64))),(12,.one (.ptr 3 0)),(48,.one (.own 2)),(49,.one (.l (.i .i64))),(50,.one (.l (.i .i64)))],[.box true [(.l (.i .i64)),(.l (.sl 9))],.box true [(.l (.i .i64)),(.l .nil)],.arr true 9,.box true (lk qb)]⟩
def S53_:Shp:=⟨[(3,.one (.ptr 0 0)),(6,.one (.ptr 1 0)),(7,.cptr [.fn]),(8,.one (.own 2)),(10,.one (.l (.i .i64))),(48,.one (.own 2)),(49,.one (.l (.i .i64))),(50,.one (.l (.i .i64)))],[.box true [(.l (.i .i64)),(.l (.sl 9))],.box true [(.l (.i .i64)),(.l .nil)],.arr true 9]⟩
def S54_:Shp:=⟨[(3,.one (.ptr 0 0)),(6,.one (.ptr 1 0)),(7,.cptr [.fn]),(8,.one (.own 2))],[.box true [(.l (.i .i64)),(.l (.sl 9))],.box true [(.l (.i .i64)),(.l .nil)],.arr true 9]⟩
def S55_:Shp:=⟨[(0,.st [(.l (.i .i64)),(.l (.sl 9))]),(1,.st (lk qb)),(2,.one (.l (.i .i64)))],[]⟩
def q74 (Bo:Int)(Bp:LU)(Bq Br:Int)(Bs:LA)(Bt Bu Bv Bw:Int)(Bx:AV)(Aa:Int)(Ab:LA)(Ae By:Int)(a3:LA)(K:Ex->Env->Mem->Option AV):=(fun z_v9=>K .norm (qe [(3,(.ptr 0 0)),(4,.cptr (qbp Bo Bp Bq Br Bs Bt Bu Bv Bw)),(5,(.ptr 1 0)),(6,(.ptr 2 0)),(7,.cptr [(.fv Bx)]),(8,(.own 3 a3.length)),(9,(.int .i64 z_v9))]) (qd [(some (.box true [(.int .i64 Aa),(.sl 9 Ab)])),(some (.box true [(.int .i64 Ae)])),(some (.box true [(.int .i64 By),.nils])),(some (.arr true 9 a3))]))
def qjl (Bo:Int)(Bp:LU)(Bq Br:Int)(Bs:LA)(Bt Bu Bv Bw:Int)(Bx:AV)(v9 Aa:Int)(Ab:LA)(Ae By:Int)(a3:LA)(kn:Int->Option AV):Option AV:=
 (bif(decide (v9<0))then(kn (a3.length:Int))else(kn v9))
def qq7:=hull (qjl)
theorem q75:qq7=qjl:=qa _
def q9w:SubB Tryz.prog (TIof Tryz.prog) 83 0 (kret [(.cell 6 true 2)] (decT [(.i .i64),(.sl 9)])):=jnB Tryz.f50 47 (.s .z (.s (.v [.sel [3,4,5,6,7,8,9] [0,1,2,3]]) (.v [.sel [3,4,5,6,7,8,9] [0,1,2,3]]))) S50_ (qjl) (fun f v K=>f (v.i 18 0) (v.s 18 1) (v.i 18 2) (v.i 18 3) (v.l 18 4) (v.i 18 5) (v.i 18 6) (v.i 18 7) (v.i 18 8) (v.f 30 0) (v.i 36 0) (v.i 3 0) (v.l 3 1) (v.i 7 0) (v.i 11 0) (v.r 3) (q74 (v.i 18 0) (v.s 18 1) (v.i 18 2) (v.i 18 3) (v.l 18 4) (v.i 18 5) (v.i 18 6) (v.i 18 7) (v.i 18 8) (v.f 30 0) (v.i 3 0) (v.l 3 1) (v.i 7 0) (v.i 11 0) (v.r 3) K))
def q5a (Bx:AV)(Aa:Int)(Ab:LA)(By:Int)(K:Ex->Env->Mem->Option AV):=(fun z_a2=>K .norm (qe [(3,(.ptr 0 0)),(6,(.ptr 1 0)),(7,.cptr [(.fv Bx)]),(8,(.own 2 z_a2.length))]) (qd [(some (.box true [(.int .i64 Aa),(.sl 9 Ab)])),(some (.box true [(.int .i64 By),.nils])),(some (.arr true 9 z_a2))]))
def qis (Bx:AV)(Aa:Int)(Ab:LA)(Ae By:Int)(a3:LA)(kn:(List AV)->Option AV):Option AV:=
 (bif(decide ((a3.length:Int)>Aa))then(bif hd a3 a3.length then(oB (qbc a3 (.func qod [(.cptr [(.fv Bx)]),(.cptr [(.int .i64 Ae)])])) fun r1=>(kn r1))else none)else(kn a3))
def qlb:=hull (qis)
theorem q5b:qlb=qis:=qa _
def q76:SubB Tryz.prog (TIof Tryz.prog) 83 0 (kret [(.cell 6 true 2)] (decT [(.i .i64),(.sl 9)])):=jnB Tryz.f50 191 (.s .z (.s (.r [(1,.s (.cls 5)),(2,.c qb6.b)] [.sel [3,6,7,8] [0,2,4]]) (.v [.sel [3,6,7,8] [0,2,3]]))) S51_ (qis) (fun f v K=>f (v.f 30 0) (v.i 3 0) (v.l 3 1) (v.i 7 0) (v.i 11 0) (v.r 3) (q5a (v.f 30 0) (v.i 3 0) (v.l 3 1) (v.i 11 0) K))
def q5c (Bx:AV)(v10 v11 v49 v50 Aa:Int)(Ab:LA)(Ae:Int)(a2:LA)(K:Ex->Env->Mem->Option AV):=(fun z_v72=>K .norm (qe [(3,(.ptr 0 0)),(6,(.ptr 1 0)),(7,.cptr [(.fv Bx)]),(8,(.own 2 a2.length)),(10,(.int .i64 v10)),(11,(.int .i64 v11)),(48,(.own 2 a2.length)),(49,(.int .i64 v49)),(50,(.int .i64 v50)),(72,(.bool z_v72))]) (qd [(some (.box true [(.int .i64 Aa),(.sl 9 Ab)])),(some (.box true [(.int .i64 Ae),.nils])),(some (.arr true 9 a2))]))
def qit (Bx:AV)(v10 v11 v49 v50 Aa:Int)(Ab:LA)(Ae:Int)(a2:LA)(Bz:Int)(B0:LU)(B1 B2:Int)(B3:LA)(B4 B5 B6 B7:Int)(kn:Bool->Option AV):Option AV:=
 (oB (ap1.ap Bx [(.agg [(.int .i64 Bz),(.str B0),(.int .i64 B1),(.int .i64 B2),(.sl 13 B3),(.int .i64 B4),(.int .i64 B5),(.int .i64 B6),(.int .i64 B7)])]) fun r1=>(bif(!r1)then(bif(decide (v10<0))then(kn true)else(bif hd a2 a2.length then(bif decide (0<=v10/\v10<a2.length)then(bif hd a2 a2.length then(bif hd a2 a2.length then(oB (a2[v10.toNat]?) fun y2=>(oB (rdE y2 8 false 1) fun z3=>(bif fitV (.one (.i .i64)) z3 then(kn (decide (B7<(aI z3))))else none)))else none)else none)else none)else none))else(kn false)))
def qwr:=hull (qit)
theorem q5d:qwr=qit:=qa _
def q77:SubB Tryz.prog (TIof Tryz.prog) 83 0 (kret [(.cell 6 true 2)] (decT [(.i .i64),(.sl 9)])):=jnB Tryz.f50 10900607 (.d [] [(2,.q ap1),(14,.p (.eta 69 (.one (.i .i64))))] [] [.sel [3,6,7,8,10,11,48,49,50,72] [0,1,2]]) S52_ (qit) (fun f v K=>f (v.f 30 0) (v.i 40 0) (v.i 44 0) (v.i 196 0) (v.i 200 0) (v.i 3 0) (v.l 3 1) (v.i 7 0) (v.r 2) (v.i 15 0) (v.s 15 1) (v.i 15 2) (v.i 15 3) (v.l 15 4) (v.i 15 5) (v.i 15 6) (v.i 15 7) (v.i 15 8) (q5c (v.f 30 0) (v.i 40 0) (v.i 44 0) (v.i 196 0) (v.i 200 0) (v.i 3 0) (v.l 3 1) (v.i 7 0) (v.r 2) K))
def qqs (Bx:AV)(Aa:Int)(Ab:LA)(Ae:Int)(a2:LA)(K:Ex->Env->Mem->Option AV):=(fun z_v10=>K (.exit 2) (qe [(3,(.ptr 0 0)),(6,(.ptr 1 0)),(7,.cptr [(.fv Bx)]),(8,(.own 2 a2.length)),(10,(.int .i64 z_v10))]) (qd [(some (.box true [(.int .i64 Aa),(.sl 9 Ab)])),(some (.box true [(.int .i64 Ae),.nils])),(some (.arr true 9 a2))]))
def qf4 (Bx:AV)(v10 v49 v50 Aa:Int)(Ab:LA)(Ae:Int)(a2:LA)(next:Int->Int->Option AV)(kx2:Int->Option AV):Option AV:=
 (bif(decide (v50<v49))then(bif hd a2 a2.length then(bif decide (0<=v50/\v50<a2.length)then(bif hd a2 a2.length then(oB (a2[v50.toNat]?) fun y1=>(oB (rdE y1 0 true 9) fun z2=>(bif fitV (.st qb) z2 then(bif(hd a2 (a2.length)&&(hd a2 (a2.length)&&true))then(qwr Bx v10 v50 v49 v50 Aa Ab Ae a2 (gI z2.cells 0) (gS z2.cells 1) (gI z2.cells 2) (gI z2.cells 3) (gL z2.cells 4) (gI z2.cells 5) (gI z2.cells 6) (gI z2.cells 7) (gI z2.cells 8) (fun v72q3=>(bif v72q3 then(next v50 (i64.wrap (v50+1)))else(next v10 (i64.wrap (v50+1))))))else none)else none)))else none)else none)else none)else(kx2 v10))
def qf5 (Bx:AV)(v49 Aa:Int)(Ab:LA)(Ae:Int)(a2:LA)(kx2:Int->Option AV):Nat->Int->Int->Option AV
 |0=>(fun _ _=>none)
 |n+1=>(fun v10 v50=>qf4 Bx v10 v49 v50 Aa Ab Ae a2 (qf5 Bx v49 Aa Ab Ae a2 kx2 n) kx2)
def qpt:=hull (qf5)
theorem q5e:qpt=qf5:=qa _
def q78:SubB Tryz.prog (TIof Tryz.prog) 83 0 (kret [(.cell 6 true 2)] (decT [(.i .i64),(.sl 9)])):=lpB Tryz.f50 152703 (.s .z (.s (.s .z (.v [.sel [3,6,7,8,10] [0,1,2]])) (.s (.b (.s (.r [(2,.p (.eta 54 (.st qb)))] []) (.s (.sub [.sel [3,6,7,8,10,11,12,48,49,50] [0,1,2,3]] q77 []) .z))) (.v [.sel [3,6,7,8,10,48,49,50] [0,1,2]])))) S53_ (qf5) (fun f v K n=>f (v.f 30 0) (v.i 196 0) (v.i 3 0) (v.l 3 1) (v.i 7 0) (v.r 2) (qqs (v.f 30 0) (v.i 3 0) (v.l 3 1) (v.i 7 0) (v.r 2) K) n) (fun v f K=>qf4 (v.f 30 0) (v.i 40 0) (v.i 196 0) (v.i 200 0) (v.i 3 0) (v.l 3 1) (v.i 7 0) (v.r 2) f (qqs (v.f 30 0) (v.i 3 0) (v.l 3 1) (v.i 7 0) (v.r 2) K)) (fun f v=>f (v.i 40 0) (v.i 200 0)) (fun k v=>(fun z0 z1=>k ((v.ui 40 0 z0).ui 200 0 z1)))
def qqt (Aa:Int)(Ab:LA)(Ae:Int)(K:Ex->Env->Mem->Option AV):=(fun z_a2=>K (.exit 0) (qe [(3,(.ptr 0 0)),(6,(.ptr 1 0)),(8,(.own 2 z_a2.length))]) (qd [(some (.box true [(.int .i64 Aa),(.sl 9 Ab)])),(some (.box true [(.int .i64 Ae),.nils])),(some (.arr true 9 z_a2))]))
def qer (Bx:AV)(Aa:Int)(Ab:LA)(Ae:Int)(a2:LA)(next:(List AV)->Option AV)(kx0:(List AV)->Option AV):Option AV:=
 (bif((decide ((a2.length:Int)>Aa))&&(decide ((a2.length:Int)>1)))then(bif(hd a2 (a2.length)&&(hd a2 (a2.length)&&true))then(qpt Bx (a2.length:Int) Aa Ab Ae a2 (fun v10q1=>(bif hd a2 a2.length then(oB (qz1 a2 v10q1 (i64.wrap (v10q1+1))) fun r2=>(next r2))else none)) FU (-1) 0)else none)else(kx0 a2))
def qcj (Bx:AV)(Aa:Int)(Ab:LA)(Ae:Int)(kx0:(List AV)->Option AV):Nat->(List AV)->Option AV
 |0=>(fun _=>none)
 |n+1=>(fun a2=>qer Bx Aa Ab Ae a2 (qcj Bx Aa Ab Ae kx0 n) kx0)
def qws:=hull (qcj)
theorem q5f:qws=qcj:=qa _
def q79:SubB Tryz.prog (TIof Tryz.prog) 83 0 (kret [(.cell 6 true 2)] (decT [(.i .i64),(.sl 9)])):=lpB Tryz.f50 1151 (.s (.s (.r [(6,.g 3)] []) (.s .z (.v [.sel [3,6,8] [0,1,2]]))) (.b (.s .z (.s (.s .z (.b (.sub [.sel [3,6,7,8,10,48,49,50] [0,1,2]] q78 []))) (.r [(4,.r (rB qbhp))] [.sel [3,6,7,8] [0,1,3]]))))) S54_ (qcj) (fun f v K n=>f (v.f 30 0) (v.i 3 0) (v.l 3 1) (v.i 7 0) (qqt (v.i 3 0) (v.l 3 1) (v.i 7 0) K) n) (fun v f K=>qer (v.f 30 0) (v.i 3 0) (v.l 3 1) (v.i 7 0) (v.r 2) f (qqt (v.i 3 0) (v.l 3 1) (v.i 7 0) K)) (fun f v=>f (v.r 2)) (fun k v=>(fun z0=>k (v.ur 2 z0)))
def qn1 (Ai:Int)(Aj:LA)(Am:Int)(An:LU)(Ao Ap:Int)(Az:LA)(A0 A1 A2 A3 v2:Int):Option AV:=
 (oB (qbc Aj (.func qob [(.cptr [(.fv (.func qgx [(.cptr [(.int .i64 Am),(.str An),(.int .i64 Ao),(.int .i64 Ap),(.sl 13 Az),(.int .i64 A0),(.int .i64 A1),(.int .i64 A2),(.int .i64 A3)])]))])])) fun r1=>(bif hd r1 r1.length then(oB (qbv r1 (.func qoc [(.cptr [(.int .i64 Am),(.str An),(.int .i64 Ao),(.int .i64 Ap),(.sl 13 Az),(.int .i64 A0),(.int .i64 A1),(.int .i64 A2),(.int .i64 A3)])])) fun r2=>(bif(hd r1 (r1.length)&&true)then(qq7 Am An Ao Ap Az A0 A1 A2 A3 (.func qgx [(.cptr [(.int .i64 Am),(.str An),(.int .i64 Ao),(.int .i64 Ap),(.sl 13 Az),(.int .i64 A0),(.int .i64 A1),(.int .i64 A2),(.int .i64 A3)])]) r2 Ai Aj v2 0 r1 (fun v9q3=>(bif hd r1 r1.length then(bif hd ([(.agg [(.int .i64 Am),(.str An),(.int .i64 Ao),(.int .i64 Ap),(.sl 13 Az),(.int .i64 A0),(.int .i64 A1),(.int .i64 A2),(.int .i64 A3)])]:List AV) (([(.agg [(.int .i64 Am),(.str An),(.int .i64 Ao),(.int .i64 Ap),(.sl 13 Az),(.int .i64 A0),(.int .i64 A1),(.int .i64 A2),(.int .i64 A3)])]:List AV).length)then(oB (quj 96 r1 v9q3 ([(.agg [(.int .i64 Am),(.str An),(.int .i64 Ao),(.int .i64 Ap),(.sl 13 Az),(.int .i64 A0),(.int .i64 A1),(.int .i64 A2),(.int .i64 A3)])]:List AV)) fun r4=>(bif(hd r4 (r4.length)&&true)then(qlb (.func qgx [(.cptr [(.int .i64 Am),(.str An),(.int .i64 Ao),(.int .i64 Ap),(.sl 13 Az),(.int .i64 A0),(.int .i64 A1),(.int .i64 A2),(.int .i64 A3)])]) Ai Aj v2 0 r4 (fun a2q5=>(bif(hd a2q5 (a2q5.length)&&true)then(qws (.func qgx [(.cptr [(.int .i64 Am),(.str An),(.int .i64 Ao),(.int .i64 Ap),(.sl 13 Az),(.int .i64 A0),(.int .i64 A1),(.int .i64 A2),(.int .i64 A3)])]) Ai Aj 0 (fun a2q6=>(bif hd a2q6 a2q6.length then(oB (qbo Ai Aj a2q6) fun r7=>(some (.agg [(.int .i64 (gI r7.cells 0)),(.sl 9 (gL r7.cells 1))])))else none)) FU a2q5)else none)))else none))else none)else none)))else none))else none))
def qia:=hull qn1
theorem qbdw:qia=qn1:=qa _
def q24 {R:Type}:EntF Tryz.prog R:=entB (nt:=83) (dec:=(decT [(.i .i64),(.sl 9)])) (enc:=(qcf (.st [(.i .i64),(.sl 9)]))) Tryz.func50 [(.cell 6 true 2)] hdeT (.s .z (.s (.r [(0,.s (.cls 4))] []) (.s (.r [(2,.s (.cls 7)),(3,.c qb6.b)] []) (.s (.r [(2,.c qco.b)] []) (.s (.sub [.sel [3,4,5,6,7,8,9] [0,2,3,5]] q9w []) (.s (.r [(4,.r (rB qbhn))] []) (.s (.sub [.sel [3,5,6,7,8] [0,1,2,5]] q76 []) (.s (.b (.sub [.sel [3,6,7,8] [0,1,2]] q79 [])) (.s (.r [(2,.k qcw.b)] []) .z))))))))) S55_ qn1 (fun f v=>f (v.i 1 0) (v.l 1 1) (v.i 5 0) (v.s 5 1) (v.i 5 2) (v.i 5 3) (v.l 5 4) (v.i 5 5) (v.i 5 6) (v.i 5 7) (v.i 5 8) (v.i 8 0))
def qlt (x0:LU)(x1 x2:Int)(x3:LA):List AV:=[.str x0,.int .i64 x1,.int .i64 x2,.sl 13 x3]
def S56_:Shp:=⟨[(2,.one (.l (.i .i64))),(3,.one (.l (.i .i64))),(4,.one (.l (.i .i64))),(5,.one (.ptr 0 0)),(6,.cptr qb9),(10,.one (.ptr 1 0)),(11,.one (.l .fn))],[.box true [(.l (.i .i64)),(.l (.sl 9))],.box true [(.l (.i .i64)),(.l .nil)]]⟩
def S57_:Shp:=⟨[(0,.st [(.l (.i .i64)),(.l (.sl 9))]),(1,.st (lk qb9)),(2,.one (.l (.i .i64))),(3,.one (.l (.i .i64))),(4,.one (.l (.i .i64)))],[]⟩
def qbbj (v2 v3 v4:Int)(B8:LU)(B9 Ca:Int)(Cb:LA)(Aa:Int)(Ab:LA)(Ae:Int)(K:Ex->Env->Mem->Option AV):=(fun z_v31=>K .norm (qe [(2,(.int .i64 v2)),(3,(.int .i64 v3)),(4,(.int .i64 v4)),(5,(.ptr 0 0)),(6,.cptr (qlt B8 B9 Ca Cb)),(10,(.ptr 1 0)),(31,(.bool z_v31))]) (qd [(some (.box true [(.int .i64 Aa),(.sl 9 Ab)])),(some (.box true [(.int .i64 Ae),.nils]))]))
def qme (v2 v3 v4:Int)(B8:LU)(B9 Ca:Int)(Cb:LA)(v11:AV)(Aa:Int)(Ab:LA)(Ae:Int)(kn:Bool->Option AV):Option AV:=
 (oB (qq1 B8 B9 Ca Cb) fun r1=>(bif(((!r1)||(decide (v4<0)))||(decide (v4>4294967295)))then(kn true)else(oB (qi6 Aa Ab v2 v4 v11) fun r2=>(kn r2))))
def qu0:=hull (qme)
theorem qbbk:qu0=qme:=qa _
def qbdx:SubB Tryz.prog (TIof Tryz.prog) 55 0 (kret [(.cell 10 true 2)] (decT [(.i .i64),(.sl 9)])):=jnB Tryz.f19 19 (.r [(1,.c q9n.b),(4,.g 2),(8,.g 2),(16,.c quz.b)] [.sel [2,3,4,5,6,10,31] [0,1]]) S56_ (qme) (fun f v K=>f (v.i 8 0) (v.i 12 0) (v.i 16 0) (v.s 26 0) (v.i 26 1) (v.i 26 2) (v.l 26 3) (v.f 44 0) (v.i 3 0) (v.l 3 1) (v.i 7 0) (qbbj (v.i 8 0) (v.i 12 0) (v.i 16 0) (v.s 26 0) (v.i 26 1) (v.i 26 2) (v.l 26 3) (v.i 3 0) (v.l 3 1) (v.i 7 0) K))
def qr0 (Ai:Int)(Aj:LA)(Am:LU)(An Ao:Int)(Ap:LA)(v2 v3 v4:Int):Option AV:=
 (qu0 v2 v3 v4 Am An Ao Ap (.func ql9 [(.cptr [(.str Am),(.int .i64 An),(.int .i64 Ao),(.sl 13 Ap)])]) Ai Aj 0 (fun v31q1=>(bif v31q1 then(oB (qbo Ai Aj Aj) fun r2=>(some (.agg [(.int .i64 (gI r2.cells 0)),(.sl 9 (gL r2.cells 1))])))else(oB (qbc Aj (.func qq5 [(.cptr [(.str Am),(.int .i64 An),(.int .i64 Ao),(.sl 13 Ap)])])) fun r3=>(oB (qwq Ao v4) fun r4=>(oB (qia Ai r3 0 Am An Ao Ap v2 v3 r4 v4 v4) fun r5=>(some (.agg [(.int .i64 (gI r5.cells 0)),(.sl 9 (gL r5.cells 1))]))))))))
def qhr:=hull qr0
theorem qbhq:qhr=qr0:=qa _
def qr1 {R:Type}:EntF Tryz.prog R:=entB (nt:=55) (dec:=(decT [(.i .i64),(.sl 9)])) (enc:=(qcf (.st [(.i .i64),(.sl 9)]))) Tryz.func19 [(.cell 10 true 2)] hdeT (.s .z (.s (.r [(0,.s (.cls 6))] []) (.s (.s (.sub [.sel [2,3,4,5,6,10,11] [0,2]] qbdx []) (.s (.s (.r [(3,.k qcw.b)] []) .z) .z)) (.s (.d [] [(5,.c qb6.b)] [] []) (.s (.d [] [(7,.c q8x.b)] [(0,.k q24.b)] []) .z))))) S57_ qr0 (fun f v=>f (v.i 1 0) (v.l 1 1) (v.s 5 0) (v.i 5 1) (v.i 5 2) (v.l 5 3) (v.i 8 0) (v.i 12 0) (v.i 16 0))
def qq8:Nat:=32
def qq9:Nat:=35
def qra:Nat:=36
def S58_:Shp:=⟨[(3,.one (.ptr 0 0)),(4,.cptr [.s,(.i .i64)]),(5,.cptr [(.i .i64)]),(6,.one (.ptr 1 0)),(7,.one (.ptr 2 0)),(9,.one (.l (.i .i64)))],[.box true [(.l (.i .i64)),(.l (.sl 9))],.box true [(.l (.i .i64)),(.l .nil)],.box true [(.l (.i .i64)),(.l .s),(.l (.i .i64)),(.l (.i .i64)),(.l .nil),(.l (.i .i64)),(.l (.i .i64)),(.l (.i .i64)),(.l (.i .i64))]]⟩
def S59_:Shp:=⟨[(0,.st [(.l (.i .i64)),(.l (.sl 9))]),(1,.st [(.l .s),(.l (.i .i64))]),(2,.one (.l (.i .i64)))],[]⟩
def qs7:AV->Option (AV×AV×Bool):=decN [(.st [(.i .i64),(.sl 9)]),(.st [(.i .i64),.s,(.i .i64),(.i .i64),(.sl 13),(.i .i64),(.i .i64),(.i .i64),(.i .i64)]),(.one .b)] fun z=>((gC (tpL z) 0),(gC (tpL z) 1),aB (gC (tpL z) 2))
def qbbl (Bo:LU)(Bp Cc Aa:Int)(Ab:LA)(Ae By:Int)(Cd:LU)(Ce Cf Cg Ch Ci Cj:Int)(K:Ex->Env->Mem->Option (AV×AV×Bool)):=(fun z_v9=>K .norm (qe [(3,(.ptr 0 0)),(4,.cptr [(.str Bo),(.int .i64 Bp)]),(5,.cptr [(.int .i64 Cc)]),(6,(.ptr 1 0)),(7,(.ptr 2 0)),(9,(.int .i64 z_v9))]) (qd [(some (.box true [(.int .i64 Aa),(.sl 9 Ab)])),(some (.box true [(.int .i64 Ae),.nils])),(some (.box true [(.int .i64 By),(.str Cd),(.int .i64 Ce),(.int .i64 Cf),.nils,(.int .i64 Cg),(.int .i64 Ch),(.int .i64 Ci),(.int .i64 Cj)]))]))
def qmf (Bo:LU)(Bp Cc v9 Aa:Int)(Ab:LA)(Ae By:Int)(Cd:LU)(Ce Cf Cg Ch Ci Cj:Int)(kn:Int->Option (AV×AV×Bool)):Option (AV×AV×Bool):=
 (bif(decide (v9<0))then(oB (qbv Ab (.func qq9 [(.cptr [(.int .i64 Cc)]),(.cptr [(.str Bo),(.int .i64 Bp)])])) fun r1=>(kn r1))else(kn v9))
def qpu:=hull (qmf)
theorem qbbm:qpu=qmf:=qa _
def qbdy:SubB Tryz.prog (TIof Tryz.prog) 57 0 (kret [(.cell 6 true 2),(.cell 7 true 9),.t 8] qs7):=jnB Tryz.f11 11 (.s .z (.s (.r [(3,.c qco.b)] [.sel [3,4,5,6,7,9] [0,1,2]]) (.v [.sel [3,4,5,6,7,9] [0,1,2]]))) S58_ (qmf) (fun f v K=>f (v.s 18 0) (v.i 18 1) (v.i 22 0) (v.i 36 0) (v.i 3 0) (v.l 3 1) (v.i 7 0) (v.i 11 0) (v.s 11 1) (v.i 11 2) (v.i 11 3) (v.i 11 5) (v.i 11 6) (v.i 11 7) (v.i 11 8) (qbbl (v.s 18 0) (v.i 18 1) (v.i 22 0) (v.i 3 0) (v.l 3 1) (v.i 7 0) (v.i 11 0) (v.s 11 1) (v.i 11 2) (v.i 11 3) (v.i 11 5) (v.i 11 6) (v.i 11 7) (v.i 11 8) K))
def q9x (Cc Aa:Int)(Ab:LA)(Ae By:Int)(Cd:LU)(Ce Cf Cg Ch Ci Cj:Int)(K:Ex->Env->Mem->Option (AV×AV×Bool)):=(fun z_v9=>K .norm (qe [(3,(.ptr 0 0)),(5,.cptr [(.int .i64 Cc)]),(6,(.ptr 1 0)),(7,(.ptr 2 0)),(9,(.int .i64 z_v9))]) (qd [(some (.box true [(.int .i64 Aa),(.sl 9 Ab)])),(some (.box true [(.int .i64 Ae),.nils])),(some (.box true [(.int .i64 By),(.str Cd),(.int .i64 Ce),(.int .i64 Cf),.nils,(.int .i64 Cg),(.int .i64 Ch),(.int .i64 Ci),(.int .i64 Cj)]))]))
def qlc (Bo:LU)(Bp Cc v9 Aa:Int)(Ab:LA)(Ae By:Int)(Cd:LU)(Ce Cf Cg Ch Ci Cj:Int)(kn:Int->Option (AV×AV×Bool)):Option (AV×AV×Bool):=
 (bif(decide (v9<0))then(oB (qbv Ab (.func qra [(.cptr [(.int .i64 Cc)]),(.cptr [(.str Bo),(.int .i64 Bp)])])) fun r1=>(kn r1))else(kn v9))
def qn2:=hull (qlc)
theorem q9y:qn2=qlc:=qa _
def qbbn:SubB Tryz.prog (TIof Tryz.prog) 57 0 (kret [(.cell 6 true 2),(.cell 7 true 9),.t 8] qs7):=jnB Tryz.f11 23 (.s .z (.s (.r [(3,.c qco.b)] [.sel [3,5,6,7,9] [0,1,2]]) (.v [.sel [3,5,6,7,9] [0,1,2]]))) S58_ (qlc) (fun f v K=>f (v.s 18 0) (v.i 18 1) (v.i 22 0) (v.i 36 0) (v.i 3 0) (v.l 3 1) (v.i 7 0) (v.i 11 0) (v.s 11 1) (v.i 11 2) (v.i 11 3) (v.i 11 5) (v.i 11 6) (v.i 11 7) (v.i 11 8) (q9x (v.i 22 0) (v.i 3 0) (v.l 3 1) (v.i 7 0) (v.i 11 0) (v.s 11 1) (v.i 11 2) (v.i 11 3) (v.i 11 5) (v.i 11 6) (v.i 11 7) (v.i 11 8) K))
def qr2 (Ai:Int)(Aj:LA)(Am:LU)(An v2:Int):Option (AV×AV×Bool):=
 (oB (qbv Aj (.func qq8 [(.cptr [(.int .i64 v2)]),(.cptr [(.str Am),(.int .i64 An)])])) fun r1=>(qpu Am An v2 r1 Ai Aj 0 0 ([]:List UInt8) 0 0 0 0 0 0 (fun v9q2=>(qn2 Am An v2 v9q2 Ai Aj 0 0 ([]:List UInt8) 0 0 0 0 0 0 (fun v9q3=>(oB (qbo Ai Aj Aj) fun r4=>(bif(decide (v9q3<0))then(bif hd (gL r4.cells 1) ((gL r4.cells 1).length)then(some ((.agg [(.int .i64 (gI r4.cells 0)),(.sl 9 (gL r4.cells 1))]),(.agg [(.int .i64 0),(.str ([]:List UInt8)),(.int .i64 0),(.int .i64 0),(.sl 13 ([]:List AV)),(.int .i64 0),(.int .i64 0),(.int .i64 0),(.int .i64 0)]),false))else none)else(bif hd (gL r4.cells 1) ((gL r4.cells 1).length)then(bif decide (0<=v9q3/\v9q3<((gL r4.cells 1).length))then(bif hd (gL r4.cells 1) ((gL r4.cells 1).length)then(bif hd (gL r4.cells 1) ((gL r4.cells 1).length)then(oB ((gL r4.cells 1)[v9q3.toNat]?) fun y5=>(oB (putE y5 8 1 [(.int .i64 v2)]) fun z6=>(bif hd ((gL r4.cells 1).set v9q3.toNat z6) ((gL r4.cells 1).length)then(bif decide (0<=v9q3/\v9q3<((gL r4.cells 1).length))then(bif hd ((gL r4.cells 1).set v9q3.toNat z6) ((gL r4.cells 1).length)then(oB (((gL r4.cells 1).set v9q3.toNat z6)[v9q3.toNat]?) fun y7=>(oB (rdE y7 0 true 9) fun z8=>(bif fitV (.st qb) z8 then(oB (qhp (gI z8.cells 0) (gS z8.cells 1) (gI z8.cells 2) (gI z8.cells 3) (gL z8.cells 4) (gI z8.cells 5) (gI z8.cells 6) (gI z8.cells 7) (gI z8.cells 8)) fun r9=>(bif hd ((gL r4.cells 1).set v9q3.toNat z6) ((gL r4.cells 1).length)then(some ((.agg [(.int .i64 (gI r4.cells 0)),(.sl 9 ((gL r4.cells 1).set v9q3.toNat z6))]),(.agg [(.int .i64 (gI r9.cells 0)),(.str (gS r9.cells 1)),(.int .i64 (gI r9.cells 2)),(.int .i64 (i64.wrap ((gI r9.cells 7)-(if 0>v2 then 0 else v2)))),(.sl 13 (gL r9.cells 4)),(.int .i64 (gI r9.cells 5)),(.int .i64 (gI r9.cells 6)),(.int .i64 (gI r9.cells 7)),(.int .i64 (gI r9.cells 8))]),true))else none))else none)))else none)else none)else none)))else none)else none)else none)else none))))))))
def qjd:=hull qr2
theorem qbhr:qjd=qr2:=qa _
def qnb {R:Type}:EntF Tryz.prog R:=entB (nt:=57) (dec:=qs7) (enc:=(fun r=>.tup [qcf (.st [(.i .i64),(.sl 9)]) r.1,qcf (.st [(.i .i64),.s,(.i .i64),(.i .i64),(.sl 13),(.i .i64),(.i .i64),(.i .i64),(.i .i64)]) r.2.1,.bool r.2.2])) Tryz.func11 [(.cell 6 true 2),(.cell 7 true 9),.t 8] (hdeN fun _=>rfl) (.s .z (.s (.r [(2,.s (.cls 4)),(2,.s (.cls 5)),(3,.c qco.b)] []) (.s (.sub [.sel [3,4,5,6,7,9] [0,3,4]] qbdy []) (.s (.sub [.sel [3,4,5,6,7,9] [0,1,2]] qbbn []) (.s (.r [(3,.c qcw.b)] []) (.s (.s .z (.s (.s .z (.v [.snapb 1,.nilc 2 4 13])) .z)) (.s .z (.s (.r [(4,.p (.eta 46 (.st qb))),(5,.k qxv.b)] []) (.s .z (.s .z (.v [.snapb 1]))))))))))) S59_ qr2 (fun f v=>f (v.i 1 0) (v.l 1 1) (v.s 5 0) (v.i 5 1) (v.i 8 0))
def qwt:Nat:=53
def qwu:Nat:=54
def qpv:Nat:=55
def qld:Nat:=56
def S60_:Shp:=⟨[(2,.one (.l .b)),(3,.one (.l (.i .i64))),(4,.one (.l (.i .i64))),(5,.one (.l (.i .i64))),(6,.one (.l (.i .i64))),(7,.one (.ptr 0 0)),(8,.one (.ptr 1 0)),(14,.one (.ptr 2 0))],[.box true [(.l (.i .i64)),(.l (.sl 9))],.box true [(.l .s),(.l (.i .i64))],.box true [(.l (.i .i64)),(.l .nil)]]⟩
def S61_:Shp:=⟨[(2,.one (.l .b)),(4,.one (.l (.i .i64))),(6,.one (.l (.i .i64))),(7,.one (.ptr 0 0)),(8,.cptr [.s,(.i .i64)]),(14,.one (.ptr 1 0)),(15,.one (.ptr 2 0)),(16,.one (.l .fn)),(17,.one (.ptr 3 0))],[.box true [(.l (.i .i64)),(.l (.sl 9))],.box true [(.l (.i .i64)),(.l .nil)],.box true [(.l (.i .i64)),(.l .s),(.l (.i .i64)),(.l (.i .i64)),(.l .nil),(.l (.i .i64)),(.l (.i .i64)),(.l (.i .i64)),(.l (.i .i64))],.box true [(.l .fn)]]⟩
def S62_:Shp:=⟨[(0,.st [(.l (.i .i64)),(.l (.sl 9))]),(1,.st [(.l .s),(.l (.i .i64))]),(2,.one (.l .b)),(3,.one (.l (.i .i64))),(4,.one (.l (.i .i64))),(5,.one (.l (.i .i64))),(6,.one (.l (.i .i64)))],[]⟩
def q9z (v2:Bool)(v3 v4 v5 v6 Aa:Int)(Ab:LA)(Ae:LU)(Af By:Int)(K:Ex->Env->Mem->Option AV):=(fun z_v47=>K .norm (qe [(2,(.bool v2)),(3,(.int .i64 v3)),(4,(.int .i64 v4)),(5,(.int .i64 v5)),(6,(.int .i64 v6)),(7,(.ptr 0 0)),(8,(.ptr 1 0)),(14,(.ptr 2 0)),(47,(.bool z_v47))]) (qd [(some (.box true [(.int .i64 Aa),(.sl 9 Ab)])),(some (.box true [(.str Ae),(.int .i64 Af)])),(some (.box true [(.int .i64 By),.nils]))]))
def qle (v2:Bool)(v3 v4 v5 v6 Aa:Int)(Ab:LA)(Ae:LU)(Af By:Int)(kn:Bool->Option AV):Option AV:=
 (oB (qc1 Ae) fun r1=>(bif(((((!r1)||(decide (v3<1)))||(decide (v3>2147483647)))||(decide (v6<0)))||(decide (v6>4294967295)))then(kn true)else(bif(!v2)then(kn (decide (Af<1)))else(kn false))))
def qs8:=hull (qle)
theorem q90:qs8=qle:=qa _
def qbbo:SubB Tryz.prog (TIof Tryz.prog) 93 0 (kret [(.cell 14 true 2)] (decT [(.i .i64),(.sl 9)])):=jnB Tryz.f21 9 (.r [(2,.c qdl.b),(5,.g 2),(9,.g 2),(13,.g 2),(17,.g 2)] [.sel [2,3,4,5,6,7,8,14,47] [0,1,2]]) S60_ (qle) (fun f v K=>f (v.b 8 0) (v.i 12 0) (v.i 16 0) (v.i 20 0) (v.i 24 0) (v.i 3 0) (v.l 3 1) (v.s 7 0) (v.i 7 1) (v.i 11 0) (q9z (v.b 8 0) (v.i 12 0) (v.i 16 0) (v.i 20 0) (v.i 24 0) (v.i 3 0) (v.l 3 1) (v.s 7 0) (v.i 7 1) (v.i 11 0) K))
def q8a (v4 v6 Aa:Int)(Ab:LA)(Ae:Int)(Cd:LU)(Cf Cg Ch Ci Cj:Int)(K:Ex->Env->Mem->Option AV):=(fun z_v16 z_b2_0 z_b2_2 z_b3_0=>K .norm (qe [(4,(.int .i64 v4)),(6,(.int .i64 v6)),(7,(.ptr 0 0)),(14,(.ptr 1 0)),(15,(.ptr 2 0)),(16,(.fv z_v16)),(17,(.ptr 3 0))]) (qd [(some (.box true [(.int .i64 Aa),(.sl 9 Ab)])),(some (.box true [(.int .i64 Ae),.nils])),(some (.box true [(.int .i64 z_b2_0),(.str Cd),(.int .i64 z_b2_2),(.int .i64 Cf),.nils,(.int .i64 Cg),(.int .i64 Ch),(.int .i64 Ci),(.int .i64 Cj)])),(some (.box true [(.fv z_b3_0)]))]))
def qjm (v2:Bool)(v4 v6:Int)(Ck:LU)(Cl:Int)(v16:AV)(Aa:Int)(Ab:LA)(Ae By:Int)(Cd:LU)(Ce Cf Cg Ch Ci Cj:Int)(Bz:AV)(kn:AV->Int->Int->AV->Option AV):Option AV:=
 (bif v2 then(kn (.func qpv [(.cptr [(.str Ck),(.int .i64 Cl)])]) 2 0 (.func qpv [(.cptr [(.str Ck),(.int .i64 Cl)])]))else(kn v16 By Ce Bz))
def qyg:=hull (qjm)
theorem q8b:qyg=qjm:=qa _
def q91:SubB Tryz.prog (TIof Tryz.prog) 93 0 (kret [(.cell 14 true 2)] (decT [(.i .i64),(.sl 9)])):=jnB Tryz.f21 95 (.s .z (.s (.s .z (.s .z (.v [.sel [4,6,7,14,15,16,17] [0,1,2,3]]))) (.v [.sel [4,6,7,14,15,16,17] [0,1,2,3]]))) S61_ (qjm) (fun f v K=>f (v.b 8 0) (v.i 16 0) (v.i 24 0) (v.s 34 0) (v.i 34 1) (v.f 64 0) (v.i 3 0) (v.l 3 1) (v.i 7 0) (v.i 11 0) (v.s 11 1) (v.i 11 2) (v.i 11 3) (v.i 11 5) (v.i 11 6) (v.i 11 7) (v.i 11 8) (v.f 15 0) (q8a (v.i 16 0) (v.i 24 0) (v.i 3 0) (v.l 3 1) (v.i 7 0) (v.s 11 1) (v.i 11 3) (v.i 11 5) (v.i 11 6) (v.i 11 7) (v.i 11 8) K))
def qpw (Ai:Int)(Aj:LA)(Am:LU)(An:Int)(v2:Bool)(v3 v4 v5 v6:Int):Option AV:=
 (qs8 v2 v3 v4 v5 v6 Ai Aj Am An 0 (fun v47q1=>(bif v47q1 then(oB (qbo Ai Aj Aj) fun r2=>(some (.agg [(.int .i64 (gI r2.cells 0)),(.sl 9 (gL r2.cells 1))])))else(oB (qwq v3 v6) fun r3=>(qyg v2 v4 v6 Am An (.func qwt [(.cptr [(.str Am),(.int .i64 An)])]) Ai Aj 0 1 Am An v3 v4 v5 r3 v6 (.func qwu [(.cptr [(.str Am),(.int .i64 An)])]) (fun v16q4 b2_0q5 b2_2q6 b3_0q7=>(oB (qi6 Ai Aj v4 v6 v16q4) fun r8=>(bif r8 then(oB (qbo Ai Aj Aj) fun r9=>(some (.agg [(.int .i64 (gI r9.cells 0)),(.sl 9 (gL r9.cells 1))])))else(oB (qbc Aj (.func qld [(.cptr [(.fv b3_0q7)])])) fun r10=>(oB (qia Ai r10 b2_0q5 Am b2_2q6 v3 ([]:List AV) v4 v5 r3 v6 v6) fun r11=>(some (.agg [(.int .i64 (gI r11.cells 0)),(.sl 9 (gL r11.cells 1))]))))))))))))
def qpx:=hull qpw
theorem qbgv:qpx=qpw:=qa _
def q5g {R:Type}:EntF Tryz.prog R:=entB (nt:=93) (dec:=(decT [(.i .i64),(.sl 9)])) (enc:=(qcf (.st [(.i .i64),(.sl 9)]))) Tryz.func21 [(.cell 14 true 2)] hdeT (.s .z (.s (.s (.sub [.sel [2,3,4,5,6,7,8,14] [0,1,2]] qbbo []) (.s (.s (.r [(3,.k qcw.b)] []) .z) .z)) (.s (.d [] [(10,.c q8x.b)] [] []) (.s (.r [(0,.s (.cls 8))] []) (.s .z (.s (.sub [.sel [2,4,6,7,8,14,15,16,17] [0,2,3,4]] q91 []) (.s (.s (.r [(4,.c quz.b)] []) (.s (.s (.r [(3,.k qcw.b)] []) .z) .z)) (.s (.dv [.cls 17] [] [(5,.c qb6.b)] [] []) (.s (.r [(3,.k q24.b)] []) .z))))))))) S62_ qpw (fun f v=>f (v.i 1 0) (v.l 1 1) (v.s 5 0) (v.i 5 1) (v.b 8 0) (v.i 12 0) (v.i 16 0) (v.i 20 0) (v.i 24 0))
def S63_:Shp:=⟨[(1,.one (.l .s)),(2,.one (.l (.i .i64))),(3,.one (.ptr 0 0)),(6,.one (.ptr 1 0)),(8,.one (.l (.i .i64))),(9,.one (.l (.i .i64))),(10,.one (.l (.i .i64))),(11,.one (.ptr 2 0)),(15,.one (.l (.sl 9))),(16,.one (.l (.i .i64))),(17,.one (.l (.i .i64)))],[.box true [(.l (.i .i64)),(.l (.sl 9))],.box true [(.l .s),(.l (.i .i64)),(.l (.i .i64)),(.l .nil)],.box true (lk qb)]⟩
def S64_:Shp:=⟨[(1,.one (.l .s)),(2,.one (.l (.i .i64))),(3,.one (.ptr 0 0)),(6,.one (.ptr 1 0)),(8,.one (.l (.i .i64))),(9,.one (.l (.i .i64))),(15,.one (.l (.sl 9))),(16,.one (.l (.i .i64))),(17,.one (.l (.i .i64)))],[.box true [(.l (.i .i64)),(.l (.sl 9))],.box true [(.l .s),(.l (.i .i64)),(.l (.i .i64)),(.l .nil)]]⟩
def S65_:Shp:=⟨[(0,.st [(.l (.i .i64)),(.l (.sl 9))]),(1,.one (.l .s)),(2,.one (.l (.i .i64)))],[]⟩
def qm0:AV->Option (AV×Bool):=decN [(.st [.s,(.i .i64),(.i .i64),(.sl 13)]),(.one .b)] fun z=>((gC (tpL z) 0),aB (gC (tpL z) 1))
def q0h (v1:LU)(v2 v8 v9 v10:Int)(v15:LA)(v16 v17 Aa:Int)(Ab:LA)(Ae:LU)(Af Ag By:Int)(Cd:LU)(Ce Cf:Int)(Cm:LA)(Cg Ch Ci Cj:Int)(K:Ex->Env->Mem->Option (AV×Bool)):=(fun z_v44=>K .norm (qe [(1,(.str v1)),(2,(.int .i64 v2)),(3,(.ptr 0 0)),(6,(.ptr 1 0)),(8,(.int .i64 v8)),(9,(.int .i64 v9)),(10,(.int .i64 v10)),(11,(.ptr 2 0)),(15,(.sl 9 v15)),(16,(.int .i64 v16)),(17,(.int .i64 v17)),(44,(.bool z_v44))]) (qd [(some (.box true [(.int .i64 Aa),(.sl 9 Ab)])),(some (.box true [(.str Ae),(.int .i64 Af),(.int .i64 Ag),.nils])),(some (.box true (qbp By Cd Ce Cf Cm Cg Ch Ci Cj)))]))
def qku (v1:LU)(v2 v8 v9 v10:Int)(v15:LA)(v16 v17 Aa:Int)(Ab:LA)(Ae:LU)(Af Ag By:Int)(Cd:LU)(Ce Cf:Int)(Cm:LA)(Cg Ch Ci Cj:Int)(kn:Bool->Option (AV×Bool)):Option (AV×Bool):=
 (bif((By != 0)||(Ce != 2))then(kn true)else(oB (qbt By Cd Ce Cf Cm Cg Ch Ci Cj v2) fun r1=>(bif(!r1)then(kn true)else(oB (qna v1 Cd) fun r2=>(kn (!r2))))))
def qm1:=hull (qku)
theorem q0i:qm1=qku:=qa _
def q3p:SubB Tryz.prog (TIof Tryz.prog) 74 0 (kret [(.cell 6 true 4),.t 7] qm0):=jnB Tryz.f14 9419 (.r [(4,.g 4),(12,.c qcl.b),(20,.c q2z.b)] [.sel [1,2,3,6,8,9,10,11,15,16,17,44] [0,1,2]]) S63_ (qku) (fun f v K=>f (v.s 4 0) (v.i 8 0) (v.i 32 0) (v.i 36 0) (v.i 40 0) (v.l 60 0) (v.i 64 0) (v.i 68 0) (v.i 3 0) (v.l 3 1) (v.s 7 0) (v.i 7 1) (v.i 7 2) (v.i 11 0) (v.s 11 1) (v.i 11 2) (v.i 11 3) (v.l 11 4) (v.i 11 5) (v.i 11 6) (v.i 11 7) (v.i 11 8) (q0h (v.s 4 0) (v.i 8 0) (v.i 32 0) (v.i 36 0) (v.i 40 0) (v.l 60 0) (v.i 64 0) (v.i 68 0) (v.i 3 0) (v.l 3 1) (v.s 7 0) (v.i 7 1) (v.i 7 2) (v.i 11 0) (v.s 11 1) (v.i 11 2) (v.i 11 3) (v.l 11 4) (v.i 11 5) (v.i 11 6) (v.i 11 7) (v.i 11 8) K))
def qpy (v2 Aa:Int)(Ab:LA)(Ae:LU)(Af Ag:Int)(K:Ex->Env->Mem->Option (AV×Bool)):=(fun z_v8=>K (.exit 0) (qe [(2,(.int .i64 v2)),(3,(.ptr 0 0)),(6,(.ptr 1 0)),(8,(.int .i64 z_v8))]) (qd [(some (.box true [(.int .i64 Aa),(.sl 9 Ab)])),(some (.box true [(.str Ae),(.int .i64 Af),(.int .i64 Ag),.nils]))]))
def qfo (v1:LU)(v2 v8 v9:Int)(v15:LA)(v16 v17 Aa:Int)(Ab:LA)(Ae:LU)(Af Ag:Int)(next:Int->Int->Int->Option (AV×Bool))(kx0:Int->Option (AV×Bool)):Option (AV×Bool):=
 (bif(decide (v17<v16))then(oB (ixB v15 v17) fun y1=>(bif fitC qb y1.cells then(qm1 v1 v2 v8 v9 v17 v15 v16 v17 Aa Ab Ae Af Ag (gI y1.cells 0) (gS y1.cells 1) (gI y1.cells 2) (gI y1.cells 3) (gL y1.cells 4) (gI y1.cells 5) (gI y1.cells 6) (gI y1.cells 7) (gI y1.cells 8) (fun v44q2=>(bif v44q2 then(next v8 v9 (i64.wrap (v17+1)))else(oB (qi5 (gS y1.cells 1)) fun r3=>(bif(decide ((r3.length:Int)>v9))then(next v17 (r3.length:Int) (i64.wrap (v17+1)))else(next v8 v9 (i64.wrap (v17+1))))))))else none))else(kx0 v8))
def qfp (v1:LU)(v2:Int)(v15:LA)(v16 Aa:Int)(Ab:LA)(Ae:LU)(Af Ag:Int)(kx0:Int->Option (AV×Bool)):Nat->Int->Int->Int->Option (AV×Bool)
 |0=>(fun _ _ _=>none)
 |n+1=>(fun v8 v9 v17=>qfo v1 v2 v8 v9 v15 v16 v17 Aa Ab Ae Af Ag (qfp v1 v2 v15 v16 Aa Ab Ae Af Ag kx0 n) kx0)
def qu1:=hull (qfp)
theorem q3q:qu1=qfp:=qa _
def q5h:SubB Tryz.prog (TIof Tryz.prog) 74 0 (kret [(.cell 6 true 4),.t 7] qm0):=lpB Tryz.f14 75 (.s .z (.s (.s .z (.v [.sel [2,3,6,8] [0,1]])) (.s (.b (.s (.r [(1,.p (.etac 20 qb))] []) (.s (.s (.sub [.sel [1,2,3,6,8,9,10,11,15,16,17] [0,1,2]] q3p []) .z) (.s (.r [(3,.k qq2.b)] []) .z)))) (.v [.sel [1,2,3,6,8,9,15,16,17] [0,1]])))) S64_ (qfp) (fun f v K n=>f (v.s 4 0) (v.i 8 0) (v.l 60 0) (v.i 64 0) (v.i 3 0) (v.l 3 1) (v.s 7 0) (v.i 7 1) (v.i 7 2) (qpy (v.i 8 0) (v.i 3 0) (v.l 3 1) (v.s 7 0) (v.i 7 1) (v.i 7 2) K) n) (fun v f K=>qfo (v.s 4 0) (v.i 8 0) (v.i 32 0) (v.i 36 0) (v.l 60 0) (v.i 64 0) (v.i 68 0) (v.i 3 0) (v.l 3 1) (v.s 7 0) (v.i 7 1) (v.i 7 2) f (qpy (v.i 8 0) (v.i 3 0) (v.l 3 1) (v.s 7 0) (v.i 7 1) (v.i 7 2) K)) (fun f v=>f (v.i 32 0) (v.i 36 0) (v.i 68 0)) (fun k v=>(fun z0 z1 z2=>k (((v.ui 32 0 z0).ui 36 0 z1).ui 68 0 z2)))
def qlf (Ai:Int)(Aj:LA)(v1:LU)(v2:Int):Option (AV×Bool):=
 (qu1 v1 v2 Aj (Aj.length:Int) Ai Aj ([]:List UInt8) 0 0 (fun v8q1=>(bif(decide (v8q1<0))then(some ((.agg [(.str ([]:List UInt8)),(.int .i64 0),(.int .i64 0),(.sl 13 ([]:List AV))]),false))else(oB (ixB Aj v8q1) fun y2=>(bif fitC qb y2.cells then(oB (qhp (gI y2.cells 0) (gS y2.cells 1) (gI y2.cells 2) (gI y2.cells 3) (gL y2.cells 4) (gI y2.cells 5) (gI y2.cells 6) (gI y2.cells 7) (gI y2.cells 8)) fun r3=>(some ((.agg [(.str (gS r3.cells 1)),(.int .i64 (gI r3.cells 2)),(.int .i64 (i64.wrap ((gI r3.cells 7)-(if 0>v2 then 0 else v2)))),(.sl 13 (gL r3.cells 4))]),true)))else none)))) FU (-1) (-1) 0)
def qkf:=hull qlf
theorem q92:qkf=qlf:=qa _
def qwv {R:Type}:EntF Tryz.prog R:=entB (nt:=74) (dec:=qm0) (enc:=(fun r=>.tup [qcf (.st [.s,(.i .i64),(.i .i64),(.sl 13)]) r.1,.bool r.2])) Tryz.func14 [(.cell 6 true 4),.t 7] (hdeN fun _=>rfl) (.s .z (.s .z (.s (.s .z (.b (.sub [.sel [1,2,3,6,8,9,15,16,17] [0,1]] q5h []))) (.s (.s .z (.s (.s .z (.v [.nilc 1 3 13])) .z)) (.s (.r [(3,.p (.etac 62 qb)),(5,.k qxv.b)] []) .z))))) S65_ qlf (fun f v=>f (v.i 1 0) (v.l 1 1) (v.s 4 0) (v.i 8 0))
def qoe:Nat:=57
def S66_:Shp:=⟨[(0,.st [(.l (.i .i64)),(.l (.sl 9))]),(1,.one (.l .s))],[]⟩
def qn3 (Ai:Int)(Aj:LA)(v1:LU):Option AV:=
 (oB (qbc Aj (.func qoe [(.cptr [(.str v1)])])) fun r1=>(oB (qbo Ai Aj r1) fun r2=>(some (.agg [(.int .i64 (gI r2.cells 0)),(.sl 9 (gL r2.cells 1))]))))
def qib:=hull qn3
theorem qbdz:qib=qn3:=qa _
def q25 {R:Type}:EntF Tryz.prog R:=entB (nt:=11) (dec:=(decT [(.i .i64),(.sl 9)])) (enc:=(qcf (.st [(.i .i64),(.sl 9)]))) Tryz.func22 [(.cell 4 true 2)] hdeT (.s .z (.s (.dv [.cls 3] [] [(4,.c qb6.b)] [(0,.k qcw.b)] []) .z)) S66_ qn3 (fun f v=>f (v.i 1 0) (v.l 1 1) (v.s 4 0))
def qof:Nat:=58
def S67_:Shp:=⟨[(0,.st [(.l (.i .i64)),(.l (.sl 9))]),(1,.one (.l (.i .i64)))],[]⟩
def qn4 (Ai:Int)(Aj:LA)(v1:Int):Option AV:=
 (oB (qbc Aj (.func qof [(.cptr [(.int .i64 v1)])])) fun r1=>(oB (qbo Ai Aj r1) fun r2=>(some (.agg [(.int .i64 (gI r2.cells 0)),(.sl 9 (gL r2.cells 1))]))))
def qic:=hull qn4
theorem qbd0:qic=qn4:=qa _
def q26 {R:Type}:EntF Tryz.prog R:=entB (nt:=11) (dec:=(decT [(.i .i64),(.sl 9)])) (enc:=(qcf (.st [(.i .i64),(.sl 9)]))) Tryz.func23 [(.cell 4 true 2)] hdeT (.s .z (.s (.dv [.cls 3] [] [(4,.c qb6.b)] [(0,.k qcw.b)] []) .z)) S67_ qn4 (fun f v=>f (v.i 1 0) (v.l 1 1) (v.i 4 0))
def S68_:Shp:=⟨[(1,.one (.ptr 0 0)),(2,.one (.l (.i .i64))),(4,.one (.l (.i .i64))),(6,.one (.ptr 1 0)),(7,.one (.l .b)),(10,.one (.l .b))],[.box true [(.l (.i .i64)),(.l (.sl 9))],.box true (lk qb)]⟩
def qyh (Aa:Int)(Ab:LA)(K:Ex->Env->Mem->Option Bool):=(fun z_v73=>K .norm (qe [(1,(.ptr 0 0)),(73,(.bool z_v73))]) (qd [(some (.box true [(.int .i64 Aa),(.sl 9 Ab)]))]))
def qf9 (v2 v4:Int)(v7 v10:Bool)(Aa:Int)(Ab:LA)(Ae:Int)(Af:LU)(Ag Ah:Int)(Cn:LA)(Co Cp Cq Cr:Int)(kn:Bool->Option Bool):Option Bool:=
 (bif(v2 != 0)then(kn true)else(bif(v4 != 1)then(kn true)else(bif(!v7)then(kn true)else(bif(Ah != 20)then(kn true)else(bif(Co != 5)then(kn true)else(bif v10 then(kn true)else(oB (qph ([97,46,101,120,97,109,112,108,101,46]:List UInt8) 9) fun r1=>(oB (qhr Aa Ab (gS r1.cells 0) (gI r1.cells 1) (gI r1.cells 2) (gL r1.cells 3) 3 0 100) fun r2=>(kn (((gL r2.cells 1).length:Int) != 1))))))))))
def qsg:=hull (qf9)
theorem qyi:qsg=qf9:=qa _
def q0j:SubB Tryz.prog (TIof Tryz.prog) 133 0 (kret [.t 0] decB):=jnB Tryz.f7 319 (.d [] [(26,.c qx8.b)] [(0,.k qr1.b)] [.sel [1,73] [0]]) S68_ (qf9) (fun f v K=>f (v.i 8 0) (v.i 16 0) (v.b 28 0) (v.b 40 0) (v.i 3 0) (v.l 3 1) (v.i 7 0) (v.s 7 1) (v.i 7 2) (v.i 7 3) (v.l 7 4) (v.i 7 5) (v.i 7 6) (v.i 7 7) (v.i 7 8) (qyh (v.i 3 0) (v.l 3 1) K))
def qjn:Option Bool:=
 (oB (qos 2) fun r1=>(oB (qos 0) fun r2=>(oB (qph ([97,46,101,120,97,109,112,108,101,46]:List UInt8) 60) fun r3=>(oB (qhr (gI r1.1.cells 0) ([]:List AV) (gS r3.cells 0) (gI r3.cells 1) (gI r3.cells 2) (gL r3.cells 3) 5 0 100) fun r4=>(oB (qjd (gI r4.cells 0) (gL r4.cells 1) ([97,46,101,120,97,109,112,108,101,46]:List UInt8) 1 140) fun r5=>(oB (qjd (gI r4.cells 0) (gL r4.cells 1) ([97,46,101,120,97,109,112,108,101,46]:List UInt8) 1 160) fun r6=>(qsg r1.2 r2.2 r5.2.2 r6.2.2 (gI r4.cells 0) (gL r4.cells 1) (gI r5.2.1.cells 0) (gS r5.2.1.cells 1) (gI r5.2.1.cells 2) (gI r5.2.1.cells 3) (gL r5.2.1.cells 4) (gI r5.2.1.cells 5) (gI r5.2.1.cells 6) (gI r5.2.1.cells 7) (gI r5.2.1.cells 8) (fun v73q7=>(bif v73q7 then(some false)else(oB (qpx (gI r4.cells 0) (gL r4.cells 1) ([98,46]:List UInt8) 0 true 30 5 0 100) fun r8=>(oB (qjd (gI r8.cells 0) (gL r8.cells 1) ([98,46]:List UInt8) 2 100) fun r9=>(bif hd ([(.agg [(.bool false),(.int .u64 0),(.int .u64 0),(.str ([97,46]:List UInt8)),(.str ([]:List UInt8)),(.str ([]:List UInt8)),(.int .i64 0),(.int .i64 0),(.int .i64 0),(.int .i64 0),(.int .i64 0),(.int .i64 0),(.int .u64 0)])]:List AV) (([(.agg [(.bool false),(.int .u64 0),(.int .u64 0),(.str ([97,46]:List UInt8)),(.str ([]:List UInt8)),(.str ([]:List UInt8)),(.int .i64 0),(.int .i64 0),(.int .i64 0),(.int .i64 0),(.int .i64 0),(.int .i64 0),(.int .u64 0)])]:List AV).length)then(oB (qhr (gI r8.cells 0) (gL r8.cells 1) ([101,120,97,109,112,108,101,46]:List UInt8) 2 60 ([(.agg [(.bool false),(.int .u64 0),(.int .u64 0),(.str ([97,46]:List UInt8)),(.str ([]:List UInt8)),(.str ([]:List UInt8)),(.int .i64 0),(.int .i64 0),(.int .i64 0),(.int .i64 0),(.int .i64 0),(.int .i64 0),(.int .u64 0)])]:List AV) 5 0 100) fun r10=>(oB (qkf (gI r10.cells 0) (gL r10.cells 1) ([97,46,101,120,97,109,112,108,101,46]:List UInt8) 110) fun r11=>(bif(((((r9.2.2&&((gI r9.2.1.cells 0)==2))&&(((gL r8.cells 1).length:Int)==2))&&r11.2)&&((gS r11.1.cells 0)==([101,120,97,109,112,108,101,46]:List UInt8)))&&((gI r11.1.cells 2)==50))then(oB (qib (gI r8.cells 0) (gL r8.cells 1) ([46]:List UInt8)) fun r12=>(bif(((gL r12.cells 1).length:Int)==0)then(oB (qic (gI r8.cells 0) (gL r8.cells 1) 130) fun r13=>(some (((gL r13.cells 1).length:Int)==1)))else(some false)))else(some false))))else none))))))))))))
def qmg:=hull qjn
theorem q8c:qmg=qjn:=qa _
def qu2 {R:Type}:EntF Tryz.prog R:=entB (nt:=133) (dec:=decB) (enc:=AV.bool) Tryz.func7 [.t 0] hdeB (.s .z (.s (.r [(0,.c qxo.b)] []) (.s (.r [(0,.c qxo.b)] []) (.s (.d [] [(1,.c qx8.b)] [(0,.k qr1.b)] []) (.s (.r [(2,.k qnb.b)] []) (.s (.r [(2,.k qnb.b)] []) (.s (.s (.sub [.sel [1,2,4,6,7,10] [0,3]] q0j []) .z) (.s (.r [(2,.k q5g.b)] []) (.s (.r [(2,.k qnb.b)] []) (.s .z (.s (.r [(2,.k qr1.b),(3,.k qwv.b)] []) (.s (.r [(2,.g 3),(7,.g 4),(13,.g 1),(16,.g 3),(21,.g 3),(27,.k q25.b),(34,.k q26.b)] []) .z)))))))))))) (⟨[],[]⟩:Shp) qjn (fun f v=>f)
def qff:List LT:=[(.i .i64),.s,(.i .i64),(.i .i64),(.sl 13),.s,(.i .i64),.b,(.i .i64),(.i .i64),(.i .i64)]
def S69_:Shp:=⟨[(1,.one (.ptr 0 0)),(2,.one (.ptr 1 0)),(3,.one (.own 2)),(4,.one (.l (.i .i64)))],[.box true (lk qb9),.box true [(.l .s),(.l (.i .i64)),(.l (.i .i64)),(.l .nil)],.arr true 13]⟩
def qnc (Aa:LU)(Ab Ac:Int)(Ad:LA)(Ae:LU)(Af Ag:Int)(K:Ex->Env->Mem->Option AV):=(fun z_a2=>K (.exit 0) (qe [(1,(.ptr 0 0)),(2,(.ptr 1 0)),(3,(.own 2 z_a2.length))]) (qd [(some (.box true (qlt Aa Ab Ac Ad))),(some (.box true [(.str Ae),(.int .i64 Af),(.int .i64 Ag),.nils])),(some (.arr true 13 z_a2))]))
def qec (v4:Int)(Aa:LU)(Ab Ac:Int)(Ad:LA)(Ae:LU)(Af Ag:Int)(a2:LA)(next:Int->(List AV)->Option AV)(kx0:(List AV)->Option AV):Option AV:=
 (bif((decide (v4<(Ad.length:Int)))&&(decide (v4<10)))then(oB (ixB Ad v4) fun y1=>(bif fitC qbb y1.cells then(oB (cutI (gS y1.cells 3) none (some (if 300<((gS y1.cells 3).length:Int)then 300 else((gS y1.cells 3).length:Int)))) fun s2=>(oB (cutI (gS y1.cells 4) none (some (if 300<((gS y1.cells 4).length:Int)then 300 else((gS y1.cells 4).length:Int)))) fun s3=>(oB (cutI (gS y1.cells 5) none (some (if 300<((gS y1.cells 5).length:Int)then 300 else((gS y1.cells 5).length:Int)))) fun s4=>(bif hd a2 a2.length then(bif hd ([(.agg [(.bool (gB y1.cells 0)),(.int .u64 (gI y1.cells 1)),(.int .u64 (gI y1.cells 2)),(.str s2),(.str s3),(.str s4),(.int .i64 (gI y1.cells 6)),(.int .i64 (gI y1.cells 7)),(.int .i64 (gI y1.cells 8)),(.int .i64 (gI y1.cells 9)),(.int .i64 (gI y1.cells 10)),(.int .i64 (gI y1.cells 11)),(.int .u64 (gI y1.cells 12))])]:List AV) (([(.agg [(.bool (gB y1.cells 0)),(.int .u64 (gI y1.cells 1)),(.int .u64 (gI y1.cells 2)),(.str s2),(.str s3),(.str s4),(.int .i64 (gI y1.cells 6)),(.int .i64 (gI y1.cells 7)),(.int .i64 (gI y1.cells 8)),(.int .i64 (gI y1.cells 9)),(.int .i64 (gI y1.cells 10)),(.int .i64 (gI y1.cells 11)),(.int .u64 (gI y1.cells 12))])]:List AV).length)then(bif decide ((a2.length+([(.agg [(.bool (gB y1.cells 0)),(.int .u64 (gI y1.cells 1)),(.int .u64 (gI y1.cells 2)),(.str s2),(.str s3),(.str s4),(.int .i64 (gI y1.cells 6)),(.int .i64 (gI y1.cells 7)),(.int .i64 (gI y1.cells 8)),(.int .i64 (gI y1.cells 9)),(.int .i64 (gI y1.cells 10)),(.int .i64 (gI y1.cells 11)),(.int .u64 (gI y1.cells 12))])]:List AV).length)*128<=140737488355328)then(next (i64.wrap (v4+1)) (a2++([(.agg [(.bool (gB y1.cells 0)),(.int .u64 (gI y1.cells 1)),(.int .u64 (gI y1.cells 2)),(.str s2),(.str s3),(.str s4),(.int .i64 (gI y1.cells 6)),(.int .i64 (gI y1.cells 7)),(.int .i64 (gI y1.cells 8)),(.int .i64 (gI y1.cells 9)),(.int .i64 (gI y1.cells 10)),(.int .i64 (gI y1.cells 11)),(.int .u64 (gI y1.cells 12))])]:List AV)))else none)else none)else none))))else none))else(kx0 a2))
def qc3 (Aa:LU)(Ab Ac:Int)(Ad:LA)(Ae:LU)(Af Ag:Int)(kx0:(List AV)->Option AV):Nat->Int->(List AV)->Option AV
 |0=>(fun _ _=>none)
 |n+1=>(fun v4 a2=>qec v4 Aa Ab Ac Ad Ae Af Ag a2 (qc3 Aa Ab Ac Ad Ae Af Ag kx0 n) kx0)
def qsh:=hull (qc3)
theorem qyj:qsh=qc3:=qa _
def q0k:SubB Tryz.prog (TIof Tryz.prog) 61 0 (kret [(.cell 2 true 4)] (decT [.s,(.i .i64),(.i .i64),(.fr true 13)])):=lpB Tryz.f8 151 (.s (.s (.r [(6,.g 2)] []) (.s .z (.v [.sel [1,2,3] [0,1,2]]))) (.s (.b (.s (.r [(3,.p (.etac 28 qbb))] []) .z)) (.v [.sel [1,2,3,4] [0,1,2]]))) S69_ (qc3) (fun f v K n=>f (v.s 3 0) (v.i 3 1) (v.i 3 2) (v.l 3 3) (v.s 7 0) (v.i 7 1) (v.i 7 2) (qnc (v.s 3 0) (v.i 3 1) (v.i 3 2) (v.l 3 3) (v.s 7 0) (v.i 7 1) (v.i 7 2) K) n) (fun v f K=>qec (v.i 16 0) (v.s 3 0) (v.i 3 1) (v.i 3 2) (v.l 3 3) (v.s 7 0) (v.i 7 1) (v.i 7 2) (v.r 2) f (qnc (v.s 3 0) (v.i 3 1) (v.i 3 2) (v.l 3 3) (v.s 7 0) (v.i 7 1) (v.i 7 2) K)) (fun f v=>f (v.i 16 0) (v.r 2)) (fun k v=>(fun z0 z1=>k ((v.ui 16 0 z0).ur 2 z1)))
def qjo (Ai:LU)(Aj Ak:Int)(Al:LA):Option AV:=
 (oB (cutI Ai none (some (if 300<(Ai.length:Int)then 300 else(Ai.length:Int)))) fun s1=>(bif(hd ([]:List AV) (([]:List AV).length)&&true)then(qsh s1 Aj Ak Al ([]:List UInt8) 0 0 (fun a2q2=>(bif hd a2q2 a2q2.length then(some (.agg [(.str s1),(.int .i64 Aj),(.int .i64 Ak),(.fr true 13 a2q2)]))else none)) FU 0 ([]:List AV))else none))
def qmh:=hull qjo
theorem q8d:qmh=qjo:=qa _
def qu3 {R:Type}:EntF Tryz.prog R:=entB (nt:=61) (dec:=(decT [.s,(.i .i64),(.i .i64),(.fr true 13)])) (enc:=(qcf (.st [.s,(.i .i64),(.i .i64),(.fr true 13)]))) Tryz.func8 [(.cell 2 true 4)] hdeT (.s .z (.s .z (.s .z (.s (.s .z (.b (.sub [.own 3 13,.sel [1,2,3,4] [0,1,2]] q0k []))) .z)))) S7_ qjo (fun f v=>f (v.s 1 0) (v.i 1 1) (v.i 1 2) (v.l 1 3))
def S70_:Shp:=⟨[(1,.one (.ptr 0 0)),(3,.one (.own 1)),(4,.one (.l (.i .i64)))],[.box true (lk qb9),.arr true 16]⟩
def qmx (K:Ex->Env->Mem->Option (List AV)):=(fun z_a0=>K (.exit 0) (qe [(3,(.own 0 z_a0.length))]) (qd [(some (.arr true 16 z_a0))]))
def qds (v4:Int)(Aa:LU)(Ab Ac:Int)(Ad a1:LA)(next:Int->(List AV)->Option (List AV))(kx0:(List AV)->Option (List AV)):Option (List AV):=
 (bif(decide (v4<(Ad.length:Int)))then(oB (ixB Ad v4) fun y1=>(bif fitC qbb y1.cells then(bif hd a1 a1.length then(bif decide ((a1.length+([(.agg [(.str Aa),(.int .i64 Ab),(.int .i64 Ac),(.bool (gB y1.cells 0)),(.int .u64 (gI y1.cells 1)),(.int .u64 (gI y1.cells 2)),(.str (gS y1.cells 3)),(.str (gS y1.cells 4)),(.str (gS y1.cells 5)),(.int .i64 (gI y1.cells 6)),(.int .i64 (gI y1.cells 7)),(.int .i64 (gI y1.cells 8)),(.int .i64 (gI y1.cells 9)),(.int .i64 (gI y1.cells 10)),(.int .i64 (gI y1.cells 11)),(.int .u64 (gI y1.cells 12))])]:List AV).length)*160<=140737488355328)then(next (i64.wrap (v4+1)) (a1++([(.agg [(.str Aa),(.int .i64 Ab),(.int .i64 Ac),(.bool (gB y1.cells 0)),(.int .u64 (gI y1.cells 1)),(.int .u64 (gI y1.cells 2)),(.str (gS y1.cells 3)),(.str (gS y1.cells 4)),(.str (gS y1.cells 5)),(.int .i64 (gI y1.cells 6)),(.int .i64 (gI y1.cells 7)),(.int .i64 (gI y1.cells 8)),(.int .i64 (gI y1.cells 9)),(.int .i64 (gI y1.cells 10)),(.int .i64 (gI y1.cells 11)),(.int .u64 (gI y1.cells 12))])]:List AV)))else none)else none)else none))else(kx0 a1))
def qcs (Aa:LU)(Ab Ac:Int)(Ad:LA)(kx0:(List AV)->Option (List AV)):Nat->Int->(List AV)->Option (List AV)
 |0=>(fun _ _=>none)
 |n+1=>(fun v4 a1=>qds v4 Aa Ab Ac Ad a1 (qcs Aa Ab Ac Ad kx0 n) kx0)
def qqu:=hull (qcs)
theorem qxy:qqu=qcs:=qa _
def qyk:SubB Tryz.prog (TIof Tryz.prog) 28 0 (kret [.t 2] (decF true 16)):=lpB Tryz.f24 75 (.s (.s .z (.s .z (.v [.sel [3] [1]]))) (.s (.b (.d [] [(10,.e 22 qbb)] [] [])) (.v [.sel [1,3,4] [0,1]]))) S70_ (qcs) (fun f v K n=>f (v.s 3 0) (v.i 3 1) (v.i 3 2) (v.l 3 3) (qmx K) n) (fun v f K=>qds (v.i 16 0) (v.s 3 0) (v.i 3 1) (v.i 3 2) (v.l 3 3) (v.r 1) f (qmx K)) (fun f v=>f (v.i 16 0) (v.r 1)) (fun k v=>(fun z0 z1=>k ((v.ui 16 0 z0).ur 1 z1)))
def qhs (Ai:LU)(Aj Ak:Int)(Al:LA):Option (List AV):=
 (bif(hd ([]:List AV) (([]:List AV).length)&&true)then(qqu Ai Aj Ak Al (fun a0q1=>(bif hd a0q1 a0q1.length then(some a0q1)else none)) FU 0 ([]:List AV))else none)
def qog:=hull qhs
theorem q3r:qog=qhs:=qa _
def q5i {R:Type}:EntF Tryz.prog R:=entB (nt:=28) (dec:=(decF true 16)) (enc:=(AV.fr true 16)) Tryz.func24 [.t 2] hdeF (.s .z (.s .z (.s (.s .z (.b (.sub [.own 3 16,.sel [1,3,4] [0,1]] qyk []))) .z))) S7_ qhs (fun f v=>f (v.s 1 0) (v.i 1 1) (v.i 1 2) (v.l 1 3))
def S71_:Shp:=⟨[(0,.one (.l .s)),(3,.one (.l (.i .i64))),(4,.one (.l (.i .u8)))],[]⟩
def S72_:Shp:=⟨[(0,.one (.l .s)),(3,.one (.l (.i .i64)))],[]⟩
def qv8 (v0:LU)(v3:Int)(K:Ex->Env->Mem->Option Bool):=(fun z_v46=>K .norm (qe [(0,(.str v0)),(3,(.int .i64 v3)),(46,(.bool z_v46))]) (qd []))
def qfj (v0:LU)(v3 v4:Int)(kn:Bool->Option Bool):Option Bool:=
 (bif((decide (v4>=97))&&(decide (v4<=122)))then(kn false)else(bif(decide (v4>=48))then(kn (!(((decide (v4<=57))||(v4==45))||(v4==95))))else(kn (!((v4==45)||(v4==95))))))
def qjp:=hull (qfj)
theorem qv9:qjp=qfj:=qa _
def qxz:SubB Tryz.prog (TIof Tryz.prog) 47 0 (kret [.t 2] decB):=jnB Tryz.f91 5271 (.r [(3,.g 2),(15,.g 2),(19,.g 2)] [.sel [0,3,46] []]) S71_ (qfj) (fun f v K=>f (v.s 0 0) (v.i 12 0) (v.i 16 0) (qv8 (v.s 0 0) (v.i 12 0) K))
def qlu (K:Ex->Env->Mem->Option Bool):=(fun(_:Unit)=>K (.exit 0) (qe []) (qd []))
def qdh (v0:LU)(v3:Int)(next:Int->Option Bool)(kx0:Unit->Option Bool):Option Bool:=
 (bif(decide (v3<(v0.length:Int)))then(oB (ixB v0 v3) fun c1=>(qjp v0 v3 (c1.toNat:Int) (fun v46q2=>(bif v46q2 then(some false)else(next (i64.wrap (v3+1)))))))else(kx0 ()))
def qdi (v0:LU)(kx0:Unit->Option Bool):Nat->Int->Option Bool
 |0=>(fun _=>none)
 |n+1=>(fun v3=>qdh v0 v3 (qdi v0 kx0 n) kx0)
def qpz:=hull (qdi)
theorem qwa:qpz=qdi:=qa _
def qx0:SubB Tryz.prog (TIof Tryz.prog) 47 0 (kret [.t 2] decB):=lpB Tryz.f91 151 (.s (.s .z (.s .z (.v [.sel [] []]))) (.s (.b (.s .z (.s (.sub [.sel [0,3,4] []] qxz []) .z))) (.v [.sel [0,3] []]))) S72_ (qdi) (fun f v K n=>f (v.s 0 0) (qlu K) n) (fun v f K=>qdh (v.s 0 0) (v.i 12 0) f (qlu K)) (fun f v=>f (v.i 12 0)) (fun k v=>(fun z0=>k (v.ui 12 0 z0)))
def qht (v0:LU):Option Bool:=
 (bif(v0==([42]:List UInt8))then(some true)else(bif((decide ((v0.length:Int)<1))||(decide ((v0.length:Int)>63)))then(some false)else(qpz v0 (fun(_:Unit)=>(some true)) FU 0)))
def qoh:=hull qht
theorem q3s:qoh=qht:=qa _
def q5j {R:Type}:EntF Tryz.prog R:=entB (nt:=47) (dec:=decB) (enc:=AV.bool) Tryz.func91 [.t 2] hdeB (.s .z (.s .z (.s (.s (.r [(4,.g 3)] []) .z) (.s (.s .z (.b (.sub [.sel [0,3] []] qx0 []))) .z)))) S15_ qht (fun f v=>f (v.s 0 0))
def S73_:Shp:=⟨[(0,.one (.l .s)),(4,.one (.own 0)),(5,.one (.l (.i .i64))),(6,.one (.l (.i .i64))),(7,.one (.l .s))],[.arr true 1]⟩
def S74_:Shp:=⟨[(0,.one (.l .s)),(4,.one (.own 0)),(5,.one (.l (.i .i64))),(6,.one (.l (.i .i64)))],[.arr true 1]⟩
def qhu:AV->Option ((List AV)×Bool):=decN [(.one (.fr true 1)),(.one .b)] fun z=>(aL (gC (tpL z) 0),aB (gC (tpL z) 1))
def qyl (v0:LU)(K:Ex->Env->Mem->Option ((List AV)×Bool)):=(fun z_v25=>K .norm (qe [(0,(.str v0)),(25,(.bool z_v25))]) (qd []))
def qga (v0:LU)(kn:Bool->Option ((List AV)×Bool)):Option ((List AV)×Bool):=
 (bif((decide ((v0.length:Int)<2))||(decide ((v0.length:Int)>254)))then(kn true)else(oB (ixB v0 (i64.wrap ((v0.length:Int)-1))) fun c1=>(kn ((c1.toNat:Int) != 46))))
def qsi:=hull (qga)
theorem qym:qsi=qga:=qa _
def q0l:SubB Tryz.prog (TIof Tryz.prog) 58 0 (kret [.t 2,.t 3] qhu):=jnB Tryz.f63 19 (.r [(4,.g 3)] [.sel [0,25] []]) S15_ (qga) (fun f v K=>f (v.s 0 0) (qyl (v.s 0 0) K))
def qyn (v0:LU)(v6:Int)(v7:LU)(a0:LA)(K:Ex->Env->Mem->Option ((List AV)×Bool)):=(fun z_v50=>K .norm (qe [(0,(.str v0)),(4,(.own 0 a0.length)),(6,(.int .i64 v6)),(7,(.str v7)),(50,(.bool z_v50))]) (qd [(some (.arr true 1 a0))]))
def qgb (v0:LU)(v5 v6:Int)(v7:LU)(a0:LA)(kn:Bool->Option ((List AV)×Bool)):Option ((List AV)×Bool):=
 (oB (qoh v7) fun r1=>(bif(!r1)then(kn true)else(bif(v7==([42]:List UInt8))then(kn (decide (v5>0)))else(kn false))))
def qsj:=hull (qgb)
theorem qyo:qsj=qgb:=qa _
def q0m:SubB Tryz.prog (TIof Tryz.prog) 58 0 (kret [.t 2,.t 3] qhu):=jnB Tryz.f63 78431 (.r [(1,.c q5j.b)] [.sel [0,4,6,7,50] [0]]) S73_ (qgb) (fun f v K=>f (v.s 0 0) (v.i 20 0) (v.i 24 0) (v.s 28 0) (v.r 0) (qyn (v.s 0 0) (v.i 24 0) (v.s 28 0) (v.r 0) K))
def qnd (K:Ex->Env->Mem->Option ((List AV)×Bool)):=(fun z_a0=>K (.exit 0) (qe [(4,(.own 0 z_a0.length))]) (qd [(some (.arr true 1 z_a0))]))
def qed (v0:LU)(v5 v6:Int)(a0:LA)(next:Int->Int->(List AV)->Option ((List AV)×Bool))(kx0:(List AV)->Option ((List AV)×Bool)):Option ((List AV)×Bool):=
 (bif(decide (v6<(v0.length:Int)))then(oB (ixB v0 v6) fun c1=>(bif((c1.toNat:Int) != 46)then(next v5 (i64.wrap (v6+1)) a0)else(oB (cutI v0 (some v5) (some v6)) fun s2=>(bif(hd a0 (a0.length)&&true)then(qsj v0 v5 v6 s2 a0 (fun v50q3=>(bif v50q3 then(bif hd ([]:List AV) (([]:List AV).length)then(some (([]:List AV),false))else none)else(bif hd a0 a0.length then(bif hd ([(.str s2)]:List AV) (([(.str s2)]:List AV).length)then(bif decide ((a0.length+([(.str s2)]:List AV).length)*16<=140737488355328)then(next (i64.wrap (v6+1)) (i64.wrap (v6+1)) (a0++([(.str s2)]:List AV)))else none)else none)else none))))else none))))else(kx0 a0))
def qee (v0:LU)(kx0:(List AV)->Option ((List AV)×Bool)):Nat->Int->Int->(List AV)->Option ((List AV)×Bool)
 |0=>(fun _ _ _=>none)
 |n+1=>(fun v5 v6 a0=>qed v0 v5 v6 a0 (qee v0 kx0 n) kx0)
def qlv:=hull (qee)
theorem qyp:qlv=qee:=qa _
def q0n:SubB Tryz.prog (TIof Tryz.prog) 58 0 (kret [.t 2,.t 3] qhu):=lpB Tryz.f63 607 (.s (.s .z (.s .z (.v [.sel [4] [0]]))) (.s (.b (.s .z (.s .z (.s (.s (.sub [.sel [0,4,5,6,7] [0]] q0m []) (.s (.s .z (.v [.own 2 1])) .z)) .z)))) (.v [.sel [0,4,5,6] [0]]))) S74_ (qee) (fun f v K n=>f (v.s 0 0) (qnd K) n) (fun v f K=>qed (v.s 0 0) (v.i 20 0) (v.i 24 0) (v.r 0) f (qnd K)) (fun f v=>f (v.i 20 0) (v.i 24 0) (v.r 0)) (fun k v=>(fun z0 z1 z2=>k (((v.ui 20 0 z0).ui 24 0 z1).ur 0 z2)))
def qjq (v0:LU):Option ((List AV)×Bool):=
 (bif(v0==([46]:List UInt8))then(bif hd ([]:List AV) (([]:List AV).length)then(some (([]:List AV),true))else none)else(qsi v0 (fun v25q1=>(bif v25q1 then(bif hd ([]:List AV) (([]:List AV).length)then(some (([]:List AV),false))else none)else(bif(hd ([]:List AV) (([]:List AV).length)&&true)then(qlv v0 (fun a0q2=>(bif hd a0q2 a0q2.length then(some (a0q2,true))else none)) FU 0 0 ([]:List AV))else none)))))
def qdt:=hull qjq
theorem q8e:qdt=qjq:=qa _
def qfg {R:Type}:EntF Tryz.prog R:=entB (nt:=58) (dec:=qhu) (enc:=(fun r=>.tup [.fr true 1 r.1,.bool r.2])) Tryz.func63 [.t 2,.t 3] (hdeN fun _=>rfl) (.s .z (.s (.s .z (.s (.s .z (.v [.own 2 1])) .z)) (.s (.s (.sub [.sel [0] []] q0l []) (.s (.s .z (.v [.own 2 1])) .z)) (.s .z (.s .z (.s (.s .z (.b (.sub [.own 4 1,.sel [0,4,5,6] [0]] q0n []))) .z)))))) S15_ qjq (fun f v=>f (v.s 0 0))
def qjr (v0:LU):Option Bool:=
 (oB (qdt v0) fun r1=>(some r1.2))
def qgr:=hull qjr
theorem q8f:qgr=qjr:=qa _
def qjs {R:Type}:EntF Tryz.prog R:=entB (nt:=11) (dec:=decB) (enc:=AV.bool) Tryz.func30 [.t 2] hdeB (.s .z (.s (.r [(1,.k qfg.b)] []) .z)) S15_ qjr (fun f v=>f (v.s 0 0))
def qg1 (v0:Int):Option (List UInt8):=
 (bif(v0==1)then(some ([65]:List UInt8))else(bif(v0==2)then(some ([78,83]:List UInt8))else(bif(v0==5)then(some ([67,78,65,77,69]:List UInt8))else(bif(v0==6)then(some ([83,79,65]:List UInt8))else(bif(v0==12)then(some ([80,84,82]:List UInt8))else(bif(v0==15)then(some ([77,88]:List UInt8))else(bif(v0==16)then(some ([84,88,84]:List UInt8))else(bif(v0==28)then(some ([65,65,65,65]:List UInt8))else(bif(v0==33)then(some ([83,82,86]:List UInt8))else(bif(v0==39)then(some ([68,78,65,77,69]:List UInt8))else(bif(v0==43)then(some ([68,83]:List UInt8))else(bif(v0==46)then(some ([82,82,83,73,71]:List UInt8))else(bif(v0==47)then(some ([78,83,69,67]:List UInt8))else(bif(v0==48)then(some ([68,78,83,75,69,89]:List UInt8))else(some ([]:List UInt8))))))))))))))))
def qm2:=hull qg1
theorem q0o:qm2=qg1:=qa _
def q3t {R:Type}:EntF Tryz.prog R:=entB (nt:=32) (dec:=decS) (enc:=AV.str) Tryz.func82 [.t 2] hdeS (.z) S0_ qg1 (fun f v=>f (v.i 0 0))
def qjt (v0:Int):Option Bool:=
 (oB (qm2 v0) fun r1=>(some (!(r1==([]:List UInt8)))))
def qgs:=hull qjt
theorem q8g:qgs=qjt:=qa _
def qju {R:Type}:EntF Tryz.prog R:=entB (nt:=6) (dec:=decB) (enc:=AV.bool) Tryz.func59 [.t 2] hdeB (.s .z (.s (.r [(1,.c q3t.b)] []) .z)) S0_ qjt (fun f v=>f (v.i 0 0))
def S75_:Shp:=⟨[(3,.one (.ptr 0 0)),(4,.one (.ptr 1 0)),(5,.one (.l (.i .i64)))],[.box true (lk qbb),.box true (lk qbb)]⟩
def q3u (v5:Int)(Aa:Bool)(Ab Ac:Int)(Ad Aq Ar:LU)(As At Au Av Aw Ax Ay:Int)(Ae:Bool)(Af Ag:Int)(Ah Cn Co:LU)(Cp Cq Cr Cs Ct Cu Cw:Int)(K:Ex->Env->Mem->Option AV):=(fun z_v6=>K .norm (qe [(3,(.ptr 0 0)),(4,(.ptr 1 0)),(5,(.int .i64 v5)),(6,(.bool z_v6))]) (qd [(some (.box true (qdm Aa Ab Ac Ad Aq Ar As At Au Av Aw Ax Ay))),(some (.box true (qdm Ae Af Ag Ah Cn Co Cp Cq Cr Cs Ct Cu Cw)))]))
def qhv (v5:Int)(Aa:Bool)(Ab Ac:Int)(Ad Aq Ar:LU)(As At Au Av Aw Ax Ay:Int)(Ae:Bool)(Af Ag:Int)(Ah Cn Co:LU)(Cp Cq Cr Cs Ct Cu Cw:Int)(kn:Bool->Option AV):Option AV:=
 (bif(v5==1)then(kn true)else(kn (v5==28)))
def qu4:=hull (qhv)
theorem q3v:qu4=qhv:=qa _
def q5k:SubB Tryz.prog (TIof Tryz.prog) 96 0 (kret [(.cell 4 true 13)] (decT [.b,(.i .u64),(.i .u64),.s,.s,.s,(.i .i64),(.i .i64),(.i .i64),(.i .i64),(.i .i64),(.i .i64),(.i .u64)])):=jnB Tryz.f83 37 (.s .z (.s (.v [.sel [3,4,5,6] [0,1]]) (.v [.sel [3,4,5,6] [0,1]]))) S75_ (qhv) (fun f v K=>f (v.i 20 0) (v.b 3 0) (v.i 3 1) (v.i 3 2) (v.s 3 3) (v.s 3 4) (v.s 3 5) (v.i 3 6) (v.i 3 7) (v.i 3 8) (v.i 3 9) (v.i 3 10) (v.i 3 11) (v.i 3 12) (v.b 7 0) (v.i 7 1) (v.i 7 2) (v.s 7 3) (v.s 7 4) (v.s 7 5) (v.i 7 6) (v.i 7 7) (v.i 7 8) (v.i 7 9) (v.i 7 10) (v.i 7 11) (v.i 7 12) (q3u (v.i 20 0) (v.b 3 0) (v.i 3 1) (v.i 3 2) (v.s 3 3) (v.s 3 4) (v.s 3 5) (v.i 3 6) (v.i 3 7) (v.i 3 8) (v.i 3 9) (v.i 3 10) (v.i 3 11) (v.i 3 12) (v.b 7 0) (v.i 7 1) (v.i 7 2) (v.s 7 3) (v.s 7 4) (v.s 7 5) (v.i 7 6) (v.i 7 7) (v.i 7 8) (v.i 7 9) (v.i 7 10) (v.i 7 11) (v.i 7 12) K))
def q0p (v5:Int)(Aa:Bool)(Ab Ac:Int)(Ad Aq Ar:LU)(As At Au Av Aw Ax Ay:Int)(Ae:Bool)(Af Ag:Int)(Ah Cn Co:LU)(Cp Cq Cr Cs Ct Cu Cw:Int)(K:Ex->Env->Mem->Option AV):=(fun z_v12=>K .norm (qe [(3,(.ptr 0 0)),(4,(.ptr 1 0)),(5,(.int .i64 v5)),(12,(.bool z_v12))]) (qd [(some (.box true (qdm Aa Ab Ac Ad Aq Ar As At Au Av Aw Ax Ay))),(some (.box true (qdm Ae Af Ag Ah Cn Co Cp Cq Cr Cs Ct Cu Cw)))]))
def qg2 (v5:Int)(Aa:Bool)(Ab Ac:Int)(Ad Aq Ar:LU)(As At Au Av Aw Ax Ay:Int)(Ae:Bool)(Af Ag:Int)(Ah Cn Co:LU)(Cp Cq Cr Cs Ct Cu Cw:Int)(kn:Bool->Option AV):Option AV:=
 (bif(v5==2)then(kn true)else(bif(v5==5)then(kn true)else(bif(v5==12)then(kn true)else(kn (v5==39)))))
def qtq:=hull (qg2)
theorem q0q:qtq=qg2:=qa _
def q3w:SubB Tryz.prog (TIof Tryz.prog) 96 0 (kret [(.cell 4 true 13)] (decT [.b,(.i .u64),(.i .u64),.s,.s,.s,(.i .i64),(.i .i64),(.i .i64),(.i .i64),(.i .i64),(.i .i64),(.i .u64)])):=jnB Tryz.f83 181 (.s .z (.s (.v [.sel [3,4,5,12] [0,1]]) (.s .z (.s (.v [.sel [3,4,5,12] [0,1]]) (.s .z (.s (.v [.sel [3,4,5,12] [0,1]]) (.v [.sel [3,4,5,12] [0,1]]))))))) S75_ (qg2) (fun f v K=>f (v.i 20 0) (v.b 3 0) (v.i 3 1) (v.i 3 2) (v.s 3 3) (v.s 3 4) (v.s 3 5) (v.i 3 6) (v.i 3 7) (v.i 3 8) (v.i 3 9) (v.i 3 10) (v.i 3 11) (v.i 3 12) (v.b 7 0) (v.i 7 1) (v.i 7 2) (v.s 7 3) (v.s 7 4) (v.s 7 5) (v.i 7 6) (v.i 7 7) (v.i 7 8) (v.i 7 9) (v.i 7 10) (v.i 7 11) (v.i 7 12) (q0p (v.i 20 0) (v.b 3 0) (v.i 3 1) (v.i 3 2) (v.s 3 3) (v.s 3 4) (v.s 3 5) (v.i 3 6) (v.i 3 7) (v.i 3 8) (v.i 3 9) (v.i 3 10) (v.i 3 11) (v.i 3 12) (v.b 7 0) (v.i 7 1) (v.i 7 2) (v.s 7 3) (v.s 7 4) (v.s 7 5) (v.i 7 6) (v.i 7 7) (v.i 7 8) (v.i 7 9) (v.i 7 10) (v.i 7 11) (v.i 7 12) K))
def q0r (v5:Int)(Aa:Bool)(Ab Ac:Int)(Ad Aq Ar:LU)(As At Au Av Aw Ax Ay:Int)(Ae:Bool)(Af Ag:Int)(Ah Cn Co:LU)(Cp Cq Cr Cs Ct Cu Cw:Int)(K:Ex->Env->Mem->Option AV):=(fun z_v60=>K .norm (qe [(3,(.ptr 0 0)),(4,(.ptr 1 0)),(5,(.int .i64 v5)),(60,(.bool z_v60))]) (qd [(some (.box true (qdm Aa Ab Ac Ad Aq Ar As At Au Av Aw Ax Ay))),(some (.box true (qdm Ae Af Ag Ah Cn Co Cp Cq Cr Cs Ct Cu Cw)))]))
def qg3 (v5:Int)(Aa:Bool)(Ab Ac:Int)(Ad Aq Ar:LU)(As At Au Av Aw Ax Ay:Int)(Ae:Bool)(Af Ag:Int)(Ah Cn Co:LU)(Cp Cq Cr Cs Ct Cu Cw:Int)(kn:Bool->Option AV):Option AV:=
 (bif(v5==43)then(kn true)else(kn (v5==48)))
def qtr:=hull (qg3)
theorem q0s:qtr=qg3:=qa _
def q3x:SubB Tryz.prog (TIof Tryz.prog) 96 0 (kret [(.cell 4 true 13)] (decT [.b,(.i .u64),(.i .u64),.s,.s,.s,(.i .i64),(.i .i64),(.i .i64),(.i .i64),(.i .i64),(.i .i64),(.i .u64)])):=jnB Tryz.f83 196597 (.s .z (.s (.v [.sel [3,4,5,60] [0,1]]) (.v [.sel [3,4,5,60] [0,1]]))) S75_ (qg3) (fun f v K=>f (v.i 20 0) (v.b 3 0) (v.i 3 1) (v.i 3 2) (v.s 3 3) (v.s 3 4) (v.s 3 5) (v.i 3 6) (v.i 3 7) (v.i 3 8) (v.i 3 9) (v.i 3 10) (v.i 3 11) (v.i 3 12) (v.b 7 0) (v.i 7 1) (v.i 7 2) (v.s 7 3) (v.s 7 4) (v.s 7 5) (v.i 7 6) (v.i 7 7) (v.i 7 8) (v.i 7 9) (v.i 7 10) (v.i 7 11) (v.i 7 12) (q0r (v.i 20 0) (v.b 3 0) (v.i 3 1) (v.i 3 2) (v.s 3 3) (v.s 3 4) (v.s 3 5) (v.i 3 6) (v.i 3 7) (v.i 3 8) (v.i 3 9) (v.i 3 10) (v.i 3 11) (v.i 3 12) (v.b 7 0) (v.i 7 1) (v.i 7 2) (v.s 7 3) (v.s 7 4) (v.s 7 5) (v.i 7 6) (v.i 7 7) (v.i 7 8) (v.i 7 9) (v.i 7 10) (v.i 7 11) (v.i 7 12) K))
def qlg (v0:Int)(Am:Bool)(An Ao:Int)(Ap Az A0:LU)(A1 A2 A3 A4 A5 A6 A7:Int):Option AV:=
 (qu4 v0 Am An Ao Ap Az A0 A1 A2 A3 A4 A5 A6 A7 false 0 0 ([]:List UInt8) ([]:List UInt8) ([]:List UInt8) 0 0 0 0 0 0 0 (fun v6q1=>(bif v6q1 then(some (.agg [(.bool Am),(.int .u64 An),(.int .u64 Ao),(.str ([]:List UInt8)),(.str ([]:List UInt8)),(.str ([]:List UInt8)),(.int .i64 0),(.int .i64 0),(.int .i64 0),(.int .i64 0),(.int .i64 0),(.int .i64 0),(.int .u64 0)]))else(qtq v0 Am An Ao Ap Az A0 A1 A2 A3 A4 A5 A6 A7 false 0 0 ([]:List UInt8) ([]:List UInt8) ([]:List UInt8) 0 0 0 0 0 0 0 (fun v12q2=>(bif v12q2 then(some (.agg [(.bool false),(.int .u64 0),(.int .u64 0),(.str Ap),(.str ([]:List UInt8)),(.str ([]:List UInt8)),(.int .i64 0),(.int .i64 0),(.int .i64 0),(.int .i64 0),(.int .i64 0),(.int .i64 0),(.int .u64 0)]))else(bif(v0==6)then(some (.agg [(.bool false),(.int .u64 0),(.int .u64 0),(.str Ap),(.str Az),(.str ([]:List UInt8)),(.int .i64 A1),(.int .i64 A2),(.int .i64 A3),(.int .i64 A4),(.int .i64 A5),(.int .i64 0),(.int .u64 0)]))else(bif(v0==15)then(some (.agg [(.bool false),(.int .u64 0),(.int .u64 0),(.str Ap),(.str ([]:List UInt8)),(.str ([]:List UInt8)),(.int .i64 A1),(.int .i64 0),(.int .i64 0),(.int .i64 0),(.int .i64 0),(.int .i64 0),(.int .u64 0)]))else(bif(v0==16)then(some (.agg [(.bool false),(.int .u64 0),(.int .u64 0),(.str ([]:List UInt8)),(.str ([]:List UInt8)),(.str A0),(.int .i64 0),(.int .i64 0),(.int .i64 0),(.int .i64 0),(.int .i64 0),(.int .i64 0),(.int .u64 0)]))else(bif(v0==33)then(some (.agg [(.bool false),(.int .u64 0),(.int .u64 0),(.str Ap),(.str ([]:List UInt8)),(.str ([]:List UInt8)),(.int .i64 A1),(.int .i64 A2),(.int .i64 A3),(.int .i64 0),(.int .i64 0),(.int .i64 0),(.int .u64 0)]))else(qtr v0 Am An Ao Ap Az A0 A1 A2 A3 A4 A5 A6 A7 false 0 0 ([]:List UInt8) ([]:List UInt8) ([]:List UInt8) 0 0 0 0 0 0 0 (fun v60q3=>(bif v60q3 then(some (.agg [(.bool false),(.int .u64 0),(.int .u64 0),(.str ([]:List UInt8)),(.str ([]:List UInt8)),(.str A0),(.int .i64 A1),(.int .i64 A2),(.int .i64 A3),(.int .i64 0),(.int .i64 0),(.int .i64 0),(.int .u64 0)]))else(bif(v0==46)then(some (.agg [(.bool false),(.int .u64 0),(.int .u64 0),(.str Ap),(.str ([]:List UInt8)),(.str A0),(.int .i64 A1),(.int .i64 A2),(.int .i64 A3),(.int .i64 A4),(.int .i64 A5),(.int .i64 A6),(.int .u64 0)]))else(some (.agg [(.bool false),(.int .u64 0),(.int .u64 0),(.str Ap),(.str ([]:List UInt8)),(.str ([]:List UInt8)),(.int .i64 0),(.int .i64 0),(.int .i64 0),(.int .i64 0),(.int .i64 0),(.int .i64 0),(.int .u64 A7)]))))))))))))))))
def qs9:=hull qlg
theorem q93:qs9=qlg:=qa _
def qbbp {R:Type}:EntF Tryz.prog R:=entB (nt:=96) (dec:=(decT [.b,(.i .u64),(.i .u64),.s,.s,.s,(.i .i64),(.i .i64),(.i .i64),(.i .i64),(.i .i64),(.i .i64),(.i .u64)])) (enc:=(qcf (.st [.b,(.i .u64),(.i .u64),.s,.s,.s,(.i .i64),(.i .i64),(.i .i64),(.i .i64),(.i .i64),(.i .i64),(.i .u64)]))) Tryz.func83 [(.cell 4 true 13)] hdeT (.s .z (.s (.s .z (.b (.s (.sub [.sel [3,4,5] [0,1]] q5k []) (.s .z (.s (.sub [.sel [3,4,5] [0,1]] q3w []) (.s .z (.s .z (.s .z (.s .z (.s .z (.s .z (.s .z (.s .z (.s .z (.s (.sub [.sel [3,4,5] [0,1]] q3x []) .z))))))))))))))) .z)) S25_ qlg (fun f v=>f (v.i 0 0) (v.b 5 0) (v.i 5 1) (v.i 5 2) (v.s 5 3) (v.s 5 4) (v.s 5 5) (v.i 5 6) (v.i 5 7) (v.i 5 8) (v.i 5 9) (v.i 5 10) (v.i 5 11) (v.i 5 12))
def qjv (Ai:Bool)(Aj Ak:Int):Option Bool:=
 (bif Ai then(some true)else(bif(Aj==0)then(some (decide (Ak<4294967296)))else(some false)))
def qrb:=hull qjv
theorem q8h:qrb=qjv:=qa _
def q94 {R:Type}:EntF Tryz.prog R:=entB (nt:=15) (dec:=decB) (enc:=AV.bool) Tryz.func84 [.t 2] hdeB (.z) S19_ qjv (fun f v=>f (v.b 1 0) (v.i 1 1) (v.i 1 2))
def qlh (v0:LU):Option Bool:=
 (oB (qgr v0) fun r1=>(bif r1 then(oB (ixB v0 0) fun c2=>(some ((c2.toNat:Int) != 42)))else(some false)))
def qew:=hull qlh
theorem q95:qew=qlh:=qa _
def qfx {R:Type}:EntF Tryz.prog R:=entB (nt:=10) (dec:=decB) (enc:=AV.bool) Tryz.func85 [.t 2] hdeB (.s .z (.s (.r [(1,.c qjs.b)] []) .z)) S15_ qlh (fun f v=>f (v.s 0 0))
def qoi (v0:Int):Option Bool:=
 (some ((decide (v0>=0))&&(decide (v0<4294967296))))
def qrc:=hull qoi
theorem q8i:qrc=qoi:=qa _
def q96 {R:Type}:EntF Tryz.prog R:=entB (nt:=9) (dec:=decB) (enc:=AV.bool) Tryz.func86 [.t 2] hdeB (.s .z (.s (.r [(3,.g 2)] []) .z)) S0_ qoi (fun f v=>f (v.i 0 0))
def qta (v0 v1:Int):Option Bool:=
 (some ((decide (v0>=0))&&(decide (v0<=v1))))
def qbd:=hull qta
theorem qbd1:qbd=qta:=qa _
def qw {R:Type}:EntF Tryz.prog R:=entB (nt:=12) (dec:=decB) (enc:=AV.bool) Tryz.func87 [.t 4] hdeB (.s .z (.s (.r [(3,.g 3)] []) .z)) S20_ qta (fun f v=>f (v.i 0 0) (v.i 4 0))
def qp0 (v0:LU):Option Bool:=
 (some ((decide ((v0.length:Int)>=1))&&(decide ((v0.length:Int)<=255))))
def qkg:=hull qp0
theorem q97:qkg=qp0:=qa _
def qp1 {R:Type}:EntF Tryz.prog R:=entB (nt:=11) (dec:=decB) (enc:=AV.bool) Tryz.func88 [.t 2] hdeB (.s .z (.s (.r [(4,.g 3)] []) .z)) S15_ qp0 (fun f v=>f (v.s 0 0))
def S76_:Shp:=⟨[(0,.one (.l (.i .u64))),(3,.one (.l (.i .i64)))],[]⟩
def S77_:Shp:=⟨[(0,.one (.l (.i .u64)))],[]⟩
def qqv (K:Ex->Env->Mem->Option Bool):=(fun(_:Unit)=>K (.exit 0) (qe []) (qd []))
def qiu (v0 v3:Int)(next:Int->Option Bool)(kx0:Unit->Option Bool):Option Bool:=
 (bif(decide (v3<64))then(bif decide ((u64.wrap v3)<0)then none else(bif((qgn .and .u64 (v0.fdiv (2^min (u64.wrap v3).toNat u64.bits)) 1)==1)then(oB (qgs v3) fun r1=>(bif(!r1)then(some false)else(next (i64.wrap (v3+1)))))else(next (i64.wrap (v3+1)))))else(kx0 ()))
def qf6 (v0:Int)(kx0:Unit->Option Bool):Nat->Int->Option Bool
 |0=>(fun _=>none)
 |n+1=>(fun v3=>qiu v0 v3 (qf6 v0 kx0 n) kx0)
def qww:=hull (qf6)
theorem q5l:qww=qf6:=qa _
def q8j:SubB Tryz.prog (TIof Tryz.prog) 19 0 (kret [.t 2] decB):=lpB Tryz.f89 37 (.s (.s .z (.s .z (.v [.sel [] []]))) (.s (.b (.s (.r [(8,.c qju.b)] []) .z)) (.v [.sel [0,3] []]))) S76_ (qf6) (fun f v K n=>f (v.i 0 0) (qqv K) n) (fun v f K=>qiu (v.i 0 0) (v.i 12 0) f (qqv K)) (fun f v=>f (v.i 12 0)) (fun k v=>(fun z0=>k (v.ui 12 0 z0)))
def qmi (v0:Int):Option Bool:=
 (qww v0 (fun(_:Unit)=>(some true)) FU 0)
def qu5:=hull qmi
theorem qbbq:qu5=qmi:=qa _
def qbd2 {R:Type}:EntF Tryz.prog R:=entB (nt:=19) (dec:=decB) (enc:=AV.bool) Tryz.func89 [.t 2] hdeB (.s .z (.s (.s .z (.b (.sub [.sel [0,3] []] q8j []))) .z)) S77_ qmi (fun f v=>f (v.i 0 0))
def S78_:Shp:=⟨[(0,.one (.l (.i .i64))),(3,.one (.ptr 0 0))],[.box true (lk qbb)]⟩
def q0t (v0:Int)(Aa:Bool)(Ab Ac:Int)(Ad Aq Ar:LU)(As At Au Av Aw Ax Ay:Int)(K:Ex->Env->Mem->Option Bool):=(fun z_v14=>K .norm (qe [(0,(.int .i64 v0)),(3,(.ptr 0 0)),(14,(.bool z_v14))]) (qd [(some (.box true (qdm Aa Ab Ac Ad Aq Ar As At Au Av Aw Ax Ay)))]))
def qg4 (v0:Int)(Aa:Bool)(Ab Ac:Int)(Ad Aq Ar:LU)(As At Au Av Aw Ax Ay:Int)(kn:Bool->Option Bool):Option Bool:=
 (oB (qgs v0) fun r1=>(bif(!r1)then(kn true)else(oB (qs9 v0 Aa Ab Ac Ad Aq Ar As At Au Av Aw Ax Ay) fun r2=>(kn (!(((gB r2.cells 0)==Aa)&&(((gI r2.cells 1)==Ab)&&(((gI r2.cells 2)==Ac)&&(((gS r2.cells 3)==Ad)&&(((gS r2.cells 4)==Aq)&&(((gS r2.cells 5)==Ar)&&(((gI r2.cells 6)==As)&&(((gI r2.cells 7)==At)&&(((gI r2.cells 8)==Au)&&(((gI r2.cells 9)==Av)&&(((gI r2.cells 10)==Aw)&&(((gI r2.cells 11)==Ax)&&(((gI r2.cells 12)==Ay)&&true))))))))))))))))))
def qts:=hull (qg4)
theorem q0u:qts=qg4:=qa _
def q3y:SubB Tryz.prog (TIof Tryz.prog) 211 0 (kret [.t 4] decB):=jnB Tryz.f60 9 (.d [] [(1,.c qju.b),(6,.c qbbp.b)] [] [.sel [0,3,14] [0]]) S78_ (qg4) (fun f v K=>f (v.i 0 0) (v.b 3 0) (v.i 3 1) (v.i 3 2) (v.s 3 3) (v.s 3 4) (v.s 3 5) (v.i 3 6) (v.i 3 7) (v.i 3 8) (v.i 3 9) (v.i 3 10) (v.i 3 11) (v.i 3 12) (q0t (v.i 0 0) (v.b 3 0) (v.i 3 1) (v.i 3 2) (v.s 3 3) (v.s 3 4) (v.s 3 5) (v.i 3 6) (v.i 3 7) (v.i 3 8) (v.i 3 9) (v.i 3 10) (v.i 3 11) (v.i 3 12) K))
def qyq (K:Ex->Env->Mem->Option Bool):=(fun z_v4=>K .norm (qe [(4,(.bool z_v4))]) (qd []))
def qgc (Aa:Bool)(Ab Ac:Int)(Ad Aq Ar:LU)(As At Au Av Aw Ax Ay:Int)(kn:Bool->Option Bool):Option Bool:=
 (oB (qew Ad) fun r1=>(bif r1 then(oB (qew Aq) fun r2=>(bif r2 then(oB (qrc As) fun r3=>(bif r3 then(oB (qbd At 2147483647) fun r4=>(bif r4 then(oB (qbd Au 2147483647) fun r5=>(bif r5 then(oB (qbd Av 2147483647) fun r6=>(bif r6 then(oB (qbd Aw 2147483647) fun r7=>(kn r7))else(kn false)))else(kn false)))else(kn false)))else(kn false)))else(kn false)))else(kn false)))
def qsk:=hull (qgc)
theorem qyr:qsk=qgc:=qa _
def q0v:SubB Tryz.prog (TIof Tryz.prog) 211 0 (kret [.t 4] decB):=jnB Tryz.f60 5099 (.r [(2,.c qfx.b),(6,.c qfx.b),(11,.c q96.b),(16,.c qw.b),(21,.c qw.b),(26,.c qw.b),(31,.c qw.b)] [.sel [4] []]) S24_ (qgc) (fun f v K=>f (v.b 3 0) (v.i 3 1) (v.i 3 2) (v.s 3 3) (v.s 3 4) (v.s 3 5) (v.i 3 6) (v.i 3 7) (v.i 3 8) (v.i 3 9) (v.i 3 10) (v.i 3 11) (v.i 3 12) (qyq K))
def qys (K:Ex->Env->Mem->Option Bool):=(fun z_v4=>K .norm (qe [(4,(.bool z_v4))]) (qd []))
def qgd (Aa:Bool)(Ab Ac:Int)(Ad Aq Ar:LU)(As At Au Av Aw Ax Ay:Int)(kn:Bool->Option Bool):Option Bool:=
 (oB (qew Ad) fun r1=>(bif r1 then(oB (qbd As 65535) fun r2=>(bif r2 then(oB (qbd At 65535) fun r3=>(bif r3 then(oB (qbd Au 65535) fun r4=>(kn r4))else(kn false)))else(kn false)))else(kn false)))
def qsl:=hull (qgd)
theorem qyt:qsl=qgd:=qa _
def q0w:SubB Tryz.prog (TIof Tryz.prog) 211 0 (kret [.t 4] decB):=jnB Tryz.f60 327659 (.r [(2,.c qfx.b),(6,.c qw.b),(11,.c qw.b),(16,.c qw.b)] [.sel [4] []]) S24_ (qgd) (fun f v K=>f (v.b 3 0) (v.i 3 1) (v.i 3 2) (v.s 3 3) (v.s 3 4) (v.s 3 5) (v.i 3 6) (v.i 3 7) (v.i 3 8) (v.i 3 9) (v.i 3 10) (v.i 3 11) (v.i 3 12) (qys K))
def qyu (K:Ex->Env->Mem->Option Bool):=(fun z_v4=>K .norm (qe [(4,(.bool z_v4))]) (qd []))
def qge (Aa:Bool)(Ab Ac:Int)(Ad Aq Ar:LU)(As At Au Av Aw Ax Ay:Int)(kn:Bool->Option Bool):Option Bool:=
 (oB (qbd As 65535) fun r1=>(bif r1 then(oB (qbd At 255) fun r2=>(bif r2 then(oB (qbd Au 255) fun r3=>(bif r3 then(oB (qkg Ar) fun r4=>(kn r4))else(kn false)))else(kn false)))else(kn false)))
def qsm:=hull (qge)
theorem qyv:qsm=qge:=qa _
def q0x:SubB Tryz.prog (TIof Tryz.prog) 211 0 (kret [.t 4] decB):=jnB Tryz.f60 1310699 (.r [(2,.c qw.b),(6,.c qw.b),(11,.c qw.b),(16,.c qp1.b)] [.sel [4] []]) S24_ (qge) (fun f v K=>f (v.b 3 0) (v.i 3 1) (v.i 3 2) (v.s 3 3) (v.s 3 4) (v.s 3 5) (v.i 3 6) (v.i 3 7) (v.i 3 8) (v.i 3 9) (v.i 3 10) (v.i 3 11) (v.i 3 12) (qyu K))
def qyw (K:Ex->Env->Mem->Option Bool):=(fun z_v4=>K .norm (qe [(4,(.bool z_v4))]) (qd []))
def qgf (Aa:Bool)(Ab Ac:Int)(Ad Aq Ar:LU)(As At Au Av Aw Ax Ay:Int)(kn:Bool->Option Bool):Option Bool:=
 (oB (qgs As) fun r1=>(bif(r1&&(As != 46))then(oB (qbd At 127) fun r2=>(bif r2 then(oB (qbd Au 2147483647) fun r3=>(bif r3 then(oB (qbd Av 4294967295) fun r4=>(bif r4 then(oB (qbd Aw 4294967295) fun r5=>(bif r5 then(oB (qbd Ax 65535) fun r6=>(bif r6 then(oB (qew Ad) fun r7=>(bif r7 then(oB (qkg Ar) fun r8=>(kn r8))else(kn false)))else(kn false)))else(kn false)))else(kn false)))else(kn false)))else(kn false)))else(kn false)))
def qsn:=hull (qgf)
theorem qyx:qsn=qgf:=qa _
def q0y:SubB Tryz.prog (TIof Tryz.prog) 211 0 (kret [.t 4] decB):=jnB Tryz.f60 5242859 (.r [(2,.c qju.b),(4,.g 3),(11,.c qw.b),(16,.c qw.b),(21,.c qw.b),(26,.c qw.b),(31,.c qw.b),(36,.c qfx.b),(41,.c qp1.b)] [.sel [4] []]) S24_ (qgf) (fun f v K=>f (v.b 3 0) (v.i 3 1) (v.i 3 2) (v.s 3 3) (v.s 3 4) (v.s 3 5) (v.i 3 6) (v.i 3 7) (v.i 3 8) (v.i 3 9) (v.i 3 10) (v.i 3 11) (v.i 3 12) (qyw K))
def qyy (K:Ex->Env->Mem->Option Bool):=(fun z_v4=>K .norm (qe [(4,(.bool z_v4))]) (qd []))
def qgg (Aa:Bool)(Ab Ac:Int)(Ad Aq Ar:LU)(As At Au Av Aw Ax Ay:Int)(kn:Bool->Option Bool):Option Bool:=
 (bif(((As==256)||(As==257))&&(At==3))then(oB (qbd Au 255) fun r1=>(bif r1 then(oB (qkg Ar) fun r2=>(kn r2))else(kn false)))else(kn false))
def qso:=hull (qgg)
theorem qyz:qso=qgg:=qa _
def q0z:SubB Tryz.prog (TIof Tryz.prog) 211 0 (kret [.t 4] decB):=jnB Tryz.f60 83886059 (.r [(4,.g 3),(9,.g 3),(16,.c qw.b),(21,.c qp1.b)] [.sel [4] []]) S24_ (qgg) (fun f v K=>f (v.b 3 0) (v.i 3 1) (v.i 3 2) (v.s 3 3) (v.s 3 4) (v.s 3 5) (v.i 3 6) (v.i 3 7) (v.i 3 8) (v.i 3 9) (v.i 3 10) (v.i 3 11) (v.i 3 12) (qyy K))
def qjw (v0:Int)(Am:Bool)(An Ao:Int)(Ap Az A0:LU)(A1 A2 A3 A4 A5 A6 A7:Int):Option Bool:=
 (qts v0 Am An Ao Ap Az A0 A1 A2 A3 A4 A5 A6 A7 (fun v14q1=>(bif v14q1 then(some false)else(bif(v0==1)then(oB (qrb Am An Ao) fun r2=>(some (r2&&(!Am))))else(bif(v0==28)then(some Am)else(bif(v0==6)then(qsk Am An Ao Ap Az A0 A1 A2 A3 A4 A5 A6 A7 (fun v4q3=>(some v4q3)))else(bif(v0==15)then(oB (qew Ap) fun r4=>(bif r4 then(oB (qbd A1 65535) fun r5=>(some r5))else(some false)))else(bif(v0==16)then(some (decide ((A0.length:Int)<=255)))else(bif(v0==33)then(qsl Am An Ao Ap Az A0 A1 A2 A3 A4 A5 A6 A7 (fun v4q6=>(some v4q6)))else(bif(v0==43)then(qsm Am An Ao Ap Az A0 A1 A2 A3 A4 A5 A6 A7 (fun v4q7=>(some v4q7)))else(bif(v0==46)then(qsn Am An Ao Ap Az A0 A1 A2 A3 A4 A5 A6 A7 (fun v4q8=>(some v4q8)))else(bif(v0==47)then(oB (qgr Ap) fun r9=>(bif(r9&&(A7 != 0))then(oB (qu5 A7) fun r10=>(some r10))else(some false)))else(bif(v0==48)then(qso Am An Ao Ap Az A0 A1 A2 A3 A4 A5 A6 A7 (fun v4q11=>(some v4q11)))else(oB (qew Ap) fun r12=>(some r12)))))))))))))))
def qrd:=hull qjw
theorem q8k:qrd=qjw:=qa _
def q98 {R:Type}:EntF Tryz.prog R:=entB (nt:=211) (dec:=decB) (enc:=AV.bool) Tryz.func60 [.t 4] hdeB (.s .z (.s (.s (.sub [.sel [0,3] [0]] q3y []) .z) (.s (.s .z (.b (.s .z (.s (.s (.r [(2,.c q94.b),(4,.g 4)] []) .z) (.s .z (.s .z (.s .z (.s (.s (.sub [.sel [3] [0]] q0v []) .z) (.s .z (.s (.s (.r [(2,.c qfx.b),(6,.c qw.b)] []) .z) (.s .z (.s .z (.s .z (.s (.s (.sub [.sel [3] [0]] q0w []) .z) (.s .z (.s (.s (.sub [.sel [3] [0]] q0x []) .z) (.s .z (.s (.s (.sub [.sel [3] [0]] q0y []) .z) (.s .z (.s (.s (.r [(2,.c qjs.b),(4,.g 3),(11,.c qbd2.b)] []) .z) (.s .z (.s (.s (.sub [.sel [3] [0]] q0z []) .z) .z)))))))))))))))))))))) (.s (.r [(2,.c qfx.b)] []) .z)))) S25_ qjw (fun f v=>f (v.i 0 0) (v.b 5 0) (v.i 5 1) (v.i 5 2) (v.s 5 3) (v.s 5 4) (v.s 5 5) (v.i 5 6) (v.i 5 7) (v.i 5 8) (v.i 5 9) (v.i 5 10) (v.i 5 11) (v.i 5 12))
def qjx (Ai:LU)(Aj Ak:Int)(Al:Bool)(A8 A9:Int)(Ba Bb Bc:LU)(Bd Be Bf Bg Bh Bi Bj:Int):Option Bool:=
 (oB (qgr Ai) fun r1=>(bif r1 then(oB (qgs Aj) fun r2=>(bif((r2&&(decide (Ak>=0)))&&(decide (Ak<=2147483647)))then(oB (qrd Aj Al A8 A9 Ba Bb Bc Bd Be Bf Bg Bh Bi Bj) fun r3=>(some r3))else(some false)))else(some false)))
def qmj:=hull qjx
theorem q8l:qmj=qjx:=qa _
def q99 {R:Type}:EntF Tryz.prog R:=entB (nt:=28) (dec:=decB) (enc:=AV.bool) Tryz.func25 [.t 2] hdeB (.s .z (.s (.r [(2,.c qjs.b),(6,.c qju.b),(9,.g 3),(14,.g 3),(23,.c q98.b)] []) .z)) S26_ qjx (fun f v=>f (v.s 1 0) (v.i 1 1) (v.i 1 2) (v.b 1 3) (v.i 1 4) (v.i 1 5) (v.s 1 6) (v.s 1 7) (v.s 1 8) (v.i 1 9) (v.i 1 10) (v.i 1 11) (v.i 1 12) (v.i 1 13) (v.i 1 14) (v.i 1 15))
def S79_:Shp:=⟨[(0,.st (lk qb)),(1,.one (.l (.i .i64))),(2,.one (.l (.i .i64)))],[]⟩
def qm3 (Ai:Int)(Aj:LU)(Ak Al:Int)(A8:LA)(A9 Ba Bb Bc v1 v2:Int):Option Bool:=
 (some ((decide (v2<Bb))&&(decide (A9>v1))))
def qbm:=hull qm3
theorem q5m:qbm=qm3:=qa _
def qtt {R:Type}:EntF Tryz.prog R:=entB (nt:=17) (dec:=decB) (enc:=AV.bool) Tryz.func26 [.t 6] hdeB (.s .z (.s (.r [(5,.g 4)] []) .z)) S79_ qm3 (fun f v=>f (v.i 1 0) (v.s 1 1) (v.i 1 2) (v.i 1 3) (v.l 1 4) (v.i 1 5) (v.i 1 6) (v.i 1 7) (v.i 1 8) (v.i 4 0) (v.i 8 0))
def S80_:Shp:=⟨[(1,.one (.l .s)),(2,.one (.l .b)),(3,.one (.ptr 0 0)),(6,.one (.ptr 1 0)),(7,.one (.own 2)),(8,.one (.l (.i .i64))),(9,.one (.ptr 3 0))],[.box true [(.l (.i .i64)),(.l (.sl 9))],.box true [(.l (.i .i64)),(.l .nil)],.arr true 9,.box true (lk qb)]⟩
def S81_:Shp:=⟨[(1,.one (.l .s)),(2,.one (.l .b)),(3,.one (.ptr 0 0)),(6,.one (.ptr 1 0)),(7,.one (.own 2)),(8,.one (.l (.i .i64)))],[.box true [(.l (.i .i64)),(.l (.sl 9))],.box true [(.l (.i .i64)),(.l .nil)],.arr true 9]⟩
def S82_:Shp:=⟨[(0,.st [(.l (.i .i64)),(.l (.sl 9))]),(1,.one (.l .s)),(2,.one (.l .b))],[]⟩
def q00 (v1:LU)(v2:Bool)(v8 Aa:Int)(Ab:LA)(Ae:Int)(a2:LA)(Bz:Int)(B0:LU)(B1 B2:Int)(B3:LA)(B4 B5 B6 B7:Int)(K:Ex->Env->Mem->Option AV):=(fun z_v35=>K .norm (qe [(1,(.str v1)),(2,(.bool v2)),(3,(.ptr 0 0)),(6,(.ptr 1 0)),(7,(.own 2 a2.length)),(8,(.int .i64 v8)),(9,(.ptr 3 0)),(35,(.bool z_v35))]) (qd [(some (.box true [(.int .i64 Aa),(.sl 9 Ab)])),(some (.box true [(.int .i64 Ae),.nils])),(some (.arr true 9 a2)),(some (.box true (qbp Bz B0 B1 B2 B3 B4 B5 B6 B7)))]))
def qkv (v1:LU)(v2:Bool)(v8 Aa:Int)(Ab:LA)(Ae:Int)(a2:LA)(Bz:Int)(B0:LU)(B1 B2:Int)(B3:LA)(B4 B5 B6 B7:Int)(kn:Bool->Option AV):Option AV:=
 (bif(!(B0==v1))then(kn true)else(bif(!v2)then(kn (Bz != 2))else(kn false)))
def qm4:=hull (qkv)
theorem q01:qm4=qkv:=qa _
def q3z:SubB Tryz.prog (TIof Tryz.prog) 44 0 (kret [(.cell 6 true 2)] (decT [(.i .i64),(.fr true 9)])):=jnB Tryz.f28 2635 (.v [.sel [1,2,3,6,7,8,9,35] [0,1,2,3]]) S80_ (qkv) (fun f v K=>f (v.s 4 0) (v.b 8 0) (v.i 32 0) (v.i 3 0) (v.l 3 1) (v.i 7 0) (v.r 2) (v.i 15 0) (v.s 15 1) (v.i 15 2) (v.i 15 3) (v.l 15 4) (v.i 15 5) (v.i 15 6) (v.i 15 7) (v.i 15 8) (q00 (v.s 4 0) (v.b 8 0) (v.i 32 0) (v.i 3 0) (v.l 3 1) (v.i 7 0) (v.r 2) (v.i 15 0) (v.s 15 1) (v.i 15 2) (v.i 15 3) (v.l 15 4) (v.i 15 5) (v.i 15 6) (v.i 15 7) (v.i 15 8) K))
def qp2 (Aa:Int)(Ab:LA)(Ae:Int)(K:Ex->Env->Mem->Option AV):=(fun z_a2=>K (.exit 0) (qe [(3,(.ptr 0 0)),(6,(.ptr 1 0)),(7,(.own 2 z_a2.length))]) (qd [(some (.box true [(.int .i64 Aa),(.sl 9 Ab)])),(some (.box true [(.int .i64 Ae),.nils])),(some (.arr true 9 z_a2))]))
def qfq (v1:LU)(v2:Bool)(v8 Aa:Int)(Ab:LA)(Ae:Int)(a2:LA)(next:Int->(List AV)->Option AV)(kx0:(List AV)->Option AV):Option AV:=
 (bif(decide (v8<(Ab.length:Int)))then(oB (ixB Ab v8) fun y1=>(bif fitC qb y1.cells then(bif(hd a2 (a2.length)&&true)then(qm4 v1 v2 v8 Aa Ab Ae a2 (gI y1.cells 0) (gS y1.cells 1) (gI y1.cells 2) (gI y1.cells 3) (gL y1.cells 4) (gI y1.cells 5) (gI y1.cells 6) (gI y1.cells 7) (gI y1.cells 8) (fun v35q2=>(bif v35q2 then(bif hd a2 a2.length then(bif hd ([(.agg [(.int .i64 (gI y1.cells 0)),(.str (gS y1.cells 1)),(.int .i64 (gI y1.cells 2)),(.int .i64 (gI y1.cells 3)),(.sl 13 (gL y1.cells 4)),(.int .i64 (gI y1.cells 5)),(.int .i64 (gI y1.cells 6)),(.int .i64 (gI y1.cells 7)),(.int .i64 (gI y1.cells 8))])]:List AV) (([(.agg [(.int .i64 (gI y1.cells 0)),(.str (gS y1.cells 1)),(.int .i64 (gI y1.cells 2)),(.int .i64 (gI y1.cells 3)),(.sl 13 (gL y1.cells 4)),(.int .i64 (gI y1.cells 5)),(.int .i64 (gI y1.cells 6)),(.int .i64 (gI y1.cells 7)),(.int .i64 (gI y1.cells 8))])]:List AV).length)then(bif decide ((a2.length+([(.agg [(.int .i64 (gI y1.cells 0)),(.str (gS y1.cells 1)),(.int .i64 (gI y1.cells 2)),(.int .i64 (gI y1.cells 3)),(.sl 13 (gL y1.cells 4)),(.int .i64 (gI y1.cells 5)),(.int .i64 (gI y1.cells 6)),(.int .i64 (gI y1.cells 7)),(.int .i64 (gI y1.cells 8))])]:List AV).length)*96<=140737488355328)then(next (i64.wrap (v8+1)) (a2++([(.agg [(.int .i64 (gI y1.cells 0)),(.str (gS y1.cells 1)),(.int .i64 (gI y1.cells 2)),(.int .i64 (gI y1.cells 3)),(.sl 13 (gL y1.cells 4)),(.int .i64 (gI y1.cells 5)),(.int .i64 (gI y1.cells 6)),(.int .i64 (gI y1.cells 7)),(.int .i64 (gI y1.cells 8))])]:List AV)))else none)else none)else none)else(next (i64.wrap (v8+1)) a2))))else none)else none))else(kx0 a2))
def qdu (v1:LU)(v2:Bool)(Aa:Int)(Ab:LA)(Ae:Int)(kx0:(List AV)->Option AV):Nat->Int->(List AV)->Option AV
 |0=>(fun _ _=>none)
 |n+1=>(fun v8 a2=>qfq v1 v2 v8 Aa Ab Ae a2 (qdu v1 v2 Aa Ab Ae kx0 n) kx0)
def qu6:=hull (qdu)
theorem q30:qu6=qdu:=qa _
def q5n:SubB Tryz.prog (TIof Tryz.prog) 44 0 (kret [(.cell 6 true 2)] (decT [(.i .i64),(.fr true 9)])):=lpB Tryz.f28 75 (.s (.s .z (.s .z (.v [.sel [3,6,7] [0,1,2]]))) (.s (.b (.s (.r [(3,.p (.etac 20 qb))] []) (.s (.sub [.sel [1,2,3,6,7,8,9] [0,1,2,3]] q3z []) .z))) (.v [.sel [1,2,3,6,7,8] [0,1,2]]))) S81_ (qdu) (fun f v K n=>f (v.s 4 0) (v.b 8 0) (v.i 3 0) (v.l 3 1) (v.i 7 0) (qp2 (v.i 3 0) (v.l 3 1) (v.i 7 0) K) n) (fun v f K=>qfq (v.s 4 0) (v.b 8 0) (v.i 32 0) (v.i 3 0) (v.l 3 1) (v.i 7 0) (v.r 2) f (qp2 (v.i 3 0) (v.l 3 1) (v.i 7 0) K)) (fun f v=>f (v.i 32 0) (v.r 2)) (fun k v=>(fun z0 z1=>k ((v.ui 32 0 z0).ur 2 z1)))
def qli (Ai:Int)(Aj:LA)(v1:LU)(v2:Bool):Option AV:=
 (bif(hd ([]:List AV) (([]:List AV).length)&&true)then(qu6 v1 v2 Ai Aj 0 (fun a2q1=>(bif hd a2q1 a2q1.length then(some (.agg [(.int .i64 Ai),(.fr true 9 a2q1)]))else none)) FU 0 ([]:List AV))else none)
def qhe:=hull qli
theorem qbaa:qhe=qli:=qa _
def qwx {R:Type}:EntF Tryz.prog R:=entB (nt:=44) (dec:=(decT [(.i .i64),(.fr true 9)])) (enc:=(qcf (.st [(.i .i64),(.fr true 9)]))) Tryz.func28 [(.cell 6 true 2)] hdeT (.s .z (.s .z (.s (.s .z (.b (.sub [.own 7 9,.sel [1,2,3,6,7,8] [0,1,2]] q5n []))) .z))) S82_ qli (fun f v=>f (v.i 1 0) (v.l 1 1) (v.s 4 0) (v.b 8 0))
def qre (v0 v1:Int):Option Int:=
 (some (if 4294967295<(i64.wrap (v1+v0))then 4294967295 else(i64.wrap (v1+v0))))
def qlw:=hull qre
theorem qbbr:qlw=qre:=qa _
def qy0 {R:Type}:EntF Tryz.prog R:=entB (nt:=9) (dec:=(decI .i64)) (enc:=(AV.int .i64)) Tryz.func29 [.t 4] hdeI (.z) S20_ qre (fun f v=>f (v.i 0 0) (v.i 4 0))
def qlj (v0 v1:LU):Option Int:=
 (bif(Op.bytesLess v0 v1)then(some (-1))else(bif(!(Op.bytesLess v0 v1||v0==v1))then(some 1)else(some 0)))
def qn5:=hull qlj
theorem qbab:qn5=qlj:=qa _
def qwy {R:Type}:EntF Tryz.prog R:=entB (nt:=11) (dec:=(decI .i64)) (enc:=(AV.int .i64)) Tryz.func100 [.t 4] hdeI (.z) S8_ qlj (fun f v=>f (v.s 0 0) (v.s 4 0))
def S83_:Shp:=⟨[(0,.one (.l (.sl 1))),(1,.one (.l (.sl 1))),(5,.one (.l (.i .i64)))],[]⟩
def S84_:Shp:=⟨[(0,.one (.l (.sl 1))),(1,.one (.l (.sl 1)))],[]⟩
def q31 (v0 v1:LA)(v5:Int)(K:Ex->Env->Mem->Option Int):=(fun z_v34=>K .norm (qe [(0,(.sl 1 v0)),(1,(.sl 1 v1)),(5,(.int .i64 v5)),(34,(.bool z_v34))]) (qd []))
def qhw (v0 v1:LA)(v5:Int)(kn:Bool->Option Int):Option Int:=
 (bif(decide (v5<(v0.length:Int)))then(bif(decide (v5<(v1.length:Int)))then(oB (ixB v0 (i64.wrap ((i64.wrap ((v0.length:Int)-1))-v5))) fun y1=>(bif fitC [.s] y1.cells then(oB (ixB v1 (i64.wrap ((i64.wrap ((v1.length:Int)-1))-v5))) fun y2=>(bif fitC [.s] y2.cells then(kn ((gS y1.cells 0)==(gS y2.cells 0)))else none))else none))else(kn false))else(kn false))
def qu7:=hull (qhw)
theorem q32:qu7=qhw:=qa _
def q5o:SubB Tryz.prog (TIof Tryz.prog) 38 0 (kret [.t 4] (decI .i64)):=jnB Tryz.f67 131 (.d [] [(17,.e 23 [.s]),(25,.e 31 [.s])] [] [.sel [0,1,5,34] []]) S83_ (qhw) (fun f v K=>f (v.l 0 0) (v.l 4 0) (v.i 20 0) (q31 (v.l 0 0) (v.l 4 0) (v.i 20 0) K))
def qp3 (K:Ex->Env->Mem->Option Int):=(fun z_v5=>K (.exit 0) (qe [(5,(.int .i64 z_v5))]) (qd []))
def qhx (v0 v1:LA)(v5:Int)(next:Int->Option Int)(kx0:Int->Option Int):Option Int:=
 (qu7 v0 v1 v5 (fun v34q1=>(bif v34q1 then(next (i64.wrap (v5+1)))else(kx0 v5))))
def qdv (v0 v1:LA)(kx0:Int->Option Int):Nat->Int->Option Int
 |0=>(fun _=>none)
 |n+1=>(fun v5=>qhx v0 v1 v5 (qdv v0 v1 kx0 n) kx0)
def qu8:=hull (qdv)
theorem q33:qu8=qdv:=qa _
def q5p:SubB Tryz.prog (TIof Tryz.prog) 38 0 (kret [.t 4] (decI .i64)):=lpB Tryz.f67 35 (.s (.s (.sub [.sel [0,1,5] []] q5o []) (.s .z (.v [.sel [5] []]))) (.b (.v [.sel [0,1,5] []]))) S83_ (qdv) (fun f v K n=>f (v.l 0 0) (v.l 4 0) (qp3 K) n) (fun v f K=>qhx (v.l 0 0) (v.l 4 0) (v.i 20 0) f (qp3 K)) (fun f v=>f (v.i 20 0)) (fun k v=>(fun z0=>k (v.ui 20 0 z0)))
def qlk (v0 v1:LA):Option Int:=
 (qu8 v0 v1 (fun v5q1=>(some v5q1)) FU 0)
def qkh:=hull qlk
theorem qbac:qkh=qlk:=qa _
def qwz {R:Type}:EntF Tryz.prog R:=entB (nt:=38) (dec:=(decI .i64)) (enc:=(AV.int .i64)) Tryz.func67 [.t 4] hdeI (.s .z (.s .z (.s (.b (.sub [.sel [0,1,5] []] q5p [])) .z))) S84_ qlk (fun f v=>f (v.l 0 0) (v.l 4 0))
def qhy (v0 v1:LU):Option Int:=
 (oB (qdt v0) fun r1=>(oB (qdt v1) fun r2=>(bif((!r1.2)||(!r2.2))then(bif r1.2 then(some (-1))else(bif r2.2 then(some 1)else(oB (qn5 v0 v1) fun r3=>(some r3))))else(oB (qkh r1.1 r2.1) fun r4=>(bif((decide (r4<(r1.1.length:Int)))&&(decide (r4<(r2.1.length:Int))))then(oB (ixB r1.1 (i64.wrap ((i64.wrap ((r1.1.length:Int)-1))-r4))) fun y5=>(bif fitC [.s] y5.cells then(oB (ixB r2.1 (i64.wrap ((i64.wrap ((r2.1.length:Int)-1))-r4))) fun y6=>(bif fitC [.s] y6.cells then(oB (qn5 (gS y5.cells 0) (gS y6.cells 0)) fun r7=>(some r7))else none))else none))else(bif(decide ((r1.1.length:Int)<(r2.1.length:Int)))then(some (-1))else(bif(decide ((r1.1.length:Int)>(r2.1.length:Int)))then(some 1)else(some 0))))))))
def qoj:=hull qhy
theorem q34:qoj=qhy:=qa _
def q5q {R:Type}:EntF Tryz.prog R:=entB (nt:=71) (dec:=(decI .i64)) (enc:=(AV.int .i64)) Tryz.func90 [.t 4] hdeI (.s .z (.s (.r [(1,.k qfg.b)] []) (.s (.r [(1,.k qfg.b)] []) (.s (.s (.r [(3,.g 2)] []) (.s (.s .z (.s .z (.s (.r [(2,.c qwy.b)] []) .z))) .z)) (.s (.r [(2,.c qwz.b)] []) (.s (.s (.r [(5,.g 4)] []) (.s (.s (.d [] [(6,.e 50 [.s]),(14,.e 58 [.s])] [(0,.c qwy.b)] []) .z) .z)) .z)))))) S8_ qhy (fun f v=>f (v.s 0 0) (v.s 4 0))
def qjy (Ai:Int)(Aj:LU)(Ak Al:Int)(A8:LA)(A9 Ba Bb Bc Am:Int)(An:LU)(Ao Ap:Int)(Az:LA)(A0 A1 A2 A3:Int):Option Int:=
 (oB (qoj Aj An) fun r1=>(bif(r1 != 0)then(some r1)else(bif(decide (Ak<Ao))then(some (-1))else(bif(decide (Ak>Ao))then(some 1)else(some 0)))))
def qdw:=hull qjy
theorem q8m:qdw=qjy:=qa _
def qok {R:Type}:EntF Tryz.prog R:=entB (nt:=30) (dec:=(decI .i64)) (enc:=(AV.int .i64)) Tryz.func61 [.t 4] hdeI (.s .z (.s (.r [(6,.c q5q.b)] []) .z)) S36_ qjy (fun f v=>f (v.i 1 0) (v.s 1 1) (v.i 1 2) (v.i 1 3) (v.l 1 4) (v.i 1 5) (v.i 1 6) (v.i 1 7) (v.i 1 8) (v.i 5 0) (v.s 5 1) (v.i 5 2) (v.i 5 3) (v.l 5 4) (v.i 5 5) (v.i 5 6) (v.i 5 7) (v.i 5 8))
def qby:List LT:=[(.i .i64),.s,(.i .i64),(.i .i64),.op,(.i .i64),(.i .i64),(.i .i64),(.i .i64)]
def S85_:Shp:=⟨[(0,.one (.l (.sl 9))),(1,.one (.l (.i .i64)))],[]⟩
def qhz (v0:LA)(v1:Int):Option (List AV):=
 (oB (cutI v0 none (some v1)) fun s1=>(bif decide ((([]:List AV).length+s1.length)*96<=140737488355328)then(oB (cutI v0 (some (i64.wrap (v1+1))) none) fun s2=>(bif hd s1 s1.length then(bif decide ((s1.length+s2.length)*96<=140737488355328)then(bif hd (s1++s2) ((s1++s2).length)then(some (s1++s2))else none)else none)else none))else none))
def qjz:=hull qhz
theorem q35:qjz=qhz:=qa _
def q5r {R:Type}:EntF Tryz.prog R:=entB (nt:=17) (dec:=(decF true 9)) (enc:=(AV.fr true 9)) Tryz.func62 [.t 4] hdeF (.z) S85_ qhz (fun f v=>f (v.l 0 0) (v.i 4 0))
def S86_:Shp:=⟨[(2,.one (.l (.i .i64))),(3,.one (.ptr 0 0)),(4,.one (.ptr 1 0)),(6,.one (.ptr 2 0)),(7,.one (.own 3)),(8,.one (.l .b)),(9,.one (.l (.i .i64)))],[.box true [(.l (.i .i64)),(.l (.sl 9))],.box true (lk qb),.box true [(.l (.i .i64)),(.l .nil)],.arr true 9]⟩
def S87_:Shp:=⟨[(2,.one (.l (.i .i64))),(3,.one (.ptr 0 0)),(4,.one (.ptr 1 0)),(6,.one (.ptr 2 0)),(7,.one (.own 3)),(8,.one (.l .b))],[.box true [(.l (.i .i64)),(.l (.sl 9))],.box true (lk qb),.box true [(.l (.i .i64)),(.l .nil)],.arr true 9]⟩
def S88_:Shp:=⟨[(2,.one (.l (.i .i64))),(3,.one (.ptr 0 0)),(4,.one (.ptr 1 0)),(6,.one (.ptr 2 0)),(7,.one (.own 3)),(12,.one (.own 4)),(13,.one (.l (.i .i64)))],[.box true [(.l (.i .i64)),(.l (.sl 9))],.box true (lk qb),.box true [(.l (.i .i64)),(.l .nil)],.arr true 9,.arr true 9]⟩
def S89_:Shp:=⟨[(2,.one (.l (.i .i64))),(3,.one (.ptr 0 0)),(4,.one (.ptr 1 0)),(6,.one (.ptr 2 0)),(7,.one (.own 3))],[.box true [(.l (.i .i64)),(.l (.sl 9))],.box true (lk qb),.box true [(.l (.i .i64)),(.l .nil)],.arr true 9]⟩
def S90_:Shp:=⟨[(3,.one (.ptr 0 0)),(4,.one (.ptr 1 0)),(6,.one (.ptr 2 0)),(7,.one (.l (.sl 9))),(14,.one (.l (.i .i64))),(15,.one (.l (.i .i64)))],[.box true [(.l (.i .i64)),(.l (.sl 9))],.box true (lk qb),.box true [(.l (.i .i64)),(.l .nil)]]⟩
def S91_:Shp:=⟨[(3,.one (.ptr 0 0)),(4,.one (.ptr 1 0)),(6,.one (.ptr 2 0)),(7,.one (.l (.sl 9)))],[.box true [(.l (.i .i64)),(.l (.sl 9))],.box true (lk qb),.box true [(.l (.i .i64)),(.l .nil)]]⟩
end
end Go.Proofs.YtmficjbenbhneaaGreatDoor.Dn
