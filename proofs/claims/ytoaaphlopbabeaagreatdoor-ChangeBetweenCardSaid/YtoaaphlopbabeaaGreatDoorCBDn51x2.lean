import Derived.Test.YtoaaphlopbabeaaGreatDoorProg
import Derived.Test.YtoaaphlopbabeaaGreatDoorCBLibD
import Derived.Test.YtoaaphlopbabeaaGreatDoorCBDn51x1
set_option linter.all false
namespace Go.Proofs.YtoaaphlopbabeaaGreatDoor.Dn
open Go Go.Pev
open Go.IntKind (i64 u64)
set_option maxRecDepth 100000
set_option maxHeartbeats 4000000
noncomputable section
def qq9:Option Bool:=
 (oB (qzx 8) fun r1=>(oB (qzx 8) fun r2=>(oB (qfq ([]:List AV) ([]:List AV) ([]:List AV) 1 (gB r1.cells 0) (gI r1.cells 1) (gI r1.cells 2) (gI r1.cells 3) 1 ([110,101,116]:List UInt8) ([]:List UInt8) 0 0 0 ([]:List UInt8) false 0 0 0 ([]:List UInt8)) fun r3=>(oB (qfq ([]:List AV) ([]:List AV) ([]:List AV) 2 (gB r2.cells 0) (gI r2.cells 1) (gI r2.cells 2) (gI r2.cells 3) 0 ([]:List UInt8) ([]:List UInt8) 0 0 0 ([]:List UInt8) false 0 0 0 ([]:List UInt8)) fun r4=>(oB (qv2 ([]:List AV) ([]:List AV) ([]:List AV) 1 (gB r1.cells 0) (gI r1.cells 1) (gI r1.cells 2) (gI r1.cells 3) 1 ([110,101,116]:List UInt8) ([]:List UInt8) 0 0 0 ([]:List UInt8) false 0 0 0 ([]:List UInt8)) fun r5=>(bif(r3.2==0)then(bif(((gL r3.1.cells 0).length:Int)==1)then(oB (ixB (gL r3.1.cells 0) 0) fun y6=>(bif fitC qb y6.cells then(bif(((gB y6.cells 0)==(gB r1.cells 0))&&(((gI y6.cells 1)==(gI r1.cells 1))&&(((gI y6.cells 2)==(gI r1.cells 2))&&(((gI y6.cells 3)==(gI r1.cells 3))&&(((gI y6.cells 4)==1)&&(((gS y6.cells 5)==([110,101,116]:List UInt8))&&(((gS y6.cells 6)==([]:List UInt8))&&(((gI y6.cells 7)==0)&&true))))))))then(bif(r4.2==11)then(bif(r5.2==0)then(some (((gI r5.1.cells 0)==2)&&(((gB r5.1.cells 1)==(gB r2.cells 0))&&(((gI r5.1.cells 2)==(gI r2.cells 1))&&(((gI r5.1.cells 3)==(gI r2.cells 2))&&(((gI r5.1.cells 4)==(gI r2.cells 3))&&(((gI r5.1.cells 5)==0)&&(((gS r5.1.cells 6)==([]:List UInt8))&&(((gS r5.1.cells 7)==([]:List UInt8))&&(((gI r5.1.cells 8)==0)&&(((gI r5.1.cells 9)==0)&&(((gI r5.1.cells 10)==0)&&(((gS r5.1.cells 11)==([]:List UInt8))&&(((gB r5.1.cells 12)==false)&&(((gI r5.1.cells 13)==0)&&(((gI r5.1.cells 14)==0)&&(((gI r5.1.cells 15)==0)&&(((gS r5.1.cells 16)==([]:List UInt8))&&true))))))))))))))))))else(some false))else(some false))else(some false))else none))else(some false))else(some false)))))))
def qqe:=hull qq9
theorem qbl1:qqe=qq9:=qa _
def qys {R:Type}:EntF Tryz.prog R:=entB (nt:=64) (dec:=decB) (enc:=AV.bool) Tryz.func13 [.t 0] hdeB (.s .z (.s .z (.s (.r [(0,.c qbao.b)] []) (.s (.r [(0,.c qbao.b)] []) (.s (.r [(2,.k qv1.b)] []) (.s (.r [(2,.k qv1.b)] []) (.s (.r [(2,.c qbn6.b)] []) (.s (.d [] [(11,.e 45 qb)] [] []) .z)))))))) (⟨[],[]⟩:Shp) qq9 (fun f v=>f)
def S91_:Shp:=⟨[(0,.one (.l (.sl 8))),(3,.one (.l (.i .i64))),(4,.one (.ptr 0 0)),(10,.one (.l (.sl 8))),(11,.one (.l (.i .i64))),(12,.one (.l (.i .i64)))],[.box true (lk qb)]⟩
def S92_:Shp:=⟨[(0,.one (.l (.sl 8))),(10,.one (.l (.sl 8))),(11,.one (.l (.i .i64))),(12,.one (.l (.i .i64)))],[]⟩
def S93_:Shp:=⟨[(0,.one (.l (.sl 8)))],[]⟩
def qbgt (v0:LA)(v3:Int)(v10:LA)(v11 v12:Int)(Av:Bool)(Aw Ax Ay Az:Int)(A0 A1:LU)(A2:Int)(K:Ex->Env->Mem->Option Int):=(fun(_:Unit)=>K .norm (qi [(0,(.sl 8 v0)),(3,(.int .i64 v3)),(4,(.ptr 0 0)),(10,(.sl 8 v10)),(11,(.int .i64 v11)),(12,(.int .i64 v12))]) (qe [(some (.box true (qo Av Aw Ax Ay Az A0 A1 A2)))]))
def qom (v0:LA)(v3:Int)(v10:LA)(v11 v12:Int)(Av:Bool)(Aw Ax Ay Az:Int)(A0 A1:LU)(A2:Int)(kn:Unit->Option Int):Option Int:=
 (bif(decide (v3>0))then(oB (ixB v0 (i64.wrap (v3-1))) fun y1=>(bif fitC qb y1.cells then(oB (qvt Av Aw Ax Ay (gB y1.cells 0) (gI y1.cells 1) (gI y1.cells 2) (gI y1.cells 3)) fun r2=>(bif(decide (r2<0))then(some 7)else(bif(r2==0)then(some 12)else(kn ()))))else none))else(kn ()))
def q6g:=hull (qom)
theorem qbgu:q6g=qom:=qa _
def qbin:SubB Tryz.prog (TIof Tryz.prog) 43 0 (kret [.t 2] (decI .i64)):=jnB Tryz.f57 11467 (.s .z (.s (.s (.d [] [(5,.e 29 qb)] [(0,.c q53.b)] []) (.s .z (.s .z (.s .z (.v [.sel [0,3,4,10,11,12] [0]]))))) (.v [.sel [0,3,4,10,11,12] [0]]))) S91_ (qom) (fun f v K=>f (v.l 0 0) (v.i 12 0) (v.l 40 0) (v.i 44 0) (v.i 48 0) (v.b 3 0) (v.i 3 1) (v.i 3 2) (v.i 3 3) (v.i 3 4) (v.s 3 5) (v.s 3 6) (v.i 3 7) (qbgt (v.l 0 0) (v.i 12 0) (v.l 40 0) (v.i 44 0) (v.i 48 0) (v.b 3 0) (v.i 3 1) (v.i 3 2) (v.i 3 3) (v.i 3 4) (v.s 3 5) (v.s 3 6) (v.i 3 7) K))
def q0g (K:Ex->Env->Mem->Option Int):=(fun(_:Unit)=>K (.exit 0) (qi []) (qe []))
def qlg (v0 v10:LA)(v11 v12:Int)(next:Int->Option Int)(kx0:Unit->Option Int):Option Int:=
 (bif(decide (v12<v11))then(oB (ixB v10 v12) fun y1=>(bif fitC qb y1.cells then(oB (que (gB y1.cells 0) (gI y1.cells 1) (gI y1.cells 2) (gI y1.cells 3) (gI y1.cells 4) (gS y1.cells 5) (gS y1.cells 6) (gI y1.cells 7)) fun r2=>(bif(r2 != 0)then(some r2)else(q6g v0 v12 v10 v11 v12 (gB y1.cells 0) (gI y1.cells 1) (gI y1.cells 2) (gI y1.cells 3) (gI y1.cells 4) (gS y1.cells 5) (gS y1.cells 6) (gI y1.cells 7) (fun(_:Unit)=>(oB (cutI v0 none (some v12)) fun s3=>(oB (qni s3 (gB y1.cells 0) (gI y1.cells 1) (gI y1.cells 2) (gI y1.cells 3) (gI y1.cells 4) (gS y1.cells 5) (gS y1.cells 6) (gI y1.cells 7)) fun r4=>(bif r4 then(some 24)else(next (i64.wrap (v12+1))))))))))else none))else(kx0 ()))
def qlh (v0 v10:LA)(v11:Int)(kx0:Unit->Option Int):Nat->Int->Option Int
 |0=>(fun _=>none)
 |n+1=>(fun v12=>qlg v0 v10 v11 v12 (qlh v0 v10 v11 kx0 n) kx0)
def q6h:=hull (qlh)
theorem qbgv:q6h=qlh:=qa _
def qbio:SubB Tryz.prog (TIof Tryz.prog) 43 0 (kret [.t 2] (decI .i64)):=lpB Tryz.f57 75 (.s .z (.s (.s .z (.v [.sel [] []])) (.s (.b (.s (.r [(1,.p (.etac 15 qb))] []) (.s (.s (.r [(1,.c qbas.b)] []) .z) (.s (.sub [.sel [0,3,4,10,11,12] [0]] qbin []) (.s (.d [] [] [(0,.c q3d.b)] []) .z))))) (.v [.sel [0,10,11,12] []])))) S92_ (qlh) (fun f v K n=>f (v.l 0 0) (v.l 40 0) (v.i 44 0) (q0g K) n) (fun v f K=>qlg (v.l 0 0) (v.l 40 0) (v.i 44 0) (v.i 48 0) f (q0g K)) (fun f v=>f (v.i 48 0)) (fun k v=>(fun z0=>k (v.ui 48 0 z0)))
def qv3 (v0:LA):Option Int:=
 (bif(decide ((v0.length:Int)>512))then(some 9)else(q6h v0 v0 (v0.length:Int) (fun(_:Unit)=>(some 0)) FU 0))
def q6i:=hull qv3
theorem qbpw:q6i=qv3:=qa _
def qbr9 {R:Type}:EntF Tryz.prog R:=entB (nt:=43) (dec:=(decI .i64)) (enc:=(AV.int .i64)) Tryz.func57 [.t 2] hdeI (.s .z (.s .z (.s (.s .z (.b (.sub [.sel [0,10,11,12] []] qbio []))) .z))) S93_ qv3 (fun f v=>f (v.l 0 0))
def S94_:Shp:=⟨[(1,.one (.ptr 0 0)),(5,.one (.l (.i .i64))),(6,.one (.l .s)),(26,.one (.l (.sl 1))),(27,.one (.l (.i .i64))),(28,.one (.l (.i .i64)))],[.box true (lk qm)]⟩
def S95_:Shp:=⟨[(1,.one (.ptr 0 0)),(26,.one (.l (.sl 1))),(27,.one (.l (.i .i64))),(28,.one (.l (.i .i64)))],[.box true (lk qm)]⟩
def S96_:Shp:=⟨[(1,.one (.ptr 0 0)),(53,.one (.l (.sl 5))),(54,.one (.l (.i .i64))),(55,.one (.l (.i .i64)))],[.box true (lk qm)]⟩
def qbgw (v26:LA)(v27 v28:Int)(Av Aw Ax:LA)(K:Ex->Env->Mem->Option Int):=(fun z_v50=>K .norm (qi [(1,(.ptr 0 0)),(26,(.sl 1 v26)),(27,(.int .i64 v27)),(28,(.int .i64 v28)),(50,(.bool z_v50))]) (qe [(some (.box true (qh Av Aw Ax)))]))
def qon (v5:Int)(v6:LU)(v26:LA)(v27 v28:Int)(Av Aw Ax:LA)(kn:Bool->Option Int):Option Int:=
 (oB (qgl v6) fun r1=>(bif(!r1)then(kn true)else(bif(decide (v5>0))then(oB (ixB Ax (i64.wrap (v5-1))) fun y2=>(bif fitC [.s] y2.cells then(oB (qsh (gS y2.cells 0) v6) fun r3=>(kn (decide (r3>=0))))else none))else(kn false))))
def qyt:=hull (qon)
theorem qbgx:qyt=qon:=qa _
def qbip:SubB Tryz.prog (TIof Tryz.prog) 71 0 (kret [.t 2] (decI .i64)):=jnB Tryz.f23 21295 (.r [(1,.c qjj.b),(11,.p (.etac 44 [.s])),(14,.c q0e.b)] [.sel [1,26,27,28,50] [0]]) S94_ (qon) (fun f v K=>f (v.i 20 0) (v.s 24 0) (v.l 104 0) (v.i 108 0) (v.i 112 0) (v.l 3 0) (v.l 3 1) (v.l 3 2) (qbgw (v.l 104 0) (v.i 108 0) (v.i 112 0) (v.l 3 0) (v.l 3 1) (v.l 3 2) K))
def q0h (Av Aw Ax:LA)(K:Ex->Env->Mem->Option Int):=(fun(_:Unit)=>K (.exit 0) (qi [(1,(.ptr 0 0))]) (qe [(some (.box true (qh Av Aw Ax)))]))
def qli (v26:LA)(v27 v28:Int)(Av Aw Ax:LA)(next:Int->Option Int)(kx0:Unit->Option Int):Option Int:=
 (bif(decide (v28<v27))then(oB (ixB v26 v28) fun y1=>(bif fitC [.s] y1.cells then(qyt v28 (gS y1.cells 0) v26 v27 v28 Av Aw Ax (fun v50q2=>(bif v50q2 then(some 2)else(next (i64.wrap (v28+1))))))else none))else(kx0 ()))
def qlj (v26:LA)(v27:Int)(Av Aw Ax:LA)(kx0:Unit->Option Int):Nat->Int->Option Int
 |0=>(fun _=>none)
 |n+1=>(fun v28=>qli v26 v27 v28 Av Aw Ax (qlj v26 v27 Av Aw Ax kx0 n) kx0)
def q6j:=hull (qlj)
theorem qbgy:q6j=qlj:=qa _
def qbiq:SubB Tryz.prog (TIof Tryz.prog) 71 0 (kret [.t 2] (decI .i64)):=lpB Tryz.f23 303 (.s .z (.s (.s .z (.v [.sel [1] [0]])) (.s (.b (.s (.r [(1,.p (.etac 31 [.s]))] []) (.s (.sub [.sel [1,5,6,26,27,28] [0]] qbip []) .z))) (.v [.sel [1,26,27,28] [0]])))) S95_ (qlj) (fun f v K n=>f (v.l 104 0) (v.i 108 0) (v.l 3 0) (v.l 3 1) (v.l 3 2) (q0h (v.l 3 0) (v.l 3 1) (v.l 3 2) K) n) (fun v f K=>qli (v.l 104 0) (v.i 108 0) (v.i 112 0) (v.l 3 0) (v.l 3 1) (v.l 3 2) f (q0h (v.l 3 0) (v.l 3 1) (v.l 3 2) K)) (fun f v=>f (v.i 112 0)) (fun k v=>(fun z0=>k (v.ui 112 0 z0)))
def q0i (K:Ex->Env->Mem->Option Int):=(fun(_:Unit)=>K (.exit 2) (qi []) (qe []))
def qlk (v53:LA)(v54 v55:Int)(Av Aw Ax:LA)(next:Int->Option Int)(kx2:Unit->Option Int):Option Int:=
 (bif(decide (v55<v54))then(oB (ixB v53 v55) fun y1=>(bif fitC qc y1.cells then(oB (qod Av (gS y1.cells 0) (gB y1.cells 1) (gI y1.cells 2) (gI y1.cells 3) (gI y1.cells 4)) fun r2=>(bif(!r2)then(some 25)else(oB (qqd Ax (gS y1.cells 0)) fun r3=>(bif(!r3)then(some 13)else(next (i64.wrap (v55+1)))))))else none))else(kx2 ()))
def qll (v53:LA)(v54:Int)(Av Aw Ax:LA)(kx2:Unit->Option Int):Nat->Int->Option Int
 |0=>(fun _=>none)
 |n+1=>(fun v55=>qlk v53 v54 v55 Av Aw Ax (qll v53 v54 Av Aw Ax kx2 n) kx2)
def qyu:=hull (qll)
theorem qbgz:qyu=qll:=qa _
def qbir:SubB Tryz.prog (TIof Tryz.prog) 71 0 (kret [.t 2] (decI .i64)):=lpB Tryz.f23 607 (.s .z (.s (.s .z (.v [.sel [] []])) (.s (.b (.s (.r [(0,.p (.etac 57 qc))] []) (.s (.s (.r [(3,.c qwy.b)] []) .z) (.s (.r [(4,.c qyq.b)] []) .z)))) (.v [.sel [1,53,54,55] [0]])))) S96_ (qll) (fun f v K n=>f (v.l 212 0) (v.i 216 0) (v.l 3 0) (v.l 3 1) (v.l 3 2) (q0i K) n) (fun v f K=>qlk (v.l 212 0) (v.i 216 0) (v.i 220 0) (v.l 3 0) (v.l 3 1) (v.l 3 2) f (q0i K)) (fun f v=>f (v.i 220 0)) (fun k v=>(fun z0=>k (v.ui 220 0 z0)))
def qv4 (Aa Ab Ac:LA):Option Int:=
 (oB (q6i Aa) fun r1=>(bif(r1 != 0)then(some r1)else(oB (qx8 Ab) fun r2=>(bif(r2 != 0)then(some r2)else(bif(decide ((Ac.length:Int)>32))then(some 9)else(q6j Ac (Ac.length:Int) Aa Ab Ac (fun(_:Unit)=>(qyu Ab (Ab.length:Int) Aa Ab Ac (fun(_:Unit)=>(some 0)) FU 0)) FU 0))))))
def q0j:=hull qv4
theorem qbpx:q0j=qv4:=qa _
def qba9 {R:Type}:EntF Tryz.prog R:=entB (nt:=71) (dec:=(decI .i64)) (enc:=(AV.int .i64)) Tryz.func23 [.t 2] hdeI (.s .z (.s (.s (.r [(2,.c qbr9.b)] []) .z) (.s (.s (.r [(2,.c q8p.b)] []) .z) (.s .z (.s (.s .z (.b (.sub [.sel [1,26,27,28] [0]] qbiq []))) (.s (.s .z (.b (.sub [.sel [1,53,54,55] [0]] qbir []))) .z)))))) S4_ qv4 (fun f v=>f (v.l 1 0) (v.l 1 1) (v.l 1 2))
def qra (Aa:Bool)(Ab Ac:Int):Option Bool:=
 (bif Aa then(some true)else(bif(Ab==0)then(some (decide (Ac<4294967296)))else(some false)))
def qnf:=hull qra
theorem qbl2:qnf=qra:=qa _
def qrb {R:Type}:EntF Tryz.prog R:=entB (nt:=15) (dec:=decB) (enc:=AV.bool) Tryz.func80 [.t 2] hdeB (.z) S5_ qra (fun f v=>f (v.b 1 0) (v.i 1 1) (v.i 1 2))
def S97_:Shp:=⟨[(0,.one (.l .b))],[]⟩
def qtv (v0:Bool):Option Int:=
 (bif v0 then(some 128)else(some 32))
def qn5:=hull qtv
theorem qbn7:qn5=qtv:=qa _
def qtw {R:Type}:EntF Tryz.prog R:=entB (nt:=4) (dec:=(decI .i64)) (enc:=(AV.int .i64)) Tryz.func130 [.t 2] hdeI (.z) S97_ qtv (fun f v=>f (v.b 0 0))
def S98_:Shp:=⟨[(0,.one (.l (.i .i64))),(4,.one (.l (.i .u64))),(5,.one (.l (.i .u64))),(6,.one (.l (.i .i64)))],[]⟩
def q43:AV->Option (Int×Int):=decN [(.one (.i .u64)),(.one (.i .u64))] fun z=>(aI (gC (tpL z) 0),aI (gC (tpL z) 1))
def q0k (K:Ex->Env->Mem->Option (Int×Int)):=(fun z_v4 z_v5=>K (.exit 0) (qi [(4,(.int .u64 z_v4)),(5,(.int .u64 z_v5))]) (qe []))
def qoo (v0 v4 v5 v6:Int)(next:Int->Int->Int->Option (Int×Int))(kx0:Int->Int->Option (Int×Int)):Option (Int×Int):=
 (bif((decide (v6<v0))&&(decide (v6<128)))then(next (u64.wrap ((u64.wrap (v4*2))+(u64.wrap (v5.tdiv 9223372036854775808)))) (u64.wrap ((u64.wrap (v5*2))+1)) (i64.wrap (v6+1)))else(kx0 v4 v5))
def qlm (v0:Int)(kx0:Int->Int->Option (Int×Int)):Nat->Int->Int->Int->Option (Int×Int)
 |0=>(fun _ _ _=>none)
 |n+1=>(fun v4 v5 v6=>qoo v0 v4 v5 v6 (qlm v0 kx0 n) kx0)
def q6k:=hull (qlm)
theorem qbg0:q6k=qlm:=qa _
def qbis:SubB Tryz.prog (TIof Tryz.prog) 26 0 (kret [.t 2,.t 3] q43):=lpB Tryz.f131 75 (.s (.s (.r [(4,.g 2)] []) (.s .z (.v [.sel [4,5] []]))) (.s .z (.v [.sel [0,4,5,6] []]))) S98_ (qlm) (fun f v K n=>f (v.i 0 0) (q0k K) n) (fun v f K=>qoo (v.i 0 0) (v.i 16 0) (v.i 20 0) (v.i 24 0) f (q0k K)) (fun f v=>f (v.i 16 0) (v.i 20 0) (v.i 24 0)) (fun k v=>(fun z0 z1 z2=>k (((v.ui 16 0 z0).ui 20 0 z1).ui 24 0 z2)))
def qtx (v0:Int):Option (Int×Int):=
 (q6k v0 (fun v4q1 v5q2=>(some (v4q1,v5q2))) FU 0 0 0)
def qyb:=hull qtx
theorem qbn8:qyb=qtx:=qa _
def q8q {R:Type}:EntF Tryz.prog R:=entB (nt:=26) (dec:=q43) (enc:=(fun r=>.tup [.int .u64 r.1,.int .u64 r.2])) Tryz.func131 [.t 2,.t 3] (hdeN fun _=>rfl) (.s .z (.s .z (.s (.s .z (.b (.sub [.sel [0,4,5,6] []] qbis []))) .z))) S1_ qtx (fun f v=>f (v.i 0 0))
def qbdi (Av:Bool)(Aw Ax Ay:Int)(K:Ex->Env->Mem->Option Bool):=(fun z_v22=>K .norm (qi [(1,(.ptr 0 0)),(22,(.bool z_v22))]) (qe [(some (.box true (qj Av Aw Ax Ay)))]))
def qnx (Av:Bool)(Aw Ax Ay:Int)(kn:Bool->Option Bool):Option Bool:=
 (oB (qnf Av Aw Ax) fun r1=>(bif(!r1)then(kn true)else(bif(decide (Ay<0))then(kn true)else(oB (qn5 Av) fun r2=>(kn (decide (Ay>r2)))))))
def q44:=hull (qnx)
theorem qbdj:q44=qnx:=qa _
def qbg1:SubB Tryz.prog (TIof Tryz.prog) 48 0 (kret [.t 2] decB):=jnB Tryz.f75 9 (.d [] [(2,.c qrb.b),(15,.c qtw.b)] [] [.sel [1,22] [0]]) S7_ (qnx) (fun f v K=>f (v.b 3 0) (v.i 3 1) (v.i 3 2) (v.i 3 3) (qbdi (v.b 3 0) (v.i 3 1) (v.i 3 2) (v.i 3 3) K))
def qrc (Aa:Bool)(Ab Ac Bt:Int):Option Bool:=
 (q44 Aa Ab Ac Bt (fun v22q1=>(bif v22q1 then(some false)else(oB (qn5 Aa) fun r2=>(oB (qyb (i64.wrap (r2-Bt))) fun r3=>(some (((qbn .and .u64 Ab r3.1)==0)&&((qbn .and .u64 Ac r3.2)==0))))))))
def qqf:=hull qrc
theorem qbl3:qqf=qrc:=qa _
def qyv {R:Type}:EntF Tryz.prog R:=entB (nt:=48) (dec:=decB) (enc:=AV.bool) Tryz.func75 [.t 2] hdeB (.s .z (.s (.s (.sub [.sel [1] [0]] qbg1 []) .z) (.s (.d [] [(3,.c qtw.b),(7,.c q8q.b)] [] []) (.s (.r [(7,.g 6)] []) .z)))) S8_ qrc (fun f v=>f (v.b 1 0) (v.i 1 1) (v.i 1 2) (v.i 1 3))
def qrd (Aa:Bool)(Ab Ac Bt:Int):Option Int:=
 (bif Aa then(some 128)else(some 32))
def q11:=hull qrd
theorem qbl4:q11=qrd:=qa _
def qbn9 {R:Type}:EntF Tryz.prog R:=entB (nt:=6) (dec:=(decI .i64)) (enc:=(AV.int .i64)) Tryz.func132 [.t 2] hdeI (.z) S8_ qrd (fun f v=>f (v.b 1 0) (v.i 1 1) (v.i 1 2) (v.i 1 3))
def S99_:Shp:=⟨[(0,.one (.l .s)),(3,.one (.l (.i .i64)))],[]⟩
def qty (K:Ex->Env->Mem->Option Bool):=(fun(_:Unit)=>K (.exit 0) (qi []) (qe []))
def qf6 (v0:LU)(v3:Int)(next:Int->Option Bool)(kx0:Unit->Option Bool):Option Bool:=
 (bif(decide (v3<(v0.length:Int)))then(oB (ixB v0 v3) fun c1=>(bif(decide ((c1.toNat:Int)<33))then(some false)else(oB (ixB v0 v3) fun c2=>(bif(decide ((c2.toNat:Int)>126))then(some false)else(next (i64.wrap (v3+1)))))))else(kx0 ()))
def qf7 (v0:LU)(kx0:Unit->Option Bool):Nat->Int->Option Bool
 |0=>(fun _=>none)
 |n+1=>(fun v3=>qf6 v0 v3 (qf7 v0 kx0 n) kx0)
def qzd:=hull (qf7)
theorem q6l:qzd=qf7:=qa _
def q7v:SubB Tryz.prog (TIof Tryz.prog) 20 0 (kret [.t 2] decB):=lpB Tryz.f133 37 (.s (.s .z (.s .z (.v [.sel [] []]))) (.s .z (.v [.sel [0,3] []]))) S99_ (qf7) (fun f v K n=>f (v.s 0 0) (qty K) n) (fun v f K=>qf6 (v.s 0 0) (v.i 12 0) f (qty K)) (fun f v=>f (v.i 12 0)) (fun k v=>(fun z0=>k (v.ui 12 0 z0)))
def qmr (v0:LU):Option Bool:=
 (qzd v0 (fun(_:Unit)=>(some true)) FU 0)
def qop:=hull qmr
theorem qbba:qop=qmr:=qa _
def q0l {R:Type}:EntF Tryz.prog R:=entB (nt:=20) (dec:=decB) (enc:=AV.bool) Tryz.func133 [.t 2] hdeB (.s .z (.s (.s .z (.b (.sub [.sel [0,3] []] q7v []))) .z)) S69_ qmr (fun f v=>f (v.s 0 0))
def qbit (Av:Bool)(Aw Ax Ay Az:Int)(A0 A1:LU)(A2:Int)(K:Ex->Env->Mem->Option Bool):=(fun z_v24=>K .norm (qi [(1,(.ptr 0 0)),(24,(.bool z_v24))]) (qe [(some (.box true (qo Av Aw Ax Ay Az A0 A1 A2)))]))
def qpy (Av:Bool)(Aw Ax Ay Az:Int)(A0 A1:LU)(A2:Int)(kn:Bool->Option Bool):Option Bool:=
 (bif(decide (Az<1))then(kn true)else(bif(decide (Az>3))then(kn true)else(bif(Az==3)then(oB (q11 Av Aw Ax Ay) fun r1=>(kn (Ay != r1)))else(kn false))))
def q8r:=hull (qpy)
theorem qbiu:q8r=qpy:=qa _
def qbl5:SubB Tryz.prog (TIof Tryz.prog) 61 0 (kret [.t 2] decB):=jnB Tryz.f76 9 (.d [] [(18,.c qbn9.b)] [] [.sel [1,24] [0]]) S11_ (qpy) (fun f v K=>f (v.b 3 0) (v.i 3 1) (v.i 3 2) (v.i 3 3) (v.i 3 4) (v.s 3 5) (v.s 3 6) (v.i 3 7) (qbit (v.b 3 0) (v.i 3 1) (v.i 3 2) (v.i 3 3) (v.i 3 4) (v.s 3 5) (v.s 3 6) (v.i 3 7) K))
def qv5 (Aa:Bool)(Ab Ac Bt Bu:Int)(Bv Bw:LU)(Bx:Int):Option Bool:=
 (q8r Aa Ab Ac Bt Bu Bv Bw Bx (fun v24q1=>(bif v24q1 then(some false)else(bif((decide ((Bv.length:Int)>=1))&&(decide ((Bv.length:Int)<=63)))then(oB (qop Bv) fun r2=>(bif(r2&&(decide ((Bw.length:Int)<=32)))then(oB (qop Bw) fun r3=>(some ((r3&&(decide (Bx>=0)))&&(decide (Bx<=4294967295)))))else(some false)))else(some false)))))
def q6m:=hull qv5
theorem qbpy:q6m=qv5:=qa _
def qbsa {R:Type}:EntF Tryz.prog R:=entB (nt:=61) (dec:=decB) (enc:=AV.bool) Tryz.func76 [.t 2] hdeB (.s .z (.s (.s (.sub [.sel [1] [0]] qbl5 []) .z) (.s (.r [(5,.g 4),(13,.c q0l.b),(16,.g 4),(24,.c q0l.b),(27,.g 3),(32,.g 3)] []) .z))) S12_ qv5 (fun f v=>f (v.b 1 0) (v.i 1 1) (v.i 1 2) (v.i 1 3) (v.i 1 4) (v.s 1 5) (v.s 1 6) (v.i 1 7))
def qoq (Aa:Bool)(Ab Ac:Int)(B7:Bool)(B8 B9:Int):Option Int:=
 (bif(!((Aa==B7)&&true))then(bif B7 then(some (-1))else(some 1))else(bif(Ab != B8)then(bif(decide (Ab<B8))then(some (-1))else(some 1))else(bif(decide (Ac<B9))then(some (-1))else(bif(decide (Ac>B9))then(some 1)else(some 0)))))
def qre:=hull qoq
theorem qbg2:qre=qoq:=qa _
def q3i {R:Type}:EntF Tryz.prog R:=entB (nt:=32) (dec:=(decI .i64)) (enc:=(AV.int .i64)) Tryz.func134 [.t 4] hdeI (.z) S29_ qoq (fun f v=>f (v.b 1 0) (v.i 1 1) (v.i 1 2) (v.b 5 0) (v.i 5 1) (v.i 5 2))
def qor (Aa:Bool)(Ab Ac Bt:Int)(B7:Bool)(B8 B9 Ca:Int):Option Int:=
 (oB (qre Aa Ab Ac B7 B8 B9) fun r1=>(bif(r1 != 0)then(some r1)else(bif(decide (Bt<Ca))then(some (-1))else(bif(decide (Bt>Ca))then(some 1)else(some 0)))))
def qyw:=hull qor
theorem qbg3:qyw=qor:=qa _
def qbiv {R:Type}:EntF Tryz.prog R:=entB (nt:=24) (dec:=(decI .i64)) (enc:=(AV.int .i64)) Tryz.func77 [.t 4] hdeI (.s .z (.s (.r [(4,.c q3i.b)] []) .z)) S20_ qor (fun f v=>f (v.b 1 0) (v.i 1 1) (v.i 1 2) (v.i 1 3) (v.b 5 0) (v.i 5 1) (v.i 5 2) (v.i 5 3))
def q8s:AV->Option (AV×Bool):=decN [(.st [.b,(.i .u64),(.i .u64),(.i .i64)]),(.one .b)] fun z=>((gC (tpL z) 0),aB (gC (tpL z) 1))
def qbl6 (v1:Int)(Av:Bool)(Aw Ax:Int)(Ad:Bool)(Ae Af Ag:Int)(K:Ex->Env->Mem->Option (AV×Bool)):=(fun z_v22=>K .norm (qi [(1,(.int .i64 v1)),(2,(.ptr 0 0)),(4,(.ptr 1 0)),(22,(.bool z_v22))]) (qe [(some (.box true (qje Av Aw Ax))),(some (.box true (qj Ad Ae Af Ag)))]))
def qrf (v1:Int)(Av:Bool)(Aw Ax:Int)(Ad:Bool)(Ae Af Ag:Int)(kn:Bool->Option (AV×Bool)):Option (AV×Bool):=
 (oB (qnf Av Aw Ax) fun r1=>(bif((!r1)||(decide (v1<0)))then(kn true)else(oB (qn5 Av) fun r2=>(kn (decide (v1>r2))))))
def qbbb:=hull (qrf)
theorem qbl7:qbbb=qrf:=qa _
def qboa:SubB Tryz.prog (TIof Tryz.prog) 53 0 (kret [(.cell 4 true 4),.t 5] q8s):=jnB Tryz.f176 9 (.r [(1,.c qrb.b),(4,.g 2),(11,.c qtw.b)] [.sel [1,2,4,22] [0,1]]) S17_ (qrf) (fun f v K=>f (v.i 4 0) (v.b 3 0) (v.i 3 1) (v.i 3 2) (v.b 7 0) (v.i 7 1) (v.i 7 2) (v.i 7 3) (qbl6 (v.i 4 0) (v.b 3 0) (v.i 3 1) (v.i 3 2) (v.b 7 0) (v.i 7 1) (v.i 7 2) (v.i 7 3) K))
def qyc (Aa:Bool)(Ab Ac v1:Int):Option (AV×Bool):=
 (qbbb v1 Aa Ab Ac false 0 0 0 (fun v22q1=>(bif v22q1 then(some ((.agg [(.bool false),(.int .u64 0),(.int .u64 0),(.int .i64 0)]),false))else(oB (qn5 Aa) fun r2=>(oB (qyb (i64.wrap (r2-v1))) fun r3=>(some ((.agg [(.bool Aa),(.int .u64 (u64.wrap (Ab-(qbn .and .u64 Ab r3.1)))),(.int .u64 (u64.wrap (Ac-(qbn .and .u64 Ac r3.2)))),(.int .i64 v1)]),true)))))))
def q9x:=hull qyc
theorem qbsb:q9x=qyc:=qa _
def qbvl {R:Type}:EntF Tryz.prog R:=entB (nt:=53) (dec:=q8s) (enc:=(fun r=>.tup [qfe (.st [.b,(.i .u64),(.i .u64),(.i .i64)]) r.1,.bool r.2])) Tryz.func176 [(.cell 4 true 4),.t 5] (hdeN fun _=>rfl) (.s .z (.s (.s (.sub [.sel [1,2,4] [0,1]] qboa []) .z) (.s (.r [(2,.c qtw.b),(5,.c q8q.b)] []) .z))) S18_ qyc (fun f v=>f (v.b 1 0) (v.i 1 1) (v.i 1 2) (v.i 4 0))
def S100_:Shp:=⟨[(2,.one (.ptr 0 0)),(3,.one (.ptr 1 0))],[.box true (lk qk),.box true (lk qfz)]⟩
def q7w (Av:Bool)(Aw Ax Ay:Int)(Ad:Bool)(Ae Af:Int)(K:Ex->Env->Mem->Option Bool):=(fun z_v22=>K .norm (qi [(2,(.ptr 0 0)),(3,(.ptr 1 0)),(22,(.bool z_v22))]) (qe [(some (.box true (qj Av Aw Ax Ay))),(some (.box true (qje Ad Ae Af)))]))
def qkw (Av:Bool)(Aw Ax Ay:Int)(Ad:Bool)(Ae Af:Int)(kn:Bool->Option Bool):Option Bool:=
 (oB (qqf Av Aw Ax Ay) fun r1=>(bif(!r1)then(kn true)else(oB (qnf Ad Ae Af) fun r2=>(kn ((!r2)||(!((Av==Ad)&&true)))))))
def q0m:=hull (qkw)
theorem q7x:q0m=qkw:=qa _
def q9y:SubB Tryz.prog (TIof Tryz.prog) 33 0 (kret [.t 4] decB):=jnB Tryz.f129 9 (.r [(1,.c qyv.b),(5,.c qrb.b),(9,.g 6)] [.sel [2,3,22] [0,1]]) S100_ (qkw) (fun f v K=>f (v.b 3 0) (v.i 3 1) (v.i 3 2) (v.i 3 3) (v.b 7 0) (v.i 7 1) (v.i 7 2) (q7w (v.b 3 0) (v.i 3 1) (v.i 3 2) (v.i 3 3) (v.b 7 0) (v.i 7 1) (v.i 7 2) K))
def qny (Aa:Bool)(Ab Ac Bt:Int)(B7:Bool)(B8 B9:Int):Option Bool:=
 (q0m Aa Ab Ac Bt B7 B8 B9 (fun v22q1=>(bif v22q1 then(some false)else(oB (q9x B7 B8 B9 Bt) fun r2=>(some (((gB r2.1.cells 0)==Aa)&&(((gI r2.1.cells 1)==Ab)&&(((gI r2.1.cells 2)==Ac)&&(((gI r2.1.cells 3)==Bt)&&true)))))))))
def qmk:=hull qny
theorem qbdk:qmk=qny:=qa _
def qs5 {R:Type}:EntF Tryz.prog R:=entB (nt:=33) (dec:=decB) (enc:=AV.bool) Tryz.func129 [.t 4] hdeB (.s .z (.s (.s (.sub [.sel [2,3] [0,1]] q9y []) .z) (.s (.r [(3,.c qbvl.b)] []) .z))) S19_ qny (fun f v=>f (v.b 1 0) (v.i 1 1) (v.i 1 2) (v.i 1 3) (v.b 5 0) (v.i 5 1) (v.i 5 2))
def qpz (Aa:Bool)(Ab Ac Bt:Int)(B7:Bool)(B8 B9 Ca:Int):Option Bool:=
 (oB (qqf Aa Ab Ac Bt) fun r1=>(bif(r1&&(decide (Bt>=Ca)))then(oB (qmk B7 B8 B9 Ca Aa Ab Ac) fun r2=>(some r2))else(some false)))
def qos:=hull qpz
theorem qbiw:qos=qpz:=qa _
def qw1 {R:Type}:EntF Tryz.prog R:=entB (nt:=20) (dec:=decB) (enc:=AV.bool) Tryz.func128 [.t 4] hdeB (.s .z (.s (.r [(1,.c qyv.b),(3,.g 5),(13,.c qs5.b)] []) .z)) S20_ qpz (fun f v=>f (v.b 1 0) (v.i 1 1) (v.i 1 2) (v.i 1 3) (v.b 5 0) (v.i 5 1) (v.i 5 2) (v.i 5 3))
def qyd (Aa:Bool)(Ab Ac Bt:Int)(B7:Bool)(B8 B9 Ca:Int):Option Bool:=
 (oB (qos Aa Ab Ac Bt B7 B8 B9 Ca) fun r1=>(some (r1&&(decide (Bt>Ca)))))
def qbmq:=hull qyd
theorem qbsc:qbmq=qyd:=qa _
def qbvm {R:Type}:EntF Tryz.prog R:=entB (nt:=15) (dec:=decB) (enc:=AV.bool) Tryz.func103 [.t 4] hdeB (.s .z (.s (.r [(2,.c qw1.b),(4,.g 5)] []) .z)) S20_ qyd (fun f v=>f (v.b 1 0) (v.i 1 1) (v.i 1 2) (v.i 1 3) (v.b 5 0) (v.i 5 1) (v.i 5 2) (v.i 5 3))
def qp0 (Aa:Bool)(Ab Ac Bt Bu:Int)(Bv Bw:LU)(Bx:Int)(B7:Bool)(B8 B9 Ca Cb:Int)(Cc Cd:LU)(Ce:Int):Option Bool:=
 (oB (qbmq Aa Ab Ac Bt B7 B8 B9 Ca) fun r1=>(bif r1 then(bif(Cb==3)then(some true)else(bif(Cb==2)then(some (Bu != 3))else(some false)))else(some false)))
def q0n:=hull qp0
theorem qbix:q0n=qp0:=qa _
def qbl8 {R:Type}:EntF Tryz.prog R:=entB (nt:=25) (dec:=decB) (enc:=AV.bool) Tryz.func78 [.t 4] hdeB (.s .z (.s (.r [(4,.c qbvm.b)] []) .z)) S21_ qp0 (fun f v=>f (v.b 1 0) (v.i 1 1) (v.i 1 2) (v.i 1 3) (v.i 1 4) (v.s 1 5) (v.s 1 6) (v.i 1 7) (v.b 5 0) (v.i 5 1) (v.i 5 2) (v.i 5 3) (v.i 5 4) (v.s 5 5) (v.s 5 6) (v.i 5 7))
def S101_:Shp:=⟨[(0,.one (.l (.sl 8))),(3,.one (.l (.i .i64)))],[]⟩
def S102_:Shp:=⟨[(0,.one (.l (.sl 8))),(3,.one (.l (.i .i64))),(4,.one (.l (.i .i64)))],[]⟩
def qbbc (v0:LA)(v3:Int)(K:Ex->Env->Mem->Option Int):=(fun z_v43=>K .norm (qi [(0,(.sl 8 v0)),(3,(.int .i64 v3)),(43,(.bool z_v43))]) (qe []))
def qms (v0:LA)(v3:Int)(kn:Bool->Option Int):Option Int:=
 (bif(decide (v3>0))then(oB (ixB v0 (i64.wrap (v3-1))) fun y1=>(bif fitC qb y1.cells then(oB (ixB v0 v3) fun y2=>(bif fitC qb y2.cells then(oB (qyw (gB y1.cells 0) (gI y1.cells 1) (gI y1.cells 2) (gI y1.cells 3) (gB y2.cells 0) (gI y2.cells 1) (gI y2.cells 2) (gI y2.cells 3)) fun r3=>(kn (decide (r3>0))))else none))else none))else(kn false))
def q3j:=hull (qms)
theorem qbbd:q3j=qms:=qa _
def qbdl:SubB Tryz.prog (TIof Tryz.prog) 74 0 (kret [.t 2] (decI .i64)):=jnB Tryz.f28 9803 (.d [] [(6,.e 33 qb),(11,.e 38 qb)] [(0,.c qbiv.b)] [.sel [0,3,43] []]) S101_ (qms) (fun f v K=>f (v.l 0 0) (v.i 12 0) (qbbc (v.l 0 0) (v.i 12 0) K))
def qbbe (v0:LA)(v3:Int)(K:Ex->Env->Mem->Option Int):=(fun z_v59=>K .norm (qi [(0,(.sl 8 v0)),(3,(.int .i64 v3)),(59,(.bool z_v59))]) (qe []))
def qmt (v0:LA)(v3:Int)(kn:Bool->Option Int):Option Int:=
 (bif(decide (v3>0))then(oB (ixB v0 (i64.wrap (v3-1))) fun y1=>(bif fitC qb y1.cells then(oB (ixB v0 v3) fun y2=>(bif fitC qb y2.cells then(kn (((gB y1.cells 0)==(gB y2.cells 0))&&(((gI y1.cells 1)==(gI y2.cells 1))&&(((gI y1.cells 2)==(gI y2.cells 2))&&(((gI y1.cells 3)==(gI y2.cells 3))&&true)))))else none))else none))else(kn false))
def q3k:=hull (qmt)
theorem qbbf:q3k=qmt:=qa _
def qbdm:SubB Tryz.prog (TIof Tryz.prog) 74 0 (kret [.t 2] (decI .i64)):=jnB Tryz.f28 20043 (.d [] [(6,.e 50 qb),(11,.e 55 qb)] [] [.sel [0,3,59] []]) S101_ (qmt) (fun f v K=>f (v.l 0 0) (v.i 12 0) (qbbe (v.l 0 0) (v.i 12 0) K))
def qxc (v0:LA)(v3:Int)(K:Ex->Env->Mem->Option Int):=(fun(_:Unit)=>K (.exit 2) (qi [(0,(.sl 8 v0)),(3,(.int .i64 v3))]) (qe []))
def qia (v0:LA)(v3 v4:Int)(next:Int->Option Int)(kx2:Unit->Option Int):Option Int:=
 (bif(decide (v4<v3))then(oB (ixB v0 v3) fun y1=>(bif fitC qb y1.cells then(oB (ixB v0 v4) fun y2=>(bif fitC qb y2.cells then(oB (q0n (gB y1.cells 0) (gI y1.cells 1) (gI y1.cells 2) (gI y1.cells 3) (gI y1.cells 4) (gS y1.cells 5) (gS y1.cells 6) (gI y1.cells 7) (gB y2.cells 0) (gI y2.cells 1) (gI y2.cells 2) (gI y2.cells 3) (gI y2.cells 4) (gS y2.cells 5) (gS y2.cells 6) (gI y2.cells 7)) fun r3=>(bif r3 then(some 24)else(next (i64.wrap (v4+1)))))else none))else none))else(kx2 ()))
def qib (v0:LA)(v3:Int)(kx2:Unit->Option Int):Nat->Int->Option Int
 |0=>(fun _=>none)
 |n+1=>(fun v4=>qia v0 v3 v4 (qib v0 v3 kx2 n) kx2)
def qum:=hull (qib)
theorem qbbg:qum=qib:=qa _
def qbdn:SubB Tryz.prog (TIof Tryz.prog) 74 0 (kret [.t 2] (decI .i64)):=lpB Tryz.f28 81483 (.s (.s .z (.s .z (.v [.sel [0,3] []]))) (.s (.b (.s (.d [] [(2,.e 67 qb),(6,.e 71 qb)] [(0,.c qbl8.b)] []) .z)) (.v [.sel [0,3,4] []]))) S102_ (qib) (fun f v K n=>f (v.l 0 0) (v.i 12 0) (qxc (v.l 0 0) (v.i 12 0) K) n) (fun v f K=>qia (v.l 0 0) (v.i 12 0) (v.i 16 0) f (qxc (v.l 0 0) (v.i 12 0) K)) (fun f v=>f (v.i 16 0)) (fun k v=>(fun z0=>k (v.ui 16 0 z0)))
def qxd (K:Ex->Env->Mem->Option Int):=(fun(_:Unit)=>K (.exit 0) (qi []) (qe []))
def qic (v0:LA)(v3:Int)(next:Int->Option Int)(kx0:Unit->Option Int):Option Int:=
 (bif(decide (v3<(v0.length:Int)))then(oB (ixB v0 v3) fun y1=>(bif fitC qb y1.cells then(oB (qqf (gB y1.cells 0) (gI y1.cells 1) (gI y1.cells 2) (gI y1.cells 3)) fun r2=>(bif(!r2)then(some 3)else(oB (ixB v0 v3) fun y3=>(bif fitC qb y3.cells then(oB (q6m (gB y3.cells 0) (gI y3.cells 1) (gI y3.cells 2) (gI y3.cells 3) (gI y3.cells 4) (gS y3.cells 5) (gS y3.cells 6) (gI y3.cells 7)) fun r4=>(bif(!r4)then(some 1)else(q3j v0 v3 (fun v43q5=>(bif v43q5 then(some 7)else(q3k v0 v3 (fun v59q6=>(bif v59q6 then(some 12)else(qum v0 v3 (fun(_:Unit)=>(next (i64.wrap (v3+1)))) FU 0)))))))))else none))))else none))else(kx0 ()))
def qid (v0:LA)(kx0:Unit->Option Int):Nat->Int->Option Int
 |0=>(fun _=>none)
 |n+1=>(fun v3=>qic v0 v3 (qid v0 kx0 n) kx0)
def q3l:=hull (qid)
theorem qbbh:q3l=qid:=qa _
def qbdo:SubB Tryz.prog (TIof Tryz.prog) 74 0 (kret [.t 2] (decI .i64)):=lpB Tryz.f28 75 (.s (.s .z (.s .z (.v [.sel [] []]))) (.s (.b (.s (.s (.r [(2,.p (.etac 16 qb)),(5,.c qyv.b)] []) .z) (.s (.s (.r [(2,.p (.etac 23 qb)),(4,.c qbsa.b)] []) .z) (.s (.s (.sub [.sel [0,3] []] qbdl []) .z) (.s (.s (.sub [.sel [0,3] []] qbdm []) .z) (.s .z (.b (.sub [.sel [0,3,4] []] qbdn [])))))))) (.v [.sel [0,3] []]))) S101_ (qid) (fun f v K n=>f (v.l 0 0) (qxd K) n) (fun v f K=>qic (v.l 0 0) (v.i 12 0) f (qxd K)) (fun f v=>f (v.i 12 0)) (fun k v=>(fun z0=>k (v.ui 12 0 z0)))
def qrg (v0:LA):Option Int:=
 (bif(decide ((v0.length:Int)>512))then(some 9)else(q3l v0 (fun(_:Unit)=>(some 0)) FU 0))
def q12:=hull qrg
theorem qbl9:q12=qrg:=qa _
def qbob {R:Type}:EntF Tryz.prog R:=entB (nt:=74) (dec:=(decI .i64)) (enc:=(AV.int .i64)) Tryz.func28 [.t 2] hdeI (.s .z (.s .z (.s (.s .z (.b (.sub [.sel [0,3] []] qbdo []))) .z))) S93_ qrg (fun f v=>f (v.l 0 0))
def S103_:Shp:=⟨[(0,.one (.l .s)),(3,.one (.l (.i .i64))),(4,.one (.l (.i .u8)))],[]⟩
def q7y (v0:LU)(v3:Int)(K:Ex->Env->Mem->Option Bool):=(fun z_v46=>K .norm (qi [(0,(.str v0)),(3,(.int .i64 v3)),(46,(.bool z_v46))]) (qe []))
def qkx (v0:LU)(v3 v4:Int)(kn:Bool->Option Bool):Option Bool:=
 (bif((decide (v4>=97))&&(decide (v4<=122)))then(kn false)else(bif(decide (v4>=48))then(kn (!(((decide (v4<=57))||(v4==45))||(v4==95))))else(kn (!((v4==45)||(v4==95))))))
def qrh:=hull (qkx)
theorem q7z:qrh=qkx:=qa _
def q9z:SubB Tryz.prog (TIof Tryz.prog) 47 0 (kret [.t 2] decB):=jnB Tryz.f136 5271 (.r [(3,.g 2),(15,.g 2),(19,.g 2)] [.sel [0,3,46] []]) S103_ (qkx) (fun f v K=>f (v.s 0 0) (v.i 12 0) (v.i 16 0) (q7y (v.s 0 0) (v.i 12 0) K))
def qun (K:Ex->Env->Mem->Option Bool):=(fun(_:Unit)=>K (.exit 0) (qi []) (qe []))
def qgn (v0:LU)(v3:Int)(next:Int->Option Bool)(kx0:Unit->Option Bool):Option Bool:=
 (bif(decide (v3<(v0.length:Int)))then(oB (ixB v0 v3) fun c1=>(qrh v0 v3 (c1.toNat:Int) (fun v46q2=>(bif v46q2 then(some false)else(next (i64.wrap (v3+1)))))))else(kx0 ()))
def qgo (v0:LU)(kx0:Unit->Option Bool):Nat->Int->Option Bool
 |0=>(fun _=>none)
 |n+1=>(fun v3=>qgn v0 v3 (qgo v0 kx0 n) kx0)
def q0o:=hull (qgo)
theorem q70:q0o=qgo:=qa _
def q90:SubB Tryz.prog (TIof Tryz.prog) 47 0 (kret [.t 2] decB):=lpB Tryz.f136 151 (.s (.s .z (.s .z (.v [.sel [] []]))) (.s (.b (.s .z (.s (.sub [.sel [0,3,4] []] q9z []) .z))) (.v [.sel [0,3] []]))) S99_ (qgo) (fun f v K n=>f (v.s 0 0) (qun K) n) (fun v f K=>qgn (v.s 0 0) (v.i 12 0) f (qun K)) (fun f v=>f (v.i 12 0)) (fun k v=>(fun z0=>k (v.ui 12 0 z0)))
def qot (v0:LU):Option Bool:=
 (bif(v0==([42]:List UInt8))then(some true)else(bif((decide ((v0.length:Int)<1))||(decide ((v0.length:Int)>63)))then(some false)else(q0o v0 (fun(_:Unit)=>(some true)) FU 0)))
def qyx:=hull qot
theorem qbg4:qyx=qot:=qa _
def qbiy {R:Type}:EntF Tryz.prog R:=entB (nt:=47) (dec:=decB) (enc:=AV.bool) Tryz.func136 [.t 2] hdeB (.s .z (.s .z (.s (.s (.r [(4,.g 3)] []) .z) (.s (.s .z (.b (.sub [.sel [0,3] []] q90 []))) .z)))) S69_ qot (fun f v=>f (v.s 0 0))
def S104_:Shp:=⟨[(0,.one (.l .s)),(4,.one (.own 0)),(5,.one (.l (.i .i64))),(6,.one (.l (.i .i64))),(7,.one (.l .s))],[.arr true 1]⟩
def S105_:Shp:=⟨[(0,.one (.l .s)),(4,.one (.own 0)),(5,.one (.l (.i .i64))),(6,.one (.l (.i .i64)))],[.arr true 1]⟩
def qou:AV->Option ((List AV)×Bool):=decN [(.one (.fr true 1)),(.one .b)] fun z=>(aL (gC (tpL z) 0),aB (gC (tpL z) 1))
def qbbi (v0:LU)(K:Ex->Env->Mem->Option ((List AV)×Bool)):=(fun z_v25=>K .norm (qi [(0,(.str v0)),(25,(.bool z_v25))]) (qe []))
def qmu (v0:LU)(kn:Bool->Option ((List AV)×Bool)):Option ((List AV)×Bool):=
 (bif((decide ((v0.length:Int)<2))||(decide ((v0.length:Int)>254)))then(kn true)else(oB (ixB v0 (i64.wrap ((v0.length:Int)-1))) fun c1=>(kn ((c1.toNat:Int) != 46))))
def q3m:=hull (qmu)
theorem qbbj:q3m=qmu:=qa _
def qbdp:SubB Tryz.prog (TIof Tryz.prog) 58 0 (kret [.t 2,.t 3] qou):=jnB Tryz.f82 19 (.r [(4,.g 3)] [.sel [0,25] []]) S69_ (qmu) (fun f v K=>f (v.s 0 0) (qbbi (v.s 0 0) K))
def qbbk (v0:LU)(v6:Int)(v7:LU)(a0:LA)(K:Ex->Env->Mem->Option ((List AV)×Bool)):=(fun z_v50=>K .norm (qi [(0,(.str v0)),(4,(.own 0 a0.length)),(6,(.int .i64 v6)),(7,(.str v7)),(50,(.bool z_v50))]) (qe [(some (.arr true 1 a0))]))
def qmv (v0:LU)(v5 v6:Int)(v7:LU)(a0:LA)(kn:Bool->Option ((List AV)×Bool)):Option ((List AV)×Bool):=
 (oB (qyx v7) fun r1=>(bif(!r1)then(kn true)else(bif(v7==([42]:List UInt8))then(kn (decide (v5>0)))else(kn false))))
def q3n:=hull (qmv)
theorem qbbl:q3n=qmv:=qa _
def qbdq:SubB Tryz.prog (TIof Tryz.prog) 58 0 (kret [.t 2,.t 3] qou):=jnB Tryz.f82 78431 (.r [(1,.c qbiy.b)] [.sel [0,4,6,7,50] [0]]) S104_ (qmv) (fun f v K=>f (v.s 0 0) (v.i 20 0) (v.i 24 0) (v.s 28 0) (v.r 0) (qbbk (v.s 0 0) (v.i 24 0) (v.s 28 0) (v.r 0) K))
def qxe (K:Ex->Env->Mem->Option ((List AV)×Bool)):=(fun z_a0=>K (.exit 0) (qi [(4,(.own 0 z_a0.length))]) (qe [(some (.arr true 1 z_a0))]))
def qie (v0:LU)(v5 v6:Int)(a0:LA)(next:Int->Int->(List AV)->Option ((List AV)×Bool))(kx0:(List AV)->Option ((List AV)×Bool)):Option ((List AV)×Bool):=
 (bif(decide (v6<(v0.length:Int)))then(oB (ixB v0 v6) fun c1=>(bif((c1.toNat:Int) != 46)then(next v5 (i64.wrap (v6+1)) a0)else(oB (cutI v0 (some v5) (some v6)) fun s2=>(bif(hd a0 (a0.length)&&true)then(q3n v0 v5 v6 s2 a0 (fun v50q3=>(bif v50q3 then(bif hd ([]:List AV) (([]:List AV).length)then(some (([]:List AV),false))else none)else(bif hd a0 a0.length then(bif hd ([(.str s2)]:List AV) (([(.str s2)]:List AV).length)then(bif decide ((a0.length+([(.str s2)]:List AV).length)*16<=140737488355328)then(next (i64.wrap (v6+1)) (i64.wrap (v6+1)) (a0++([(.str s2)]:List AV)))else none)else none)else none))))else none))))else(kx0 a0))
def qif (v0:LU)(kx0:(List AV)->Option ((List AV)×Bool)):Nat->Int->Int->(List AV)->Option ((List AV)×Bool)
 |0=>(fun _ _ _=>none)
 |n+1=>(fun v5 v6 a0=>qie v0 v5 v6 a0 (qif v0 kx0 n) kx0)
def qup:=hull (qif)
theorem qbbm:qup=qif:=qa _
def qbdr:SubB Tryz.prog (TIof Tryz.prog) 58 0 (kret [.t 2,.t 3] qou):=lpB Tryz.f82 607 (.s (.s .z (.s .z (.v [.sel [4] [0]]))) (.s (.b (.s .z (.s .z (.s (.s (.sub [.sel [0,4,5,6,7] [0]] qbdq []) (.s (.s .z (.v [.own 2 1])) .z)) .z)))) (.v [.sel [0,4,5,6] [0]]))) S105_ (qif) (fun f v K n=>f (v.s 0 0) (qxe K) n) (fun v f K=>qie (v.s 0 0) (v.i 20 0) (v.i 24 0) (v.r 0) f (qxe K)) (fun f v=>f (v.i 20 0) (v.i 24 0) (v.r 0)) (fun k v=>(fun z0 z1 z2=>k (((v.ui 20 0 z0).ui 24 0 z1).ur 0 z2)))
def qri (v0:LU):Option ((List AV)×Bool):=
 (bif(v0==([46]:List UInt8))then(bif hd ([]:List AV) (([]:List AV).length)then(some (([]:List AV),true))else none)else(q3m v0 (fun v25q1=>(bif v25q1 then(bif hd ([]:List AV) (([]:List AV).length)then(some (([]:List AV),false))else none)else(bif(hd ([]:List AV) (([]:List AV).length)&&true)then(qup v0 (fun a0q2=>(bif hd a0q2 a0q2.length then(some (a0q2,true))else none)) FU 0 0 ([]:List AV))else none)))))
def qhh:=hull qri
theorem qbma:qhh=qri:=qa _
def qkj {R:Type}:EntF Tryz.prog R:=entB (nt:=58) (dec:=qou) (enc:=(fun r=>.tup [.fr true 1 r.1,.bool r.2])) Tryz.func82 [.t 2,.t 3] (hdeN fun _=>rfl) (.s .z (.s (.s .z (.s (.s .z (.v [.own 2 1])) .z)) (.s (.s (.sub [.sel [0] []] qbdp []) (.s (.s .z (.v [.own 2 1])) .z)) (.s .z (.s .z (.s (.s .z (.b (.sub [.own 4 1,.sel [0,4,5,6] [0]] qbdr []))) .z)))))) S69_ qri (fun f v=>f (v.s 0 0))
def qrj (v0:LU):Option Bool:=
 (oB (qhh v0) fun r1=>(some r1.2))
def qv6:=hull qrj
theorem qbmb:qv6=qrj:=qa _
def q6n {R:Type}:EntF Tryz.prog R:=entB (nt:=11) (dec:=decB) (enc:=AV.bool) Tryz.func30 [.t 2] hdeB (.s .z (.s (.r [(1,.k qkj.b)] []) .z)) S69_ qrj (fun f v=>f (v.s 0 0))
def qp1 (v0:LU):Option (List AV):=
 (oB (qhh v0) fun r1=>(some r1.1))
def q0p:=hull qp1
theorem qbiz:q0p=qp1:=qa _
def qbmc {R:Type}:EntF Tryz.prog R:=entB (nt:=11) (dec:=(decX (.one (.sl 1)) fun z=>aL z)) (enc:=(fun r=>.sl 1 r)) Tryz.func135 [.t 2] (hdeX fun _=>rfl) (.s .z (.s (.r [(1,.k qkj.b)] []) .z)) S69_ qp1 (fun f v=>f (v.s 0 0))
def qov (v0:LU):Option Bool:=
 (oB (q0p v0) fun r1=>(bif(decide ((r1.length:Int)>0))then(oB (ixB r1 0) fun y2=>(bif fitC [.s] y2.cells then(some ((gS y2.cells 0)==([42]:List UInt8)))else none))else(some false)))
def qyy:=hull qov
theorem qbg5:qyy=qov:=qa _
def qbi0 {R:Type}:EntF Tryz.prog R:=entB (nt:=15) (dec:=decB) (enc:=AV.bool) Tryz.func79 [.t 2] hdeB (.s .z (.s (.r [(1,.k qbmc.b)] []) (.s (.r [(5,.p (.etac 11 [.s]))] []) .z))) S69_ qov (fun f v=>f (v.s 0 0))
def qtz (v0 v1:LU):Option Int:=
 (bif(Op.bytesLess v0 v1)then(some (-1))else(bif(!(Op.bytesLess v0 v1||v0==v1))then(some 1)else(some 0)))
def qye:=hull qtz
theorem qboc:qye=qtz:=qa _
def q8t {R:Type}:EntF Tryz.prog R:=entB (nt:=11) (dec:=(decI .i64)) (enc:=(AV.int .i64)) Tryz.func83 [.t 4] hdeI (.z) S62_ qtz (fun f v=>f (v.s 0 0) (v.s 4 0))
def S106_:Shp:=⟨[(0,.one (.l (.sl 1))),(1,.one (.l (.sl 1))),(5,.one (.l (.i .i64)))],[]⟩
def S107_:Shp:=⟨[(0,.one (.l (.sl 1))),(1,.one (.l (.sl 1)))],[]⟩
def qbg6 (v0 v1:LA)(v5:Int)(K:Ex->Env->Mem->Option Int):=(fun z_v34=>K .norm (qi [(0,(.sl 1 v0)),(1,(.sl 1 v1)),(5,(.int .i64 v5)),(34,(.bool z_v34))]) (qe []))
def qow (v0 v1:LA)(v5:Int)(kn:Bool->Option Int):Option Int:=
 (bif(decide (v5<(v0.length:Int)))then(bif(decide (v5<(v1.length:Int)))then(oB (ixB v0 (i64.wrap ((i64.wrap ((v0.length:Int)-1))-v5))) fun y1=>(bif fitC [.s] y1.cells then(oB (ixB v1 (i64.wrap ((i64.wrap ((v1.length:Int)-1))-v5))) fun y2=>(bif fitC [.s] y2.cells then(kn ((gS y1.cells 0)==(gS y2.cells 0)))else none))else none))else(kn false))else(kn false))
def q6o:=hull (qow)
theorem qbg7:q6o=qow:=qa _
def qbi1:SubB Tryz.prog (TIof Tryz.prog) 38 0 (kret [.t 4] (decI .i64)):=jnB Tryz.f84 131 (.d [] [(17,.e 23 [.s]),(25,.e 31 [.s])] [] [.sel [0,1,5,34] []]) S106_ (qow) (fun f v K=>f (v.l 0 0) (v.l 4 0) (v.i 20 0) (qbg6 (v.l 0 0) (v.l 4 0) (v.i 20 0) K))
def q0q (K:Ex->Env->Mem->Option Int):=(fun z_v5=>K (.exit 0) (qi [(5,(.int .i64 z_v5))]) (qe []))
def qox (v0 v1:LA)(v5:Int)(next:Int->Option Int)(kx0:Int->Option Int):Option Int:=
 (q6o v0 v1 v5 (fun v34q1=>(bif v34q1 then(next (i64.wrap (v5+1)))else(kx0 v5))))
def qhi (v0 v1:LA)(kx0:Int->Option Int):Nat->Int->Option Int
 |0=>(fun _=>none)
 |n+1=>(fun v5=>qox v0 v1 v5 (qhi v0 v1 kx0 n) kx0)
def q6p:=hull (qhi)
theorem qbg8:q6p=qhi:=qa _
def qbi2:SubB Tryz.prog (TIof Tryz.prog) 38 0 (kret [.t 4] (decI .i64)):=lpB Tryz.f84 35 (.s (.s (.sub [.sel [0,1,5] []] qbi1 []) (.s .z (.v [.sel [5] []]))) (.b (.v [.sel [0,1,5] []]))) S106_ (qhi) (fun f v K n=>f (v.l 0 0) (v.l 4 0) (q0q K) n) (fun v f K=>qox (v.l 0 0) (v.l 4 0) (v.i 20 0) f (q0q K)) (fun f v=>f (v.i 20 0)) (fun k v=>(fun z0=>k (v.ui 20 0 z0)))
def qt0 (v0 v1:LA):Option Int:=
 (q6p v0 v1 (fun v5q1=>(some v5q1)) FU 0)
def qsi:=hull qt0
theorem qbod:qsi=qt0:=qa _
def q8u {R:Type}:EntF Tryz.prog R:=entB (nt:=38) (dec:=(decI .i64)) (enc:=(AV.int .i64)) Tryz.func84 [.t 4] hdeI (.s .z (.s .z (.s (.b (.sub [.sel [0,1,5] []] qbi2 [])) .z))) S107_ qt0 (fun f v=>f (v.l 0 0) (v.l 4 0))
def qoy (v0 v1:LU):Option Int:=
 (oB (qhh v0) fun r1=>(oB (qhh v1) fun r2=>(bif((!r1.2)||(!r2.2))then(bif r1.2 then(some (-1))else(bif r2.2 then(some 1)else(oB (qye v0 v1) fun r3=>(some r3))))else(oB (qsi r1.1 r2.1) fun r4=>(bif((decide (r4<(r1.1.length:Int)))&&(decide (r4<(r2.1.length:Int))))then(oB (ixB r1.1 (i64.wrap ((i64.wrap ((r1.1.length:Int)-1))-r4))) fun y5=>(bif fitC [.s] y5.cells then(oB (ixB r2.1 (i64.wrap ((i64.wrap ((r2.1.length:Int)-1))-r4))) fun y6=>(bif fitC [.s] y6.cells then(oB (qye (gS y5.cells 0) (gS y6.cells 0)) fun r7=>(some r7))else none))else none))else(bif(decide ((r1.1.length:Int)<(r2.1.length:Int)))then(some (-1))else(bif(decide ((r1.1.length:Int)>(r2.1.length:Int)))then(some 1)else(some 0))))))))
def qrk:=hull qoy
theorem qbg9:qrk=qoy:=qa _
def q3o {R:Type}:EntF Tryz.prog R:=entB (nt:=71) (dec:=(decI .i64)) (enc:=(AV.int .i64)) Tryz.func31 [.t 4] hdeI (.s .z (.s (.r [(1,.k qkj.b)] []) (.s (.r [(1,.k qkj.b)] []) (.s (.s (.r [(3,.g 2)] []) (.s (.s .z (.s .z (.s (.r [(2,.c q8t.b)] []) .z))) .z)) (.s (.r [(2,.c q8u.b)] []) (.s (.s (.r [(5,.g 4)] []) (.s (.s (.d [] [(6,.e 50 [.s]),(14,.e 58 [.s])] [(0,.c q8t.b)] []) .z) .z)) .z)))))) S62_ qoy (fun f v=>f (v.s 0 0) (v.s 4 0))
def qp2 (Aa:LU)(Ab:Bool)(Ac Bt Bu:Int)(B7:LU)(B8:Bool)(B9 Ca Cb:Int):Option Bool:=
 (oB (qre Ab Ac Bt B8 B9 Ca) fun r1=>(bif(decide (r1<0))then(some true)else(bif(r1==0)then(oB (qrk Aa B7) fun r2=>(some (decide (r2<0))))else(some false))))
def q0r:=hull qp2
theorem qbi3:q0r=qp2:=qa _
def qbmd {R:Type}:EntF Tryz.prog R:=entB (nt:=25) (dec:=decB) (enc:=AV.bool) Tryz.func81 [.t 4] hdeB (.s .z (.s (.r [(4,.c q3i.b)] []) (.s (.r [(10,.c q3o.b)] []) .z))) S75_ qp2 (fun f v=>f (v.s 1 0) (v.b 1 1) (v.i 1 2) (v.i 1 3) (v.i 1 4) (v.s 5 0) (v.b 5 1) (v.i 5 2) (v.i 5 3) (v.i 5 4))
def S108_:Shp:=⟨[(0,.one (.l (.sl 5))),(3,.one (.l (.i .i64))),(4,.one (.ptr 0 0))],[.box true (lk qc)]⟩
def S109_:Shp:=⟨[(0,.one (.l (.sl 5))),(3,.one (.l (.i .i64)))],[]⟩
def qbbn (v0:LA)(v3:Int)(Av:LU)(Aw:Bool)(Ax Ay Az:Int)(K:Ex->Env->Mem->Option Int):=(fun z_v26=>K .norm (qi [(0,(.sl 5 v0)),(3,(.int .i64 v3)),(4,(.ptr 0 0)),(26,(.bool z_v26))]) (qe [(some (.box true (qeg Av Aw Ax Ay Az)))]))
def qmw (v0:LA)(v3:Int)(Av:LU)(Aw:Bool)(Ax Ay Az:Int)(kn:Bool->Option Int):Option Int:=
 (oB (qv6 Av) fun r1=>(bif(!r1)then(kn true)else(oB (qyy Av) fun r2=>(kn r2))))
def quq:=hull (qmw)
theorem qbbo:quq=qmw:=qa _
def qbds:SubB Tryz.prog (TIof Tryz.prog) 74 0 (kret [.t 2] (decI .i64)):=jnB Tryz.f29 4683 (.r [(2,.c q6n.b),(7,.c qbi0.b)] [.sel [0,3,4,26] [0]]) S108_ (qmw) (fun f v K=>f (v.l 0 0) (v.i 12 0) (v.s 3 0) (v.b 3 1) (v.i 3 2) (v.i 3 3) (v.i 3 4) (qbbn (v.l 0 0) (v.i 12 0) (v.s 3 0) (v.b 3 1) (v.i 3 2) (v.i 3 3) (v.i 3 4) K))
def qbbp (v0:LA)(v3:Int)(Av:LU)(Aw:Bool)(Ax Ay Az:Int)(K:Ex->Env->Mem->Option Int):=(fun z_v49=>K .norm (qi [(0,(.sl 5 v0)),(3,(.int .i64 v3)),(4,(.ptr 0 0)),(49,(.bool z_v49))]) (qe [(some (.box true (qeg Av Aw Ax Ay Az)))]))
def qmx (v0:LA)(v3:Int)(Av:LU)(Aw:Bool)(Ax Ay Az:Int)(kn:Bool->Option Int):Option Int:=
 (bif(decide (v3>0))then(oB (ixB v0 (i64.wrap (v3-1))) fun y1=>(bif fitC qc y1.cells then(oB (q0r Av Aw Ax Ay Az (gS y1.cells 0) (gB y1.cells 1) (gI y1.cells 2) (gI y1.cells 3) (gI y1.cells 4)) fun r2=>(kn r2))else none))else(kn false))
def qur:=hull (qmx)
theorem qbbq:qur=qmx:=qa _
def qbdt:SubB Tryz.prog (TIof Tryz.prog) 74 0 (kret [.t 2] (decI .i64)):=jnB Tryz.f29 40523 (.d [] [(7,.e 46 qc)] [(0,.c qbmd.b)] [.sel [0,3,4,49] [0]]) S108_ (qmx) (fun f v K=>f (v.l 0 0) (v.i 12 0) (v.s 3 0) (v.b 3 1) (v.i 3 2) (v.i 3 3) (v.i 3 4) (qbbp (v.l 0 0) (v.i 12 0) (v.s 3 0) (v.b 3 1) (v.i 3 2) (v.i 3 3) (v.i 3 4) K))
def qbbr (v0:LA)(v3:Int)(K:Ex->Env->Mem->Option Int):=(fun z_v73=>K .norm (qi [(0,(.sl 5 v0)),(3,(.int .i64 v3)),(73,(.bool z_v73))]) (qe []))
def qmy (v0:LA)(v3:Int)(Av:LU)(Aw:Bool)(Ax Ay Az:Int)(kn:Bool->Option Int):Option Int:=
 (bif(decide (v3>0))then(oB (ixB v0 (i64.wrap (v3-1))) fun y1=>(bif fitC qc y1.cells then(bif(Av==(gS y1.cells 0))then(oB (ixB v0 (i64.wrap (v3-1))) fun y2=>(bif fitC qc y2.cells then(kn ((Aw==(gB y2.cells 1))&&((Ax==(gI y2.cells 2))&&((Ay==(gI y2.cells 3))&&true))))else none))else(kn false))else none))else(kn false))
def qus:=hull (qmy)
theorem qbbs:qus=qmy:=qa _
def qbdu:SubB Tryz.prog (TIof Tryz.prog) 74 0 (kret [.t 2] (decI .i64)):=jnB Tryz.f29 48715 (.d [] [(8,.e 58 qc),(19,.e 69 qc)] [] [.sel [0,3,73] []]) S108_ (qmy) (fun f v K=>f (v.l 0 0) (v.i 12 0) (v.s 3 0) (v.b 3 1) (v.i 3 2) (v.i 3 3) (v.i 3 4) (qbbr (v.l 0 0) (v.i 12 0) K))
def qxf (K:Ex->Env->Mem->Option Int):=(fun(_:Unit)=>K (.exit 0) (qi []) (qe []))
def qig (v0:LA)(v3:Int)(next:Int->Option Int)(kx0:Unit->Option Int):Option Int:=
 (bif(decide (v3<(v0.length:Int)))then(oB (ixB v0 v3) fun y1=>(bif fitC qc y1.cells then(quq v0 v3 (gS y1.cells 0) (gB y1.cells 1) (gI y1.cells 2) (gI y1.cells 3) (gI y1.cells 4) (fun v26q2=>(bif v26q2 then(some 2)else(oB (qnf (gB y1.cells 1) (gI y1.cells 2) (gI y1.cells 3)) fun r3=>(bif(!r3)then(some 3)else(bif((decide ((gI y1.cells 4)<0))||(decide ((gI y1.cells 4)>2147483647)))then(some 1)else(qur v0 v3 (gS y1.cells 0) (gB y1.cells 1) (gI y1.cells 2) (gI y1.cells 3) (gI y1.cells 4) (fun v49q4=>(bif v49q4 then(some 7)else(qus v0 v3 (gS y1.cells 0) (gB y1.cells 1) (gI y1.cells 2) (gI y1.cells 3) (gI y1.cells 4) (fun v73q5=>(bif v73q5 then(some 12)else(next (i64.wrap (v3+1)))))))))))))))else none))else(kx0 ()))
def qih (v0:LA)(kx0:Unit->Option Int):Nat->Int->Option Int
 |0=>(fun _=>none)
 |n+1=>(fun v3=>qig v0 v3 (qih v0 kx0 n) kx0)
def q3p:=hull (qih)
theorem qbbt:q3p=qih:=qa _
def qbdv:SubB Tryz.prog (TIof Tryz.prog) 74 0 (kret [.t 2] (decI .i64)):=lpB Tryz.f29 75 (.s (.s .z (.s .z (.v [.sel [] []]))) (.s (.b (.s (.r [(2,.p (.etac 16 qc))] []) (.s (.s (.sub [.sel [0,3,4] [0]] qbds []) .z) (.s (.s (.r [(2,.c qrb.b)] []) .z) (.s (.s (.r [(4,.g 3)] []) .z) (.s (.s (.sub [.sel [0,3,4] [0]] qbdt []) .z) (.s (.sub [.sel [0,3,4] [0]] qbdu []) .z))))))) (.v [.sel [0,3] []]))) S109_ (qih) (fun f v K n=>f (v.l 0 0) (qxf K) n) (fun v f K=>qig (v.l 0 0) (v.i 12 0) f (qxf K)) (fun f v=>f (v.i 12 0)) (fun k v=>(fun z0=>k (v.ui 12 0 z0)))
def qrl (v0:LA):Option Int:=
 (bif(decide ((v0.length:Int)>256))then(some 9)else(q3p v0 (fun(_:Unit)=>(some 0)) FU 0))
def q13:=hull qrl
theorem qbme:q13=qrl:=qa _
def qboe {R:Type}:EntF Tryz.prog R:=entB (nt:=74) (dec:=(decI .i64)) (enc:=(AV.int .i64)) Tryz.func29 [.t 2] hdeI (.s .z (.s .z (.s (.s .z (.b (.sub [.sel [0,3] []] qbdv []))) .z))) S77_ qrl (fun f v=>f (v.l 0 0))
def S110_:Shp:=⟨[(0,.one (.l (.sl 8))),(3,.one (.ptr 0 0)),(4,.one (.ptr 1 0)),(6,.one (.l (.i .i64))),(7,.one (.l (.i .i64)))],[.box true (lk qfz),.box true (lk qb)]⟩
def qs6:AV->Option (AV×Bool):=decN [(.st [.b,(.i .u64),(.i .u64),(.i .i64),(.i .i64),.s,.s,(.i .i64)]),(.one .b)] fun z=>((gC (tpL z) 0),aB (gC (tpL z) 1))
def q91 (v0:LA)(v6 v7:Int)(Av:Bool)(Aw Ax:Int)(Ad:Bool)(Ae Af Ag Ah:Int)(Ai Aj:LU)(Ak:Int)(K:Ex->Env->Mem->Option (AV×Bool)):=(fun z_v39=>K .norm (qi [(0,(.sl 8 v0)),(3,(.ptr 0 0)),(4,(.ptr 1 0)),(6,(.int .i64 v6)),(7,(.int .i64 v7)),(39,(.bool z_v39))]) (qe [(some (.box true (qje Av Aw Ax))),(some (.box true (qo Ad Ae Af Ag Ah Ai Aj Ak)))]))
def qly (v0:LA)(v6 v7:Int)(Av:Bool)(Aw Ax:Int)(Ad:Bool)(Ae Af Ag Ah:Int)(Ai Aj:LU)(Ak:Int)(kn:Bool->Option (AV×Bool)):Option (AV×Bool):=
 (oB (ixB v0 v7) fun y1=>(bif fitC qb y1.cells then(oB (qmk (gB y1.cells 0) (gI y1.cells 1) (gI y1.cells 2) (gI y1.cells 3) Av Aw Ax) fun r2=>(bif r2 then(bif(decide (v6<0))then(kn true)else(oB (ixB v0 v7) fun y3=>(bif fitC qb y3.cells then(oB (ixB v0 v6) fun y4=>(bif fitC qb y4.cells then(kn (decide ((gI y3.cells 3)>(gI y4.cells 3))))else none))else none)))else(kn false)))else none))
def q1p:=hull (qly)
theorem q92:q1p=qly:=qa _
def qbbu:SubB Tryz.prog (TIof Tryz.prog) 48 0 (kret [(.cell 4 true 8),.t 5] qs6):=jnB Tryz.f85 1099 (.d [] [(2,.e 16 qb),(6,.c qs5.b),(13,.e 27 qb),(19,.e 33 qb)] [] [.sel [0,3,4,6,7,39] [0,1]]) S110_ (qly) (fun f v K=>f (v.l 0 0) (v.i 24 0) (v.i 28 0) (v.b 3 0) (v.i 3 1) (v.i 3 2) (v.b 7 0) (v.i 7 1) (v.i 7 2) (v.i 7 3) (v.i 7 4) (v.s 7 5) (v.s 7 6) (v.i 7 7) (q91 (v.l 0 0) (v.i 24 0) (v.i 28 0) (v.b 3 0) (v.i 3 1) (v.i 3 2) (v.b 7 0) (v.i 7 1) (v.i 7 2) (v.i 7 3) (v.i 7 4) (v.s 7 5) (v.s 7 6) (v.i 7 7) K))
def qxg (v0:LA)(Ad:Bool)(Ae Af Ag Ah:Int)(Ai Aj:LU)(Ak:Int)(K:Ex->Env->Mem->Option (AV×Bool)):=(fun z_v6=>K (.exit 0) (qi [(0,(.sl 8 v0)),(4,(.ptr 0 0)),(6,(.int .i64 z_v6))]) (qe [(some (.box true (qo Ad Ae Af Ag Ah Ai Aj Ak)))]))
def qii (v0:LA)(v6 v7:Int)(Av:Bool)(Aw Ax:Int)(Ad:Bool)(Ae Af Ag Ah:Int)(Ai Aj:LU)(Ak:Int)(next:Int->Int->Option (AV×Bool))(kx0:Int->Option (AV×Bool)):Option (AV×Bool):=
 (bif(decide (v7<(v0.length:Int)))then(q1p v0 v6 v7 Av Aw Ax Ad Ae Af Ag Ah Ai Aj Ak (fun v39q1=>(bif v39q1 then(next v7 (i64.wrap (v7+1)))else(next v6 (i64.wrap (v7+1))))))else(kx0 v6))
def qf1 (v0:LA)(Av:Bool)(Aw Ax:Int)(Ad:Bool)(Ae Af Ag Ah:Int)(Ai Aj:LU)(Ak:Int)(kx0:Int->Option (AV×Bool)):Nat->Int->Int->Option (AV×Bool)
 |0=>(fun _ _=>none)
 |n+1=>(fun v6 v7=>qii v0 v6 v7 Av Aw Ax Ad Ae Af Ag Ah Ai Aj Ak (qf1 v0 Av Aw Ax Ad Ae Af Ag Ah Ai Aj Ak kx0 n) kx0)
def q3q:=hull (qf1)
theorem qbbv:q3q=qf1:=qa _
def qbdw:SubB Tryz.prog (TIof Tryz.prog) 48 0 (kret [(.cell 4 true 8),.t 5] qs6):=lpB Tryz.f85 75 (.s (.s .z (.s .z (.v [.sel [0,4,6] [1]]))) (.s (.b (.s (.sub [.sel [0,3,4,6,7] [0,1]] qbbu []) .z)) (.v [.sel [0,3,4,6,7] [0,1]]))) S110_ (qf1) (fun f v K n=>f (v.l 0 0) (v.b 3 0) (v.i 3 1) (v.i 3 2) (v.b 7 0) (v.i 7 1) (v.i 7 2) (v.i 7 3) (v.i 7 4) (v.s 7 5) (v.s 7 6) (v.i 7 7) (qxg (v.l 0 0) (v.b 7 0) (v.i 7 1) (v.i 7 2) (v.i 7 3) (v.i 7 4) (v.s 7 5) (v.s 7 6) (v.i 7 7) K) n) (fun v f K=>qii (v.l 0 0) (v.i 24 0) (v.i 28 0) (v.b 3 0) (v.i 3 1) (v.i 3 2) (v.b 7 0) (v.i 7 1) (v.i 7 2) (v.i 7 3) (v.i 7 4) (v.s 7 5) (v.s 7 6) (v.i 7 7) f (qxg (v.l 0 0) (v.b 7 0) (v.i 7 1) (v.i 7 2) (v.i 7 3) (v.i 7 4) (v.s 7 5) (v.s 7 6) (v.i 7 7) K)) (fun f v=>f (v.i 24 0) (v.i 28 0)) (fun k v=>(fun z0 z1=>k ((v.ui 24 0 z0).ui 28 0 z1)))
def qp3 (v0:LA)(B7:Bool)(B8 B9:Int):Option (AV×Bool):=
 (q3q v0 B7 B8 B9 false 0 0 0 0 ([]:List UInt8) ([]:List UInt8) 0 (fun v6q1=>(bif(decide (v6q1<0))then(some ((.agg [(.bool false),(.int .u64 0),(.int .u64 0),(.int .i64 0),(.int .i64 0),(.str ([]:List UInt8)),(.str ([]:List UInt8)),(.int .i64 0)]),false))else(oB (ixB v0 v6q1) fun y2=>(bif fitC qb y2.cells then(some ((.agg [(.bool (gB y2.cells 0)),(.int .u64 (gI y2.cells 1)),(.int .u64 (gI y2.cells 2)),(.int .i64 (gI y2.cells 3)),(.int .i64 (gI y2.cells 4)),(.str (gS y2.cells 5)),(.str (gS y2.cells 6)),(.int .i64 (gI y2.cells 7))]),true))else none)))) FU (-1) 0)
def q0s:=hull qp3
theorem qbi4:q0s=qp3:=qa _
def qbmf {R:Type}:EntF Tryz.prog R:=entB (nt:=48) (dec:=qs6) (enc:=(fun r=>.tup [qfe (.st [.b,(.i .u64),(.i .u64),(.i .i64),(.i .i64),.s,.s,(.i .i64)]) r.1,.bool r.2])) Tryz.func85 [(.cell 4 true 8),.t 5] (hdeN fun _=>rfl) (.s .z (.s .z (.s (.s .z (.b (.sub [.sel [0,3,4,6,7] [0,1]] qbdw []))) (.s .z (.s (.r [(2,.p (.etac 46 qb))] []) .z))))) S39_ qp3 (fun f v=>f (v.l 0 0) (v.b 5 0) (v.i 5 1) (v.i 5 2))
def qoz (v0:LA)(B7:Bool)(B8 B9:Int):Option Bool:=
 (oB (q0s v0 B7 B8 B9) fun r1=>(bif r1.2 then(bif((gI r1.1.cells 4)==2)then(some true)else(some ((gI r1.1.cells 4)==3)))else(some false)))
def qyz:=hull qoz
theorem qbha:qyz=qoz:=qa _
def qbi5 {R:Type}:EntF Tryz.prog R:=entB (nt:=24) (dec:=decB) (enc:=AV.bool) Tryz.func32 [.t 4] hdeB (.s .z (.s (.r [(2,.c qbmf.b)] []) .z)) S39_ qoz (fun f v=>f (v.l 0 0) (v.b 5 0) (v.i 5 1) (v.i 5 2))
def qrm (v0 v1:LU):Option Bool:=
 (oB (qhh v0) fun r1=>(oB (qhh v1) fun r2=>(bif(r1.2&&r2.2)then(oB (qsi r1.1 r2.1) fun r3=>(some (r3==(r2.1.length:Int))))else(some false))))
def q14:=hull qrm
theorem qbmg:q14=qrm:=qa _
def qbof {R:Type}:EntF Tryz.prog R:=entB (nt:=31) (dec:=decB) (enc:=AV.bool) Tryz.func86 [.t 4] hdeB (.s .z (.s (.r [(1,.k qkj.b)] []) (.s (.r [(1,.k qkj.b)] []) (.s (.r [(2,.g 1),(7,.c q8u.b)] []) .z)))) S62_ qrm (fun f v=>f (v.s 0 0) (v.s 4 0))
def S111_:Shp:=⟨[(0,.one (.l (.sl 1))),(1,.one (.l .s)),(5,.one (.l (.i .i64)))],[]⟩
def qze (K:Ex->Env->Mem->Option Bool):=(fun(_:Unit)=>K (.exit 0) (qi []) (qe []))
def qj3 (v0:LA)(v1:LU)(v5:Int)(next:Int->Option Bool)(kx0:Unit->Option Bool):Option Bool:=
 (bif(decide (v5<(v0.length:Int)))then(oB (ixB v0 v5) fun y1=>(bif fitC [.s] y1.cells then(oB (q14 v1 (gS y1.cells 0)) fun r2=>(bif r2 then(some true)else(next (i64.wrap (v5+1)))))else none))else(kx0 ()))
def qj4 (v0:LA)(v1:LU)(kx0:Unit->Option Bool):Nat->Int->Option Bool
 |0=>(fun _=>none)
 |n+1=>(fun v5=>qj3 v0 v1 v5 (qj4 v0 v1 kx0 n) kx0)
def q45:=hull (qj4)
theorem qbdx:q45=qj4:=qa _
def qbhb:SubB Tryz.prog (TIof Tryz.prog) 18 0 (kret [.t 4] decB):=lpB Tryz.f33 37 (.s (.s .z (.s .z (.v [.sel [] []]))) (.s (.b (.s (.r [(3,.p (.etac 15 [.s])),(5,.c qbof.b)] []) .z)) (.v [.sel [0,1,5] []]))) S111_ (qj4) (fun f v K n=>f (v.l 0 0) (v.s 4 0) (qze K) n) (fun v f K=>qj3 (v.l 0 0) (v.s 4 0) (v.i 20 0) f (qze K)) (fun f v=>f (v.i 20 0)) (fun k v=>(fun z0=>k (v.ui 20 0 z0)))
def qrn (v0:LA)(v1:LU):Option Bool:=
 (q45 v0 v1 (fun(_:Unit)=>(some false)) FU 0)
def q15:=hull qrn
theorem qbmh:q15=qrn:=qa _
def qbog {R:Type}:EntF Tryz.prog R:=entB (nt:=18) (dec:=decB) (enc:=AV.bool) Tryz.func33 [.t 4] hdeB (.s .z (.s (.s .z (.b (.sub [.sel [0,1,5] []] qbhb []))) .z)) S84_ qrn (fun f v=>f (v.l 0 0) (v.s 4 0))
def S112_:Shp:=⟨[(1,.one (.ptr 0 0)),(5,.one (.l (.i .i64)))],[.box true (lk qm)]⟩
def S113_:Shp:=⟨[(1,.one (.ptr 0 0)),(6,.one (.l (.i .i64)))],[.box true (lk qm)]⟩
def qbbw (v5:Int)(Av Aw Ax:LA)(K:Ex->Env->Mem->Option Int):=(fun z_v55=>K .norm (qi [(1,(.ptr 0 0)),(5,(.int .i64 v5)),(55,(.bool z_v55))]) (qe [(some (.box true (qh Av Aw Ax)))]))
def qmz (v5:Int)(Av Aw Ax:LA)(kn:Bool->Option Int):Option Int:=
 (oB (ixB Ax v5) fun y1=>(bif fitC [.s] y1.cells then(oB (qv6 (gS y1.cells 0)) fun r2=>(bif(!r2)then(kn true)else(bif(decide (v5>0))then(oB (ixB Ax (i64.wrap (v5-1))) fun y3=>(bif fitC [.s] y3.cells then(oB (ixB Ax v5) fun y4=>(bif fitC [.s] y4.cells then(oB (qrk (gS y3.cells 0) (gS y4.cells 0)) fun r5=>(kn (decide (r5>=0))))else none))else none))else(kn false))))else none))
def qut:=hull (qmz)
theorem qbbx:qut=qmz:=qa _
def qbdy:SubB Tryz.prog (TIof Tryz.prog) 83 0 (kret [.t 2] (decI .i64)):=jnB Tryz.f12 4399 (.d [] [(3,.e 33 [.s]),(5,.c q6n.b),(15,.e 45 [.s]),(20,.e 50 [.s])] [(0,.c q3o.b)] [.sel [1,5,55] [0]]) S112_ (qmz) (fun f v K=>f (v.i 20 0) (v.l 3 0) (v.l 3 1) (v.l 3 2) (qbbw (v.i 20 0) (v.l 3 0) (v.l 3 1) (v.l 3 2) K))
def qxh (Av Aw Ax:LA)(K:Ex->Env->Mem->Option Int):=(fun(_:Unit)=>K (.exit 0) (qi [(1,(.ptr 0 0))]) (qe [(some (.box true (qh Av Aw Ax)))]))
def qij (v5:Int)(Av Aw Ax:LA)(next:Int->Option Int)(kx0:Unit->Option Int):Option Int:=
 (bif(decide (v5<(Ax.length:Int)))then(qut v5 Av Aw Ax (fun v55q1=>(bif v55q1 then(some 2)else(next (i64.wrap (v5+1))))))else(kx0 ()))
def qik (Av Aw Ax:LA)(kx0:Unit->Option Int):Nat->Int->Option Int
 |0=>(fun _=>none)
 |n+1=>(fun v5=>qij v5 Av Aw Ax (qik Av Aw Ax kx0 n) kx0)
def q3r:=hull (qik)
theorem qbby:q3r=qik:=qa _
def qbdz:SubB Tryz.prog (TIof Tryz.prog) 83 0 (kret [.t 2] (decI .i64)):=lpB Tryz.f12 303 (.s (.s .z (.s .z (.v [.sel [1] [0]]))) (.s (.b (.s (.sub [.sel [1,5] [0]] qbdy []) .z)) (.v [.sel [1,5] [0]]))) S112_ (qik) (fun f v K n=>f (v.l 3 0) (v.l 3 1) (v.l 3 2) (qxh (v.l 3 0) (v.l 3 1) (v.l 3 2) K) n) (fun v f K=>qij (v.i 20 0) (v.l 3 0) (v.l 3 1) (v.l 3 2) f (qxh (v.l 3 0) (v.l 3 1) (v.l 3 2) K)) (fun f v=>f (v.i 20 0)) (fun k v=>(fun z0=>k (v.ui 20 0 z0)))
def qxi (K:Ex->Env->Mem->Option Int):=(fun(_:Unit)=>K (.exit 2) (qi []) (qe []))
def qil (v6:Int)(Av Aw Ax:LA)(next:Int->Option Int)(kx2:Unit->Option Int):Option Int:=
 (bif(decide (v6<(Aw.length:Int)))then(oB (ixB Aw v6) fun y1=>(bif fitC qc y1.cells then(oB (qyz Av (gB y1.cells 1) (gI y1.cells 2) (gI y1.cells 3)) fun r2=>(bif(!r2)then(some 25)else(oB (ixB Aw v6) fun y3=>(bif fitC qc y3.cells then(oB (q15 Ax (gS y3.cells 0)) fun r4=>(bif(!r4)then(some 13)else(next (i64.wrap (v6+1)))))else none))))else none))else(kx2 ()))
def qim (Av Aw Ax:LA)(kx2:Unit->Option Int):Nat->Int->Option Int
 |0=>(fun _=>none)
 |n+1=>(fun v6=>qil v6 Av Aw Ax (qim Av Aw Ax kx2 n) kx2)
def quu:=hull (qim)
theorem qbbz:quu=qim:=qa _
def qbd0:SubB Tryz.prog (TIof Tryz.prog) 83 0 (kret [.t 2] (decI .i64)):=lpB Tryz.f12 607 (.s (.s .z (.s .z (.v [.sel [] []]))) (.s (.b (.s (.s (.d [] [(5,.e 68 qc)] [(0,.c qbi5.b)] []) .z) (.s (.d [] [(5,.e 78 qc)] [(0,.c qbog.b)] []) .z))) (.v [.sel [1,6] [0]]))) S113_ (qim) (fun f v K n=>f (v.l 3 0) (v.l 3 1) (v.l 3 2) (qxi K) n) (fun v f K=>qil (v.i 24 0) (v.l 3 0) (v.l 3 1) (v.l 3 2) f (qxi K)) (fun f v=>f (v.i 24 0)) (fun k v=>(fun z0=>k (v.ui 24 0 z0)))
def qro (Aa Ab Ac:LA):Option Int:=
 (oB (q12 Aa) fun r1=>(bif(r1 != 0)then(some r1)else(oB (q13 Ab) fun r2=>(bif(r2 != 0)then(some r2)else(bif(decide ((Ac.length:Int)>32))then(some 9)else(q3r Aa Ab Ac (fun(_:Unit)=>(quu Aa Ab Ac (fun(_:Unit)=>(some 0)) FU 0)) FU 0))))))
def qv7:=hull qro
theorem qbmi:qv7=qro:=qa _
def q6q {R:Type}:EntF Tryz.prog R:=entB (nt:=83) (dec:=(decI .i64)) (enc:=(AV.int .i64)) Tryz.func12 [.t 2] hdeI (.s .z (.s (.s (.r [(2,.c qbob.b)] []) .z) (.s (.s (.r [(2,.c qboe.b)] []) .z) (.s .z (.s (.s .z (.b (.sub [.sel [1,5] [0]] qbdz []))) (.s (.s .z (.b (.sub [.sel [1,6] [0]] qbd0 []))) .z)))))) S4_ qro (fun f v=>f (v.l 1 0) (v.l 1 1) (v.l 1 2))
def S136_:Shp:=⟨[(2,.one (.ptr 0 0)),(3,.one (.ptr 1 0)),(35,.one (.l (.i .i64))),(36,.one (.l (.i .i64)))],[.box true (lk qm),.box true (lk qm)]⟩
def S137_:Shp:=⟨[(2,.one (.ptr 0 0)),(3,.one (.ptr 1 0)),(53,.one (.l (.i .i64))),(54,.one (.l (.i .i64)))],[.box true (lk qm),.box true (lk qm)]⟩
def S138_:Shp:=⟨[(2,.one (.ptr 0 0)),(3,.one (.ptr 1 0)),(71,.one (.l (.i .i64))),(72,.one (.l (.i .i64)))],[.box true (lk qm),.box true (lk qm)]⟩
def S139_:Shp:=⟨[(0,.st (lk qm)),(1,.st (lk qm))],[]⟩
def qzf (Av Aw Ax Ad Ae Af:LA)(K:Ex->Env->Mem->Option Bool):=(fun(_:Unit)=>K (.exit 0) (qi [(2,(.ptr 0 0)),(3,(.ptr 1 0))]) (qe [(some (.box true (qh Av Aw Ax))),(some (.box true (qh Ad Ae Af)))]))
def qj5 (v35 v36:Int)(Av Aw Ax Ad Ae Af:LA)(next:Int->Option Bool)(kx0:Unit->Option Bool):Option Bool:=
 (bif(decide (v36<v35))then(oB (ixB Av v36) fun y1=>(bif fitC qb y1.cells then(oB (ixB Ad v36) fun y2=>(bif fitC qb y2.cells then(bif(!(((gB y1.cells 0)==(gB y2.cells 0))&&(((gI y1.cells 1)==(gI y2.cells 1))&&(((gI y1.cells 2)==(gI y2.cells 2))&&(((gI y1.cells 3)==(gI y2.cells 3))&&(((gI y1.cells 4)==(gI y2.cells 4))&&(((gS y1.cells 5)==(gS y2.cells 5))&&(((gS y1.cells 6)==(gS y2.cells 6))&&(((gI y1.cells 7)==(gI y2.cells 7))&&true)))))))))then(some false)else(next (i64.wrap (v36+1))))else none))else none))else(kx0 ()))
def qj6 (v35:Int)(Av Aw Ax Ad Ae Af:LA)(kx0:Unit->Option Bool):Nat->Int->Option Bool
 |0=>(fun _=>none)
 |n+1=>(fun v36=>qj5 v35 v36 Av Aw Ax Ad Ae Af (qj6 v35 Av Aw Ax Ad Ae Af kx0 n) kx0)
def qw2:=hull (qj6)
theorem qbd1:qw2=qj6:=qa _
def qbhc:SubB Tryz.prog (TIof Tryz.prog) 87 0 (kret [.t 4] decB):=lpB Tryz.f16 75 (.s .z (.s (.s .z (.v [.sel [2,3] [0,1]])) (.s (.b (.s .z (.s (.d [] [(3,.e 42 qb),(8,.e 47 qb)] [] []) .z))) (.v [.sel [2,3,35,36] [0,1]])))) S136_ (qj6) (fun f v K n=>f (v.i 140 0) (v.l 3 0) (v.l 3 1) (v.l 3 2) (v.l 7 0) (v.l 7 1) (v.l 7 2) (qzf (v.l 3 0) (v.l 3 1) (v.l 3 2) (v.l 7 0) (v.l 7 1) (v.l 7 2) K) n) (fun v f K=>qj5 (v.i 140 0) (v.i 144 0) (v.l 3 0) (v.l 3 1) (v.l 3 2) (v.l 7 0) (v.l 7 1) (v.l 7 2) f (qzf (v.l 3 0) (v.l 3 1) (v.l 3 2) (v.l 7 0) (v.l 7 1) (v.l 7 2) K)) (fun f v=>f (v.i 144 0)) (fun k v=>(fun z0=>k (v.ui 144 0 z0)))
def qzg (Av Aw Ax Ad Ae Af:LA)(K:Ex->Env->Mem->Option Bool):=(fun(_:Unit)=>K (.exit 2) (qi [(2,(.ptr 0 0)),(3,(.ptr 1 0))]) (qe [(some (.box true (qh Av Aw Ax))),(some (.box true (qh Ad Ae Af)))]))
def qj7 (v53 v54:Int)(Av Aw Ax Ad Ae Af:LA)(next:Int->Option Bool)(kx2:Unit->Option Bool):Option Bool:=
 (bif(decide (v54<v53))then(oB (ixB Aw v54) fun y1=>(bif fitC qc y1.cells then(oB (ixB Ae v54) fun y2=>(bif fitC qc y2.cells then(bif(!(((gS y1.cells 0)==(gS y2.cells 0))&&(((gB y1.cells 1)==(gB y2.cells 1))&&(((gI y1.cells 2)==(gI y2.cells 2))&&(((gI y1.cells 3)==(gI y2.cells 3))&&(((gI y1.cells 4)==(gI y2.cells 4))&&true))))))then(some false)else(next (i64.wrap (v54+1))))else none))else none))else(kx2 ()))
def qj8 (v53:Int)(Av Aw Ax Ad Ae Af:LA)(kx2:Unit->Option Bool):Nat->Int->Option Bool
 |0=>(fun _=>none)
 |n+1=>(fun v54=>qj7 v53 v54 Av Aw Ax Ad Ae Af (qj8 v53 Av Aw Ax Ad Ae Af kx2 n) kx2)
def qw3:=hull (qj8)
theorem qbd2:qw3=qj8:=qa _
def qbhd:SubB Tryz.prog (TIof Tryz.prog) 87 0 (kret [.t 4] decB):=lpB Tryz.f16 151 (.s .z (.s (.s .z (.v [.sel [2,3] [0,1]])) (.s (.b (.s .z (.s (.d [] [(3,.e 60 qc),(8,.e 65 qc)] [] []) .z))) (.v [.sel [2,3,53,54] [0,1]])))) S137_ (qj8) (fun f v K n=>f (v.i 212 0) (v.l 3 0) (v.l 3 1) (v.l 3 2) (v.l 7 0) (v.l 7 1) (v.l 7 2) (qzg (v.l 3 0) (v.l 3 1) (v.l 3 2) (v.l 7 0) (v.l 7 1) (v.l 7 2) K) n) (fun v f K=>qj7 (v.i 212 0) (v.i 216 0) (v.l 3 0) (v.l 3 1) (v.l 3 2) (v.l 7 0) (v.l 7 1) (v.l 7 2) f (qzg (v.l 3 0) (v.l 3 1) (v.l 3 2) (v.l 7 0) (v.l 7 1) (v.l 7 2) K)) (fun f v=>f (v.i 216 0)) (fun k v=>(fun z0=>k (v.ui 216 0 z0)))
def qzh (K:Ex->Env->Mem->Option Bool):=(fun(_:Unit)=>K (.exit 4) (qi []) (qe []))
def qj9 (v71 v72:Int)(Av Aw Ax Ad Ae Af:LA)(next:Int->Option Bool)(kx4:Unit->Option Bool):Option Bool:=
 (bif(decide (v72<v71))then(oB (ixB Ax v72) fun y1=>(bif fitC [.s] y1.cells then(oB (ixB Af v72) fun y2=>(bif fitC [.s] y2.cells then(bif(!((gS y1.cells 0)==(gS y2.cells 0)))then(some false)else(next (i64.wrap (v72+1))))else none))else none))else(kx4 ()))
def qka (v71:Int)(Av Aw Ax Ad Ae Af:LA)(kx4:Unit->Option Bool):Nat->Int->Option Bool
 |0=>(fun _=>none)
 |n+1=>(fun v72=>qj9 v71 v72 Av Aw Ax Ad Ae Af (qka v71 Av Aw Ax Ad Ae Af kx4 n) kx4)
def qw4:=hull (qka)
theorem qbd3:qw4=qka:=qa _
def qbhe:SubB Tryz.prog (TIof Tryz.prog) 87 0 (kret [.t 4] decB):=lpB Tryz.f16 303 (.s .z (.s (.s .z (.v [.sel [] []])) (.s (.b (.s .z (.s (.d [] [(3,.e 78 [.s]),(8,.e 83 [.s])] [] []) .z))) (.v [.sel [2,3,71,72] [0,1]])))) S138_ (qka) (fun f v K n=>f (v.i 284 0) (v.l 3 0) (v.l 3 1) (v.l 3 2) (v.l 7 0) (v.l 7 1) (v.l 7 2) (qzh K) n) (fun v f K=>qj9 (v.i 284 0) (v.i 288 0) (v.l 3 0) (v.l 3 1) (v.l 3 2) (v.l 7 0) (v.l 7 1) (v.l 7 2) f (qzh K)) (fun f v=>f (v.i 288 0)) (fun k v=>(fun z0=>k (v.ui 288 0 z0)))
def qt1 (Aa Ab Ac B7 B8 B9:LA):Option Bool:=
 (bif((((Aa.length:Int) != (B7.length:Int))||((Ab.length:Int) != (B8.length:Int)))||((Ac.length:Int) != (B9.length:Int)))then(some false)else(qw2 (Aa.length:Int) Aa Ab Ac B7 B8 B9 (fun(_:Unit)=>(qw3 (Ab.length:Int) Aa Ab Ac B7 B8 B9 (fun(_:Unit)=>(qw4 (Ac.length:Int) Aa Ab Ac B7 B8 B9 (fun(_:Unit)=>(some true)) FU 0)) FU 0)) FU 0))
def qyf:=hull qt1
theorem qboh:qyf=qt1:=qa _
def qbpz {R:Type}:EntF Tryz.prog R:=entB (nt:=87) (dec:=decB) (enc:=AV.bool) Tryz.func16 [.t 4] hdeB (.s .z (.s (.s (.r [(8,.g 7),(17,.g 7)] []) .z) (.s (.s .z (.b (.sub [.sel [2,3,35,36] [0,1]] qbhc []))) (.s (.s .z (.b (.sub [.sel [2,3,53,54] [0,1]] qbhd []))) (.s (.s .z (.b (.sub [.sel [2,3,71,72] [0,1]] qbhe []))) .z))))) S139_ qt1 (fun f v=>f (v.l 1 0) (v.l 1 1) (v.l 1 2) (v.l 5 0) (v.l 5 1) (v.l 5 2))
def S141_:Shp:=⟨[(1,.one (.l (.sl 17))),(2,.one (.ptr 0 0)),(4,.one (.ptr 1 0)),(17,.one (.l (.sl 17))),(18,.one (.l (.i .i64))),(19,.one (.l (.i .i64)))],[.box true (lk qm),.box true [(.l .nil),(.l .nil),(.l .nil)]]⟩
def qbb0:AV->Option (AV×Int×Int):=decN [(.st [(.sl 8),(.sl 5),(.sl 1)]),(.one (.i .i64)),(.one (.i .i64))] fun z=>((gC (tpL z) 0),aI (gC (tpL z) 1),aI (gC (tpL z) 2))
def q3s (v1:LA)(K:Ex->Env->Mem->Option (AV×Int×Int)):=(fun z_b0_0 z_b0_1 z_b0_2=>K (.exit 0) (qi [(1,(.sl 17 v1)),(2,(.ptr 0 0)),(4,(.ptr 1 0))]) (qe [(some (.box true (qh z_b0_0 z_b0_1 z_b0_2))),(some (.box true [.nils,.nils,.nils]))]))
def qnj (v1 v17:LA)(v18 v19:Int)(Av Aw Ax:LA)(next:Int->(List AV)->(List AV)->(List AV)->Option (AV×Int×Int))(kx0:(List AV)->(List AV)->(List AV)->Option (AV×Int×Int)):Option (AV×Int×Int):=
 (bif(decide (v19<v18))then(oB (ixB v17 v19) fun y1=>(bif fitC qeh y1.cells then(oB (qfq Av Aw Ax (gI y1.cells 0) (gB y1.cells 1) (gI y1.cells 2) (gI y1.cells 3) (gI y1.cells 4) (gI y1.cells 5) (gS y1.cells 6) (gS y1.cells 7) (gI y1.cells 8) (gI y1.cells 9) (gI y1.cells 10) (gS y1.cells 11) (gB y1.cells 12) (gI y1.cells 13) (gI y1.cells 14) (gI y1.cells 15) (gS y1.cells 16)) fun r2=>(bif(r2.2 != 0)then(some ((.agg [(.sl 8 ([]:List AV)),(.sl 5 ([]:List AV)),(.sl 1 ([]:List AV))]),v19,r2.2))else(next (i64.wrap (v19+1)) (gL r2.1.cells 0) (gL r2.1.cells 1) (gL r2.1.cells 2))))else none))else(kx0 Av Aw Ax))
def qnk (v1 v17:LA)(v18:Int)(kx0:(List AV)->(List AV)->(List AV)->Option (AV×Int×Int)):Nat->Int->(List AV)->(List AV)->(List AV)->Option (AV×Int×Int)
 |0=>(fun _ _ _ _=>none)
 |n+1=>(fun v19 Av Aw Ax=>qnj v1 v17 v18 v19 Av Aw Ax (qnk v1 v17 v18 kx0 n) kx0)
def qbb1:=hull (qnk)
theorem qbmj:qbb1=qnk:=qa _
def qboi:SubB Tryz.prog (TIof Tryz.prog) 40 0 (kret [(.cell 4 true 3),.t 5,.t 6] qbb0):=lpB Tryz.f19 151 (.s .z (.s (.s .z (.v [.sel [1,2,4] [0,1]])) (.s (.b (.s (.r [(1,.p (.etac 22 qeh))] []) (.s (.r [(2,.k qv1.b)] []) (.s (.s .z (.s (.s .z (.v [.nilc 1 0 8,.nilc 1 1 5,.nilc 1 2 1])) .z)) .z)))) (.v [.sel [1,2,4,17,18,19] [0,1]])))) S141_ (qnk) (fun f v K n=>f (v.l 4 0) (v.l 68 0) (v.i 72 0) (q3s (v.l 4 0) K) n) (fun v f K=>qnj (v.l 4 0) (v.l 68 0) (v.i 72 0) (v.i 76 0) (v.l 3 0) (v.l 3 1) (v.l 3 2) f (q3s (v.l 4 0) K)) (fun f v=>f (v.i 76 0) (v.l 3 0) (v.l 3 1) (v.l 3 2)) (fun k v=>(fun z0 z1 z2 z3=>k ((((v.ui 76 0 z0).ul 3 0 z1).ul 3 1 z2).ul 3 2 z3)))
def q0t (Aa Ab Ac v1:LA):Option (AV×Int×Int):=
 (bif(decide ((v1.length:Int)>64))then(some ((.agg [(.sl 8 ([]:List AV)),(.sl 5 ([]:List AV)),(.sl 1 ([]:List AV))]),0,9))else(oB (qvl Aa Ab Ac) fun r1=>(qbb1 v1 v1 (v1.length:Int) (fun b0_0q2 b0_1q3 b0_2q4=>(some ((.agg [(.sl 8 b0_0q2),(.sl 5 b0_1q3),(.sl 1 b0_2q4)]),(v1.length:Int),0))) FU 0 (gL r1.cells 0) (gL r1.cells 1) (gL r1.cells 2))))
def qbd4:=hull q0t
theorem qbvn:qbd4=q0t:=qa _
def qbwc {R:Type}:EntF Tryz.prog R:=entB (nt:=40) (dec:=qbb0) (enc:=(fun r=>.tup [qfe (.st [(.sl 8),(.sl 5),(.sl 1)]) r.1,.int .i64 r.2.1,.int .i64 r.2.2])) Tryz.func19 [(.cell 4 true 3),.t 5,.t 6] (hdeN fun _=>rfl) (.s .z (.s (.s .z (.s (.s .z (.v [.nilc 1 0 8,.nilc 1 1 5,.nilc 1 2 1])) .z)) (.s (.r [(1,.k qz0.b)] []) (.s (.s .z (.b (.sub [.sel [1,2,4,17,18,19] [0,1]] qboi []))) .z)))) S0_ q0t (fun f v=>f (v.l 1 0) (v.l 1 1) (v.l 1 2) (v.l 4 0))
end
end Go.Proofs.YtoaaphlopbabeaaGreatDoor.Dn
