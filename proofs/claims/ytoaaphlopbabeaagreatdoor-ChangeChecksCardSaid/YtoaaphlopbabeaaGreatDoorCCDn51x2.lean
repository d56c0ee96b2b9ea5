import Derived.Test.YtoaaphlopbabeaaGreatDoorProg
import Derived.Test.YtoaaphlopbabeaaGreatDoorCCLibD
import Derived.Test.YtoaaphlopbabeaaGreatDoorCCDn51x1
set_option linter.all false
namespace Go.Proofs.YtoaaphlopbabeaaGreatDoor.Dn
open Go Go.Pev
set_option maxRecDepth 100000
set_option maxHeartbeats 4000000
noncomputable section
def qmj:Option Bool:=
 (oB (qsy (8:Int)) fun r1=>(oB (qsy (8:Int)) fun r2=>(oB (qfq ([]:List AV) ([]:List AV) ([]:List AV) (1:Int) (gB r1.cells 0) (gI r1.cells 1) (gI r1.cells 2) (gI r1.cells 3) (1:Int) ([110,101,116]:List UInt8) ([]:List UInt8) (0:Int) (0:Int) (0:Int) ([]:List UInt8) false (0:Int) (0:Int) (0:Int) ([]:List UInt8)) fun r3=>(oB (qfq ([]:List AV) ([]:List AV) ([]:List AV) (2:Int) (gB r2.cells 0) (gI r2.cells 1) (gI r2.cells 2) (gI r2.cells 3) (0:Int) ([]:List UInt8) ([]:List UInt8) (0:Int) (0:Int) (0:Int) ([]:List UInt8) false (0:Int) (0:Int) (0:Int) ([]:List UInt8)) fun r4=>(oB (qp5 ([]:List AV) ([]:List AV) ([]:List AV) (1:Int) (gB r1.cells 0) (gI r1.cells 1) (gI r1.cells 2) (gI r1.cells 3) (1:Int) ([110,101,116]:List UInt8) ([]:List UInt8) (0:Int) (0:Int) (0:Int) ([]:List UInt8) false (0:Int) (0:Int) (0:Int) ([]:List UInt8)) fun r5=>(bif(r3.2==0)then(bif(((gL r3.1.cells 0).length:Int)==1)then(oB (ixB (gL r3.1.cells 0) (0:Int)) fun y6=>(bif fitC qb y6.cells then(bif(((gB y6.cells 0)==(gB r1.cells 0))&&(((gI y6.cells 1)==(gI r1.cells 1))&&(((gI y6.cells 2)==(gI r1.cells 2))&&(((gI y6.cells 3)==(gI r1.cells 3))&&(((gI y6.cells 4)==1)&&(((gS y6.cells 5)==([110,101,116]:List UInt8))&&(((gS y6.cells 6)==([]:List UInt8))&&(((gI y6.cells 7)==0)&&true))))))))then(bif(r4.2==11)then(bif(r5.2==0)then(some (((gI r5.1.cells 0)==2)&&(((gB r5.1.cells 1)==(gB r2.cells 0))&&(((gI r5.1.cells 2)==(gI r2.cells 1))&&(((gI r5.1.cells 3)==(gI r2.cells 2))&&(((gI r5.1.cells 4)==(gI r2.cells 3))&&(((gI r5.1.cells 5)==0)&&(((gS r5.1.cells 6)==([]:List UInt8))&&(((gS r5.1.cells 7)==([]:List UInt8))&&(((gI r5.1.cells 8)==0)&&(((gI r5.1.cells 9)==0)&&(((gI r5.1.cells 10)==0)&&(((gS r5.1.cells 11)==([]:List UInt8))&&(((gB r5.1.cells 12)==false)&&(((gI r5.1.cells 13)==0)&&(((gI r5.1.cells 14)==0)&&(((gI r5.1.cells 15)==0)&&(((gS r5.1.cells 16)==([]:List UInt8))&&true))))))))))))))))))else(some false))else(some false))else(some false))else none))else(some false))else(some false)))))))
def qp6:=hull qmj
theorem qbbr:qp6=qmj:=qa _
def qym {R:Type}:EntF Tryz.prog R:=entB (nt:=64) (dec:=decB) (enc:=AV.bool) tabOk follows Tryz.func13 [.t 0] hdeB (.s .z (.s .z (.s (.r [(0,.c q1r.b)] []) (.s (.r [(0,.c q1r.b)] []) (.s (.r [(2,.k quq.b)] []) (.s (.r [(2,.k quq.b)] []) (.s (.r [(2,.c qbdq.b)] []) (.s (.d [] [(11,.e 45 qb)] [] []) .z)))))))) (⟨[],[]⟩:Shp) qmj (fun f v=>f)
def S91_:Shp:=⟨[(0,.one (.l (.sl 8))),(3,.one (.l (.i .i64))),(4,.one (.ptr 0 0)),(10,.one (.l (.sl 8))),(11,.one (.l (.i .i64))),(12,.one (.l (.i .i64)))],[.box true (lk qb)]⟩
def S92_:Shp:=⟨[(0,.one (.l (.sl 8))),(10,.one (.l (.sl 8))),(11,.one (.l (.i .i64))),(12,.one (.l (.i .i64)))],[]⟩
def S93_:Shp:=⟨[(0,.one (.l (.sl 8)))],[]⟩
def q6y (v0:LA)(v3:Int)(v10:LA)(v11 v12:Int)(Av:Bool)(Aw Ax Ay Az:Int)(A0 A1:LU)(A2:Int)(K:Ex->Env->Mem->Option Int):=(fun(_:Unit)=>K .norm (qk [(0,(.sl 8 v0)),(3,(.int .i64 v3)),(4,(.ptr 0 0)),(10,(.sl 8 v10)),(11,(.int .i64 v11)),(12,(.int .i64 v12))]) (qh [(some (.box true (qp Av Aw Ax Ay Az A0 A1 A2)))]))
def qkg (v0:LA)(v3:Int)(v10:LA)(v11 v12:Int)(Av:Bool)(Aw Ax Ay Az:Int)(A0 A1:LU)(A2:Int)(kn:Unit->Option Int):Option Int:=
 (bif(decide (v3>0))then(oB (ixB v0 (IntKind.i64.wrap (v3-1))) fun y1=>(bif fitC qb y1.cells then(oB (qpx Av Aw Ax Ay (gB y1.cells 0) (gI y1.cells 1) (gI y1.cells 2) (gI y1.cells 3)) fun r2=>(bif(decide (r2<0))then(some (7:Int))else(bif(r2==0)then(some (12:Int))else(kn ()))))else none))else(kn ()))
def qyn:=hull (qkg)
theorem q6z:qyn=qkg:=qa _
def q8l:SubB Tryz.prog (TIof Tryz.prog) 43 0 (kret [.t 2] (decI .i64)):=jnB tabOk follows Tryz.f57 11467 (.s .z (.s (.s (.d [] [(5,.e 29 qb)] [(0,.c qx9.b)] []) (.s .z (.s .z (.s .z (.v [.sel [0,3,4,10,11,12] [0]]))))) (.v [.sel [0,3,4,10,11,12] [0]]))) S91_ (qkg) (fun f v K=>f (v.l 0 0) (v.i 12 0) (v.l 40 0) (v.i 44 0) (v.i 48 0) (v.b 3 0) (v.i 3 1) (v.i 3 2) (v.i 3 3) (v.i 3 4) (v.s 3 5) (v.s 3 6) (v.i 3 7) (q6y (v.l 0 0) (v.i 12 0) (v.l 40 0) (v.i 44 0) (v.i 48 0) (v.b 3 0) (v.i 3 1) (v.i 3 2) (v.i 3 3) (v.i 3 4) (v.s 3 5) (v.s 3 6) (v.i 3 7) K))
def qth (K:Ex->Env->Mem->Option Int):=(fun(_:Unit)=>K (.exit 0) (qk []) (qh []))
def qhv (v0 v10:LA)(v11 v12:Int)(next:Int->Option Int)(kx0:Unit->Option Int):Option Int:=
 (bif(decide (v12<v11))then(oB (ixB v10 v12) fun y1=>(bif fitC qb y1.cells then(oB (qo3 (gB y1.cells 0) (gI y1.cells 1) (gI y1.cells 2) (gI y1.cells 3) (gI y1.cells 4) (gS y1.cells 5) (gS y1.cells 6) (gI y1.cells 7)) fun r2=>(bif(r2 != (0:Int))then(some r2)else(qyn v0 v12 v10 v11 v12 (gB y1.cells 0) (gI y1.cells 1) (gI y1.cells 2) (gI y1.cells 3) (gI y1.cells 4) (gS y1.cells 5) (gS y1.cells 6) (gI y1.cells 7) (fun(_:Unit)=>(oB (cutI v0 none (some v12)) fun s3=>(oB (qjh s3 (gB y1.cells 0) (gI y1.cells 1) (gI y1.cells 2) (gI y1.cells 3) (gI y1.cells 4) (gS y1.cells 5) (gS y1.cells 6) (gI y1.cells 7)) fun r4=>(bif r4 then(some (24:Int))else(next (IntKind.i64.wrap (v12+1))))))))))else none))else(kx0 ()))
def qhw (v0 v10:LA)(v11:Int)(kx0:Unit->Option Int):Nat->Int->Option Int
 |0=>(fun _=>none)
 |n+1=>(fun v12=>qhv v0 v10 v11 v12 (qhw v0 v10 v11 kx0 n) kx0)
def qyo:=hull (qhw)
theorem q60:qyo=qhw:=qa _
def q8m:SubB Tryz.prog (TIof Tryz.prog) 43 0 (kret [.t 2] (decI .i64)):=lpB tabOk follows Tryz.f57 75 (.s .z (.s (.s .z (.v [.sel [] []])) (.s (.b (.s (.r [(1,.p (.etac 15 qb))] []) (.s (.s (.r [(1,.c q1v.b)] []) .z) (.s (.sub [.sel [0,3,4,10,11,12] [0]] q8l []) (.s (.d [] [] [(0,.c qvv.b)] []) .z))))) (.v [.sel [0,10,11,12] []])))) S92_ (qhw) (fun f v K n=>f (v.l 0 0) (v.l 40 0) (v.i 44 0) (qth K) n) (fun v f K=>qhv (v.l 0 0) (v.l 40 0) (v.i 44 0) (v.i 48 0) f (qth K)) (fun f v=>f (v.i 48 0)) (fun k v=>(fun z0=>k (v.ui 48 0 z0)))
def qp7 (v0:LA):Option Int:=
 (bif(decide ((v0.length:Int)>512))then(some (9:Int))else(qyo v0 v0 (v0.length:Int) (fun(_:Unit)=>(some (0:Int))) FU (0:Int)))
def qyp:=hull qp7
theorem qbfa:qyp=qp7:=qa _
def qbho {R:Type}:EntF Tryz.prog R:=entB (nt:=43) (dec:=(decI .i64)) (enc:=(AV.int .i64)) tabOk follows Tryz.func57 [.t 2] hdeI (.s .z (.s .z (.s (.s .z (.b (.sub [.sel [0,10,11,12] []] q8m []))) .z))) S93_ qp7 (fun f v=>f (v.l 0 0))
def S94_:Shp:=⟨[(1,.one (.ptr 0 0)),(5,.one (.l (.i .i64))),(6,.one (.l .s)),(26,.one (.l (.sl 1))),(27,.one (.l (.i .i64))),(28,.one (.l (.i .i64)))],[.box true (lk qdu)]⟩
def S95_:Shp:=⟨[(1,.one (.ptr 0 0)),(26,.one (.l (.sl 1))),(27,.one (.l (.i .i64))),(28,.one (.l (.i .i64)))],[.box true (lk qdu)]⟩
def S96_:Shp:=⟨[(1,.one (.ptr 0 0)),(53,.one (.l (.sl 5))),(54,.one (.l (.i .i64))),(55,.one (.l (.i .i64)))],[.box true (lk qdu)]⟩
def q61 (v26:LA)(v27 v28:Int)(Av Aw Ax:LA)(K:Ex->Env->Mem->Option Int):=(fun z_v50=>K .norm (qk [(1,(.ptr 0 0)),(26,(.sl 1 v26)),(27,(.int .i64 v27)),(28,(.int .i64 v28)),(50,(.bool z_v50))]) (qh [(some (.box true (qdf Av Aw Ax)))]))
def qkh (v5:Int)(v6:LU)(v26:LA)(v27 v28:Int)(Av Aw Ax:LA)(kn:Bool->Option Int):Option Int:=
 (oB (qet v6) fun r1=>(bif(!r1)then(kn true)else(bif(decide (v5>0))then(oB (ixB Ax (IntKind.i64.wrap (v5-1))) fun y2=>(bif fitC [.s] y2.cells then(oB (qne (gS y2.cells 0) v6) fun r3=>(kn (decide (r3>=0))))else none))else(kn false))))
def qr3:=hull (qkh)
theorem q62:qr3=qkh:=qa _
def q8n:SubB Tryz.prog (TIof Tryz.prog) 71 0 (kret [.t 2] (decI .i64)):=jnB tabOk follows Tryz.f23 21295 (.r [(1,.c qgj.b),(11,.p (.etac 44 [.s])),(14,.c qtf.b)] [.sel [1,26,27,28,50] [0]]) S94_ (qkh) (fun f v K=>f (v.i 20 0) (v.s 24 0) (v.l 104 0) (v.i 108 0) (v.i 112 0) (v.l 3 0) (v.l 3 1) (v.l 3 2) (q61 (v.l 104 0) (v.i 108 0) (v.i 112 0) (v.l 3 0) (v.l 3 1) (v.l 3 2) K))
def qti (Av Aw Ax:LA)(K:Ex->Env->Mem->Option Int):=(fun(_:Unit)=>K (.exit 0) (qk [(1,(.ptr 0 0))]) (qh [(some (.box true (qdf Av Aw Ax)))]))
def qhx (v26:LA)(v27 v28:Int)(Av Aw Ax:LA)(next:Int->Option Int)(kx0:Unit->Option Int):Option Int:=
 (bif(decide (v28<v27))then(oB (ixB v26 v28) fun y1=>(bif fitC [.s] y1.cells then(qr3 v28 (gS y1.cells 0) v26 v27 v28 Av Aw Ax (fun v50q2=>(bif v50q2 then(some (2:Int))else(next (IntKind.i64.wrap (v28+1))))))else none))else(kx0 ()))
def qhy (v26:LA)(v27:Int)(Av Aw Ax:LA)(kx0:Unit->Option Int):Nat->Int->Option Int
 |0=>(fun _=>none)
 |n+1=>(fun v28=>qhx v26 v27 v28 Av Aw Ax (qhy v26 v27 Av Aw Ax kx0 n) kx0)
def qyq:=hull (qhy)
theorem q63:qyq=qhy:=qa _
def q8o:SubB Tryz.prog (TIof Tryz.prog) 71 0 (kret [.t 2] (decI .i64)):=lpB tabOk follows Tryz.f23 303 (.s .z (.s (.s .z (.v [.sel [1] [0]])) (.s (.b (.s (.r [(1,.p (.etac 31 [.s]))] []) (.s (.sub [.sel [1,5,6,26,27,28] [0]] q8n []) .z))) (.v [.sel [1,26,27,28] [0]])))) S95_ (qhy) (fun f v K n=>f (v.l 104 0) (v.i 108 0) (v.l 3 0) (v.l 3 1) (v.l 3 2) (qti (v.l 3 0) (v.l 3 1) (v.l 3 2) K) n) (fun v f K=>qhx (v.l 104 0) (v.i 108 0) (v.i 112 0) (v.l 3 0) (v.l 3 1) (v.l 3 2) f (qti (v.l 3 0) (v.l 3 1) (v.l 3 2) K)) (fun f v=>f (v.i 112 0)) (fun k v=>(fun z0=>k (v.ui 112 0 z0)))
def qtj (K:Ex->Env->Mem->Option Int):=(fun(_:Unit)=>K (.exit 2) (qk []) (qh []))
def qhz (v53:LA)(v54 v55:Int)(Av Aw Ax:LA)(next:Int->Option Int)(kx2:Unit->Option Int):Option Int:=
 (bif(decide (v55<v54))then(oB (ixB v53 v55) fun y1=>(bif fitC qj y1.cells then(oB (qj7 Av (gS y1.cells 0) (gB y1.cells 1) (gI y1.cells 2) (gI y1.cells 3) (gI y1.cells 4)) fun r2=>(bif(!r2)then(some (25:Int))else(oB (qlt Ax (gS y1.cells 0)) fun r3=>(bif(!r3)then(some (13:Int))else(next (IntKind.i64.wrap (v55+1)))))))else none))else(kx2 ()))
def qh0 (v53:LA)(v54:Int)(Av Aw Ax:LA)(kx2:Unit->Option Int):Nat->Int->Option Int
 |0=>(fun _=>none)
 |n+1=>(fun v55=>qhz v53 v54 v55 Av Aw Ax (qh0 v53 v54 Av Aw Ax kx2 n) kx2)
def qr4:=hull (qh0)
theorem q64:qr4=qh0:=qa _
def q8p:SubB Tryz.prog (TIof Tryz.prog) 71 0 (kret [.t 2] (decI .i64)):=lpB tabOk follows Tryz.f23 607 (.s .z (.s (.s .z (.v [.sel [] []])) (.s (.b (.s (.r [(0,.p (.etac 57 qj))] []) (.s (.s (.r [(3,.c qqr.b)] []) .z) (.s (.r [(4,.c qr1.b)] []) .z)))) (.v [.sel [1,53,54,55] [0]])))) S96_ (qh0) (fun f v K n=>f (v.l 212 0) (v.i 216 0) (v.l 3 0) (v.l 3 1) (v.l 3 2) (qtj K) n) (fun v f K=>qhz (v.l 212 0) (v.i 216 0) (v.i 220 0) (v.l 3 0) (v.l 3 1) (v.l 3 2) f (qtj K)) (fun f v=>f (v.i 220 0)) (fun k v=>(fun z0=>k (v.ui 220 0 z0)))
def qp8 (Aa Ab Ac:LA):Option Int:=
 (oB (qyp Aa) fun r1=>(bif(r1 != (0:Int))then(some r1)else(oB (qrl Ab) fun r2=>(bif(r2 != (0:Int))then(some r2)else(bif(decide ((Ac.length:Int)>32))then(some (9:Int))else(qyq Ac (Ac.length:Int) Aa Ab Ac (fun(_:Unit)=>(qr4 Ab (Ab.length:Int) Aa Ab Ac (fun(_:Unit)=>(some (0:Int))) FU (0:Int))) FU (0:Int)))))))
def qyr:=hull qp8
theorem qbfb:qyr=qp8:=qa _
def qbhp {R:Type}:EntF Tryz.prog R:=entB (nt:=71) (dec:=(decI .i64)) (enc:=(AV.int .i64)) tabOk follows Tryz.func23 [.t 2] hdeI (.s .z (.s (.s (.r [(2,.c qbho.b)] []) .z) (.s (.s (.r [(2,.c q0d.b)] []) .z) (.s .z (.s (.s .z (.b (.sub [.sel [1,26,27,28] [0]] q8o []))) (.s (.s .z (.b (.sub [.sel [1,53,54,55] [0]] q8p []))) .z)))))) S4_ qp8 (fun f v=>f (v.l 1 0) (v.l 1 1) (v.l 1 2))
def qmk (Aa:Bool)(Ab Ac:Int):Option Bool:=
 (bif Aa then(some true)else(bif(Ab==0)then(some (decide (Ac<4294967296)))else(some false)))
def qje:=hull qmk
theorem qbbs:qje=qmk:=qa _
def qml {R:Type}:EntF Tryz.prog R:=entB (nt:=15) (dec:=decB) (enc:=AV.bool) tabOk follows Tryz.func80 [.t 2] hdeB (.z) S5_ qmk (fun f v=>f (v.b 1 0) (v.i 1 1) (v.i 1 2))
def S97_:Shp:=⟨[(0,.one (.l .b))],[]⟩
def qon (v0:Bool):Option Int:=
 (bif v0 then(some (128:Int))else(some (32:Int)))
def qj1:=hull qon
theorem qbdr:qj1=qon:=qa _
def qoo {R:Type}:EntF Tryz.prog R:=entB (nt:=4) (dec:=(decI .i64)) (enc:=(AV.int .i64)) tabOk follows Tryz.func130 [.t 2] hdeI (.z) S97_ qon (fun f v=>f (v.b 0 0))
def S98_:Shp:=⟨[(0,.one (.l (.i .i64))),(4,.one (.l (.i .u64))),(5,.one (.l (.i .u64))),(6,.one (.l (.i .i64)))],[]⟩
def qxd:AV->Option (Int×Int):=decN [(.one (.i .u64)),(.one (.i .u64))] fun z=>(aI (gC (tpL z) 0),aI (gC (tpL z) 1))
def qtk (K:Ex->Env->Mem->Option (Int×Int)):=(fun z_v4 z_v5=>K (.exit 0) (qk [(4,(.int .u64 z_v4)),(5,(.int .u64 z_v5))]) (qh []))
def qki (v0 v4 v5 v6:Int)(next:Int->Int->Int->Option (Int×Int))(kx0:Int->Int->Option (Int×Int)):Option (Int×Int):=
 (bif((decide (v6<v0))&&(decide (v6<128)))then(next (IntKind.u64.wrap ((IntKind.u64.wrap (v4*2))+(IntKind.u64.wrap (v5.tdiv (9223372036854775808:Int))))) (IntKind.u64.wrap ((IntKind.u64.wrap (v5*2))+1)) (IntKind.i64.wrap (v6+1)))else(kx0 v4 v5))
def qh1 (v0:Int)(kx0:Int->Int->Option (Int×Int)):Nat->Int->Int->Int->Option (Int×Int)
 |0=>(fun _ _ _=>none)
 |n+1=>(fun v4 v5 v6=>qki v0 v4 v5 v6 (qh1 v0 kx0 n) kx0)
def qys:=hull (qh1)
theorem q65:qys=qh1:=qa _
def q8q:SubB Tryz.prog (TIof Tryz.prog) 26 0 (kret [.t 2,.t 3] qxd):=lpB tabOk follows Tryz.f131 75 (.s (.s (.r [(4,.g 2)] []) (.s .z (.v [.sel [4,5] []]))) (.s .z (.v [.sel [0,4,5,6] []]))) S98_ (qh1) (fun f v K n=>f (v.i 0 0) (qtk K) n) (fun v f K=>qki (v.i 0 0) (v.i 16 0) (v.i 20 0) (v.i 24 0) f (qtk K)) (fun f v=>f (v.i 16 0) (v.i 20 0) (v.i 24 0)) (fun k v=>(fun z0 z1 z2=>k (((v.ui 16 0 z0).ui 20 0 z1).ui 24 0 z2)))
def qop (v0:Int):Option (Int×Int):=
 (qys v0 (fun v4q1 v5q2=>(some (v4q1,v5q2))) FU (0:Int) (0:Int) (0:Int))
def qro:=hull qop
theorem qbds:qro=qop:=qa _
def q0e {R:Type}:EntF Tryz.prog R:=entB (nt:=26) (dec:=qxd) (enc:=(fun r=>.tup [.int .u64 r.1,.int .u64 r.2])) tabOk follows Tryz.func131 [.t 2,.t 3] (hdeN fun _=>rfl) (.s .z (.s .z (.s (.s .z (.b (.sub [.sel [0,4,5,6] []] q8q []))) .z))) S1_ qop (fun f v=>f (v.i 0 0))
def q39 (Av:Bool)(Aw Ax Ay:Int)(K:Ex->Env->Mem->Option Bool):=(fun z_v22=>K .norm (qk [(1,(.ptr 0 0)),(22,(.bool z_v22))]) (qh [(some (.box true (qd Av Aw Ax Ay)))]))
def qjs (Av:Bool)(Aw Ax Ay:Int)(kn:Bool->Option Bool):Option Bool:=
 (oB (qje Av Aw Ax) fun r1=>(bif(!r1)then(kn true)else(bif(decide (Ay<0))then(kn true)else(oB (qj1 Av) fun r2=>(kn (decide (Ay>r2)))))))
def qxe:=hull (qjs)
theorem q4a:qxe=qjs:=qa _
def q66:SubB Tryz.prog (TIof Tryz.prog) 48 0 (kret [.t 2] decB):=jnB tabOk follows Tryz.f75 9 (.d [] [(2,.c qml.b),(15,.c qoo.b)] [] [.sel [1,22] [0]]) S7_ (qjs) (fun f v K=>f (v.b 3 0) (v.i 3 1) (v.i 3 2) (v.i 3 3) (q39 (v.b 3 0) (v.i 3 1) (v.i 3 2) (v.i 3 3) K))
def qmm (Aa:Bool)(Ab Ac Bt:Int):Option Bool:=
 (qxe Aa Ab Ac Bt (fun v22q1=>(bif v22q1 then(some false)else(oB (qj1 Aa) fun r2=>(oB (qro (IntKind.i64.wrap (r2-Bt))) fun r3=>(some (((qbh .and .u64 Ab r3.1)==0)&&((qbh .and .u64 Ac r3.2)==0))))))))
def qlu:=hull qmm
theorem qbbt:qlu=qmm:=qa _
def qr5 {R:Type}:EntF Tryz.prog R:=entB (nt:=48) (dec:=decB) (enc:=AV.bool) tabOk follows Tryz.func75 [.t 2] hdeB (.s .z (.s (.s (.sub [.sel [1] [0]] q66 []) .z) (.s (.d [] [(3,.c qoo.b),(7,.c q0e.b)] [] []) (.s (.r [(7,.g 6)] []) .z)))) S8_ qmm (fun f v=>f (v.b 1 0) (v.i 1 1) (v.i 1 2) (v.i 1 3))
def qmn (Aa:Bool)(Ab Ac Bt:Int):Option Int:=
 (bif Aa then(some (128:Int))else(some (32:Int)))
def qur:=hull qmn
theorem qbbu:qur=qmn:=qa _
def qbdt {R:Type}:EntF Tryz.prog R:=entB (nt:=6) (dec:=(decI .i64)) (enc:=(AV.int .i64)) tabOk follows Tryz.func132 [.t 2] hdeI (.z) S8_ qmn (fun f v=>f (v.b 1 0) (v.i 1 1) (v.i 1 2) (v.i 1 3))
def S99_:Shp:=⟨[(0,.one (.l .s)),(3,.one (.l (.i .i64)))],[]⟩
def qoq (K:Ex->Env->Mem->Option Bool):=(fun(_:Unit)=>K (.exit 0) (qk []) (qh []))
def qei (v0:LU)(v3:Int)(next:Int->Option Bool)(kx0:Unit->Option Bool):Option Bool:=
 (bif(decide (v3<(v0.length:Int)))then(oB (ixB v0 v3) fun c1=>(bif(decide ((c1.toNat:Int)<33))then(some false)else(oB (ixB v0 v3) fun c2=>(bif(decide ((c2.toNat:Int)>126))then(some false)else(next (IntKind.i64.wrap (v3+1)))))))else(kx0 ()))
def qej (v0:LU)(kx0:Unit->Option Bool):Nat->Int->Option Bool
 |0=>(fun _=>none)
 |n+1=>(fun v3=>qei v0 v3 (qej v0 kx0 n) kx0)
def qsj:=hull (qej)
theorem qyt:qsj=qej:=qa _
def qzw:SubB Tryz.prog (TIof Tryz.prog) 20 0 (kret [.t 2] decB):=lpB tabOk follows Tryz.f133 37 (.s (.s .z (.s .z (.v [.sel [] []]))) (.s .z (.v [.sel [0,3] []]))) S99_ (qej) (fun f v K n=>f (v.s 0 0) (qoq K) n) (fun v f K=>qei (v.s 0 0) (v.i 12 0) f (qoq K)) (fun f v=>f (v.i 12 0)) (fun k v=>(fun z0=>k (v.ui 12 0 z0)))
def qiw (v0:LU):Option Bool:=
 (qsj v0 (fun(_:Unit)=>(some true)) FU (0:Int))
def qkj:=hull qiw
theorem q2c:qkj=qiw:=qa _
def qtl {R:Type}:EntF Tryz.prog R:=entB (nt:=20) (dec:=decB) (enc:=AV.bool) tabOk follows Tryz.func133 [.t 2] hdeB (.s .z (.s (.s .z (.b (.sub [.sel [0,3] []] qzw []))) .z)) S69_ qiw (fun f v=>f (v.s 0 0))
def q8r (Av:Bool)(Aw Ax Ay Az:Int)(A0 A1:LU)(A2:Int)(K:Ex->Env->Mem->Option Bool):=(fun z_v24=>K .norm (qk [(1,(.ptr 0 0)),(24,(.bool z_v24))]) (qh [(some (.box true (qp Av Aw Ax Ay Az A0 A1 A2)))]))
def qlg (Av:Bool)(Aw Ax Ay Az:Int)(A0 A1:LU)(A2:Int)(kn:Bool->Option Bool):Option Bool:=
 (bif(decide (Az<1))then(kn true)else(bif(decide (Az>3))then(kn true)else(bif(Az==3)then(oB (qur Av Aw Ax Ay) fun r1=>(kn (Ay != r1)))else(kn false))))
def q0f:=hull (qlg)
theorem q8s:q0f=qlg:=qa _
def qbbv:SubB Tryz.prog (TIof Tryz.prog) 61 0 (kret [.t 2] decB):=jnB tabOk follows Tryz.f76 9 (.d [] [(18,.c qbdt.b)] [] [.sel [1,24] [0]]) S11_ (qlg) (fun f v K=>f (v.b 3 0) (v.i 3 1) (v.i 3 2) (v.i 3 3) (v.i 3 4) (v.s 3 5) (v.s 3 6) (v.i 3 7) (q8r (v.b 3 0) (v.i 3 1) (v.i 3 2) (v.i 3 3) (v.i 3 4) (v.s 3 5) (v.s 3 6) (v.i 3 7) K))
def qp9 (Aa:Bool)(Ab Ac Bt Bu:Int)(Bv Bw:LU)(Bx:Int):Option Bool:=
 (q0f Aa Ab Ac Bt Bu Bv Bw Bx (fun v24q1=>(bif v24q1 then(some false)else(bif((decide ((Bv.length:Int)>=1))&&(decide ((Bv.length:Int)<=63)))then(oB (qkj Bv) fun r2=>(bif(r2&&(decide ((Bw.length:Int)<=32)))then(oB (qkj Bw) fun r3=>(some ((r3&&(decide (Bx>=0)))&&(decide (Bx<=4294967295)))))else(some false)))else(some false)))))
def qyu:=hull qp9
theorem qbfc:qyu=qp9:=qa _
def qbhq {R:Type}:EntF Tryz.prog R:=entB (nt:=61) (dec:=decB) (enc:=AV.bool) tabOk follows Tryz.func76 [.t 2] hdeB (.s .z (.s (.s (.sub [.sel [1] [0]] qbbv []) .z) (.s (.r [(5,.g 4),(13,.c qtl.b),(16,.g 4),(24,.c qtl.b),(27,.g 3),(32,.g 3)] []) .z))) S12_ qp9 (fun f v=>f (v.b 1 0) (v.i 1 1) (v.i 1 2) (v.i 1 3) (v.i 1 4) (v.s 1 5) (v.s 1 6) (v.i 1 7))
def qkk (Aa:Bool)(Ab Ac:Int)(B7:Bool)(B8 B9:Int):Option Int:=
 (bif(!((Aa==B7)&&true))then(bif B7 then(some (-1:Int))else(some (1:Int)))else(bif(Ab != B8)then(bif(decide (Ab<B8))then(some (-1:Int))else(some (1:Int)))else(bif(decide (Ac<B9))then(some (-1:Int))else(bif(decide (Ac>B9))then(some (1:Int))else(some (0:Int))))))
def qmo:=hull qkk
theorem q67:qmo=qkk:=qa _
def qv0 {R:Type}:EntF Tryz.prog R:=entB (nt:=32) (dec:=(decI .i64)) (enc:=(AV.int .i64)) tabOk follows Tryz.func134 [.t 4] hdeI (.z) S29_ qkk (fun f v=>f (v.b 1 0) (v.i 1 1) (v.i 1 2) (v.b 5 0) (v.i 5 1) (v.i 5 2))
def qkl (Aa:Bool)(Ab Ac Bt:Int)(B7:Bool)(B8 B9 Ca:Int):Option Int:=
 (oB (qmo Aa Ab Ac B7 B8 B9) fun r1=>(bif(r1 != (0:Int))then(some r1)else(bif(decide (Bt<Ca))then(some (-1:Int))else(bif(decide (Bt>Ca))then(some (1:Int))else(some (0:Int))))))
def qr6:=hull qkl
theorem q68:qr6=qkl:=qa _
def q8t {R:Type}:EntF Tryz.prog R:=entB (nt:=24) (dec:=(decI .i64)) (enc:=(AV.int .i64)) tabOk follows Tryz.func77 [.t 4] hdeI (.s .z (.s (.r [(4,.c qv0.b)] []) .z)) S20_ qkl (fun f v=>f (v.b 1 0) (v.i 1 1) (v.i 1 2) (v.i 1 3) (v.b 5 0) (v.i 5 1) (v.i 5 2) (v.i 5 3))
def q0g:AV->Option (AV×Bool):=decN [(.st [.b,(.i .u64),(.i .u64),(.i .i64)]),(.one .b)] fun z=>((gC (tpL z) 0),aB (gC (tpL z) 1))
def qbbw (v1:Int)(Av:Bool)(Aw Ax:Int)(Ad:Bool)(Ae Af Ag:Int)(K:Ex->Env->Mem->Option (AV×Bool)):=(fun z_v22=>K .norm (qk [(1,(.int .i64 v1)),(2,(.ptr 0 0)),(4,(.ptr 1 0)),(22,(.bool z_v22))]) (qh [(some (.box true (qge Av Aw Ax))),(some (.box true (qd Ad Ae Af Ag)))]))
def qmp (v1:Int)(Av:Bool)(Aw Ax:Int)(Ad:Bool)(Ae Af Ag:Int)(kn:Bool->Option (AV×Bool)):Option (AV×Bool):=
 (oB (qje Av Aw Ax) fun r1=>(bif((!r1)||(decide (v1<0)))then(kn true)else(oB (qj1 Av) fun r2=>(kn (decide (v1>r2))))))
def q2d:=hull (qmp)
theorem qbbx:q2d=qmp:=qa _
def qbdu:SubB Tryz.prog (TIof Tryz.prog) 53 0 (kret [(.cell 4 true 4),.t 5] q0g):=jnB tabOk follows Tryz.f176 9 (.r [(1,.c qml.b),(4,.g 2),(11,.c qoo.b)] [.sel [1,2,4,22] [0,1]]) S17_ (qmp) (fun f v K=>f (v.i 4 0) (v.b 3 0) (v.i 3 1) (v.i 3 2) (v.b 7 0) (v.i 7 1) (v.i 7 2) (v.i 7 3) (qbbw (v.i 4 0) (v.b 3 0) (v.i 3 1) (v.i 3 2) (v.b 7 0) (v.i 7 1) (v.i 7 2) (v.i 7 3) K))
def qrp (Aa:Bool)(Ab Ac v1:Int):Option (AV×Bool):=
 (q2d v1 Aa Ab Ac false (0:Int) (0:Int) (0:Int) (fun v22q1=>(bif v22q1 then(some ((.agg [(.bool false),(.int .u64 (0:Int)),(.int .u64 (0:Int)),(.int .i64 (0:Int))]),false))else(oB (qj1 Aa) fun r2=>(oB (qro (IntKind.i64.wrap (r2-v1))) fun r3=>(some ((.agg [(.bool Aa),(.int .u64 (IntKind.u64.wrap (Ab-(qbh .and .u64 Ab r3.1)))),(.int .u64 (IntKind.u64.wrap (Ac-(qbh .and .u64 Ac r3.2)))),(.int .i64 v1)]),true)))))))
def q1h:=hull qrp
theorem qbhr:q1h=qrp:=qa _
def qbkk {R:Type}:EntF Tryz.prog R:=entB (nt:=53) (dec:=q0g) (enc:=(fun r=>.tup [qd4 (.st [.b,(.i .u64),(.i .u64),(.i .i64)]) r.1,.bool r.2])) tabOk follows Tryz.func176 [(.cell 4 true 4),.t 5] (hdeN fun _=>rfl) (.s .z (.s (.s (.sub [.sel [1,2,4] [0,1]] qbdu []) .z) (.s (.r [(2,.c qoo.b),(5,.c q0e.b)] []) .z))) S18_ qrp (fun f v=>f (v.b 1 0) (v.i 1 1) (v.i 1 2) (v.i 4 0))
def S100_:Shp:=⟨[(2,.one (.ptr 0 0)),(3,.one (.ptr 1 0))],[.box true (lk qe),.box true (lk qee)]⟩
def qzx (Av:Bool)(Aw Ax Ay:Int)(Ad:Bool)(Ae Af:Int)(K:Ex->Env->Mem->Option Bool):=(fun z_v22=>K .norm (qk [(2,(.ptr 0 0)),(3,(.ptr 1 0)),(22,(.bool z_v22))]) (qh [(some (.box true (qd Av Aw Ax Ay))),(some (.box true (qge Ad Ae Af)))]))
def qhh (Av:Bool)(Aw Ax Ay:Int)(Ad:Bool)(Ae Af:Int)(kn:Bool->Option Bool):Option Bool:=
 (oB (qlu Av Aw Ax Ay) fun r1=>(bif(!r1)then(kn true)else(oB (qje Ad Ae Af) fun r2=>(kn ((!r2)||(!((Av==Ad)&&true)))))))
def qtm:=hull (qhh)
theorem qzy:qtm=qhh:=qa _
def q1i:SubB Tryz.prog (TIof Tryz.prog) 33 0 (kret [.t 4] decB):=jnB tabOk follows Tryz.f129 9 (.r [(1,.c qr5.b),(5,.c qml.b),(9,.g 6)] [.sel [2,3,22] [0,1]]) S100_ (qhh) (fun f v K=>f (v.b 3 0) (v.i 3 1) (v.i 3 2) (v.i 3 3) (v.b 7 0) (v.i 7 1) (v.i 7 2) (qzx (v.b 3 0) (v.i 3 1) (v.i 3 2) (v.i 3 3) (v.b 7 0) (v.i 7 1) (v.i 7 2) K))
def qjt (Aa:Bool)(Ab Ac Bt:Int)(B7:Bool)(B8 B9:Int):Option Bool:=
 (qtm Aa Ab Ac Bt B7 B8 B9 (fun v22q1=>(bif v22q1 then(some false)else(oB (q1h B7 B8 B9 Bt) fun r2=>(some (((gB r2.1.cells 0)==Aa)&&(((gI r2.1.cells 1)==Ab)&&(((gI r2.1.cells 2)==Ac)&&(((gI r2.1.cells 3)==Bt)&&true)))))))))
def qlh:=hull qjt
theorem q4b:qlh=qjt:=qa _
def quf {R:Type}:EntF Tryz.prog R:=entB (nt:=33) (dec:=decB) (enc:=AV.bool) tabOk follows Tryz.func129 [.t 4] hdeB (.s .z (.s (.s (.sub [.sel [2,3] [0,1]] q1i []) .z) (.s (.r [(3,.c qbkk.b)] []) .z))) S19_ qjt (fun f v=>f (v.b 1 0) (v.i 1 1) (v.i 1 2) (v.i 1 3) (v.b 5 0) (v.i 5 1) (v.i 5 2))
def qli (Aa:Bool)(Ab Ac Bt:Int)(B7:Bool)(B8 B9 Ca:Int):Option Bool:=
 (oB (qlu Aa Ab Ac Bt) fun r1=>(bif(r1&&(decide (Bt>=Ca)))then(oB (qlh B7 B8 B9 Ca Aa Ab Ac) fun r2=>(some r2))else(some false)))
def qtn:=hull qli
theorem q8u:qtn=qli:=qa _
def qbby {R:Type}:EntF Tryz.prog R:=entB (nt:=20) (dec:=decB) (enc:=AV.bool) tabOk follows Tryz.func128 [.t 4] hdeB (.s .z (.s (.r [(1,.c qr5.b),(3,.g 5),(13,.c quf.b)] []) .z)) S20_ qli (fun f v=>f (v.b 1 0) (v.i 1 1) (v.i 1 2) (v.i 1 3) (v.b 5 0) (v.i 5 1) (v.i 5 2) (v.i 5 3))
def qrq (Aa:Bool)(Ab Ac Bt:Int)(B7:Bool)(B8 B9 Ca:Int):Option Bool:=
 (oB (qtn Aa Ab Ac Bt B7 B8 B9 Ca) fun r1=>(some (r1&&(decide (Bt>Ca)))))
def qbcb:=hull qrq
theorem qbhs:qbcb=qrq:=qa _
def qbkl {R:Type}:EntF Tryz.prog R:=entB (nt:=15) (dec:=decB) (enc:=AV.bool) tabOk follows Tryz.func103 [.t 4] hdeB (.s .z (.s (.r [(2,.c qbby.b),(4,.g 5)] []) .z)) S20_ qrq (fun f v=>f (v.b 1 0) (v.i 1 1) (v.i 1 2) (v.i 1 3) (v.b 5 0) (v.i 5 1) (v.i 5 2) (v.i 5 3))
def qlj (Aa:Bool)(Ab Ac Bt Bu:Int)(Bv Bw:LU)(Bx:Int)(B7:Bool)(B8 B9 Ca Cb:Int)(Cc Cd:LU)(Ce:Int):Option Bool:=
 (oB (qbcb Aa Ab Ac Bt B7 B8 B9 Ca) fun r1=>(bif r1 then(bif(Cb==3)then(some true)else(bif(Cb==2)then(some (Bu != (3:Int)))else(some false)))else(some false)))
def qto:=hull qlj
theorem q8v:qto=qlj:=qa _
def qbbz {R:Type}:EntF Tryz.prog R:=entB (nt:=25) (dec:=decB) (enc:=AV.bool) tabOk follows Tryz.func78 [.t 4] hdeB (.s .z (.s (.r [(4,.c qbkl.b)] []) .z)) S21_ qlj (fun f v=>f (v.b 1 0) (v.i 1 1) (v.i 1 2) (v.i 1 3) (v.i 1 4) (v.s 1 5) (v.s 1 6) (v.i 1 7) (v.b 5 0) (v.i 5 1) (v.i 5 2) (v.i 5 3) (v.i 5 4) (v.s 5 5) (v.s 5 6) (v.i 5 7))
def S101_:Shp:=⟨[(0,.one (.l (.sl 8))),(3,.one (.l (.i .i64)))],[]⟩
def S102_:Shp:=⟨[(0,.one (.l (.sl 8))),(3,.one (.l (.i .i64))),(4,.one (.l (.i .i64)))],[]⟩
def q2e (v0:LA)(v3:Int)(K:Ex->Env->Mem->Option Int):=(fun z_v43=>K .norm (qk [(0,(.sl 8 v0)),(3,(.int .i64 v3)),(43,(.bool z_v43))]) (qh []))
def qix (v0:LA)(v3:Int)(kn:Bool->Option Int):Option Int:=
 (bif(decide (v3>0))then(oB (ixB v0 (IntKind.i64.wrap (v3-1))) fun y1=>(bif fitC qb y1.cells then(oB (ixB v0 v3) fun y2=>(bif fitC qb y2.cells then(oB (qr6 (gB y1.cells 0) (gI y1.cells 1) (gI y1.cells 2) (gI y1.cells 3) (gB y2.cells 0) (gI y2.cells 1) (gI y2.cells 2) (gI y2.cells 3)) fun r3=>(kn (decide (r3>0))))else none))else none))else(kn false))
def qv1:=hull (qix)
theorem q2f:qv1=qix:=qa _
def q4c:SubB Tryz.prog (TIof Tryz.prog) 74 0 (kret [.t 2] (decI .i64)):=jnB tabOk follows Tryz.f28 9803 (.d [] [(6,.e 33 qb),(11,.e 38 qb)] [(0,.c q8t.b)] [.sel [0,3,43] []]) S101_ (qix) (fun f v K=>f (v.l 0 0) (v.i 12 0) (q2e (v.l 0 0) (v.i 12 0) K))
def q2g (v0:LA)(v3:Int)(K:Ex->Env->Mem->Option Int):=(fun z_v59=>K .norm (qk [(0,(.sl 8 v0)),(3,(.int .i64 v3)),(59,(.bool z_v59))]) (qh []))
def qiy (v0:LA)(v3:Int)(kn:Bool->Option Int):Option Int:=
 (bif(decide (v3>0))then(oB (ixB v0 (IntKind.i64.wrap (v3-1))) fun y1=>(bif fitC qb y1.cells then(oB (ixB v0 v3) fun y2=>(bif fitC qb y2.cells then(kn (((gB y1.cells 0)==(gB y2.cells 0))&&(((gI y1.cells 1)==(gI y2.cells 1))&&(((gI y1.cells 2)==(gI y2.cells 2))&&(((gI y1.cells 3)==(gI y2.cells 3))&&true)))))else none))else none))else(kn false))
def qv2:=hull (qiy)
theorem q2h:qv2=qiy:=qa _
def q4d:SubB Tryz.prog (TIof Tryz.prog) 74 0 (kret [.t 2] (decI .i64)):=jnB tabOk follows Tryz.f28 20043 (.d [] [(6,.e 50 qb),(11,.e 55 qb)] [] [.sel [0,3,59] []]) S101_ (qiy) (fun f v K=>f (v.l 0 0) (v.i 12 0) (q2g (v.l 0 0) (v.i 12 0) K))
def qqz (v0:LA)(v3:Int)(K:Ex->Env->Mem->Option Int):=(fun(_:Unit)=>K (.exit 2) (qk [(0,(.sl 8 v0)),(3,(.int .i64 v3))]) (qh []))
def qfr (v0:LA)(v3 v4:Int)(next:Int->Option Int)(kx2:Unit->Option Int):Option Int:=
 (bif(decide (v4<v3))then(oB (ixB v0 v3) fun y1=>(bif fitC qb y1.cells then(oB (ixB v0 v4) fun y2=>(bif fitC qb y2.cells then(oB (qto (gB y1.cells 0) (gI y1.cells 1) (gI y1.cells 2) (gI y1.cells 3) (gI y1.cells 4) (gS y1.cells 5) (gS y1.cells 6) (gI y1.cells 7) (gB y2.cells 0) (gI y2.cells 1) (gI y2.cells 2) (gI y2.cells 3) (gI y2.cells 4) (gS y2.cells 5) (gS y2.cells 6) (gI y2.cells 7)) fun r3=>(bif r3 then(some (24:Int))else(next (IntKind.i64.wrap (v4+1)))))else none))else none))else(kx2 ()))
def qfs (v0:LA)(v3:Int)(kx2:Unit->Option Int):Nat->Int->Option Int
 |0=>(fun _=>none)
 |n+1=>(fun v4=>qfr v0 v3 v4 (qfs v0 v3 kx2 n) kx2)
def qpb:=hull (qfs)
theorem q2i:qpb=qfs:=qa _
def q4e:SubB Tryz.prog (TIof Tryz.prog) 74 0 (kret [.t 2] (decI .i64)):=lpB tabOk follows Tryz.f28 81483 (.s (.s .z (.s .z (.v [.sel [0,3] []]))) (.s (.b (.s (.d [] [(2,.e 67 qb),(6,.e 71 qb)] [(0,.c qbbz.b)] []) .z)) (.v [.sel [0,3,4] []]))) S102_ (qfs) (fun f v K n=>f (v.l 0 0) (v.i 12 0) (qqz (v.l 0 0) (v.i 12 0) K) n) (fun v f K=>qfr (v.l 0 0) (v.i 12 0) (v.i 16 0) f (qqz (v.l 0 0) (v.i 12 0) K)) (fun f v=>f (v.i 16 0)) (fun k v=>(fun z0=>k (v.ui 16 0 z0)))
def qq0 (K:Ex->Env->Mem->Option Int):=(fun(_:Unit)=>K (.exit 0) (qk []) (qh []))
def qft (v0:LA)(v3:Int)(next:Int->Option Int)(kx0:Unit->Option Int):Option Int:=
 (bif(decide (v3<(v0.length:Int)))then(oB (ixB v0 v3) fun y1=>(bif fitC qb y1.cells then(oB (qlu (gB y1.cells 0) (gI y1.cells 1) (gI y1.cells 2) (gI y1.cells 3)) fun r2=>(bif(!r2)then(some (3:Int))else(oB (ixB v0 v3) fun y3=>(bif fitC qb y3.cells then(oB (qyu (gB y3.cells 0) (gI y3.cells 1) (gI y3.cells 2) (gI y3.cells 3) (gI y3.cells 4) (gS y3.cells 5) (gS y3.cells 6) (gI y3.cells 7)) fun r4=>(bif(!r4)then(some (1:Int))else(qv1 v0 v3 (fun v43q5=>(bif v43q5 then(some (7:Int))else(qv2 v0 v3 (fun v59q6=>(bif v59q6 then(some (12:Int))else(qpb v0 v3 (fun(_:Unit)=>(next (IntKind.i64.wrap (v3+1)))) FU (0:Int))))))))))else none))))else none))else(kx0 ()))
def qfu (v0:LA)(kx0:Unit->Option Int):Nat->Int->Option Int
 |0=>(fun _=>none)
 |n+1=>(fun v3=>qft v0 v3 (qfu v0 kx0 n) kx0)
def qv3:=hull (qfu)
theorem q2j:qv3=qfu:=qa _
def q4f:SubB Tryz.prog (TIof Tryz.prog) 74 0 (kret [.t 2] (decI .i64)):=lpB tabOk follows Tryz.f28 75 (.s (.s .z (.s .z (.v [.sel [] []]))) (.s (.b (.s (.s (.r [(2,.p (.etac 16 qb)),(5,.c qr5.b)] []) .z) (.s (.s (.r [(2,.p (.etac 23 qb)),(4,.c qbhq.b)] []) .z) (.s (.s (.sub [.sel [0,3] []] q4c []) .z) (.s (.s (.sub [.sel [0,3] []] q4d []) .z) (.s .z (.b (.sub [.sel [0,3,4] []] q4e [])))))))) (.v [.sel [0,3] []]))) S101_ (qfu) (fun f v K n=>f (v.l 0 0) (qq0 K) n) (fun v f K=>qft (v.l 0 0) (v.i 12 0) f (qq0 K)) (fun f v=>f (v.i 12 0)) (fun k v=>(fun z0=>k (v.ui 12 0 z0)))
def qmq (v0:LA):Option Int:=
 (bif(decide ((v0.length:Int)>512))then(some (9:Int))else(qv3 v0 (fun(_:Unit)=>(some (0:Int))) FU (0:Int)))
def qus:=hull qmq
theorem qbb0:qus=qmq:=qa _
def qbdv {R:Type}:EntF Tryz.prog R:=entB (nt:=74) (dec:=(decI .i64)) (enc:=(AV.int .i64)) tabOk follows Tryz.func28 [.t 2] hdeI (.s .z (.s .z (.s (.s .z (.b (.sub [.sel [0,3] []] q4f []))) .z))) S93_ qmq (fun f v=>f (v.l 0 0))
def S103_:Shp:=⟨[(0,.one (.l .s)),(3,.one (.l (.i .i64))),(4,.one (.l (.i .u8)))],[]⟩
def qzz (v0:LU)(v3:Int)(K:Ex->Env->Mem->Option Bool):=(fun z_v46=>K .norm (qk [(0,(.str v0)),(3,(.int .i64 v3)),(46,(.bool z_v46))]) (qh []))
def qhi (v0:LU)(v3 v4:Int)(kn:Bool->Option Bool):Option Bool:=
 (bif((decide (v4>=97))&&(decide (v4<=122)))then(kn false)else(bif(decide (v4>=48))then(kn (!(((decide (v4<=57))||(v4==45))||(v4==95))))else(kn (!((v4==45)||(v4==95))))))
def qmr:=hull (qhi)
theorem qz0:qmr=qhi:=qa _
def q1j:SubB Tryz.prog (TIof Tryz.prog) 47 0 (kret [.t 2] decB):=jnB tabOk follows Tryz.f136 5271 (.r [(3,.g 2),(15,.g 2),(19,.g 2)] [.sel [0,3,46] []]) S103_ (qhi) (fun f v K=>f (v.s 0 0) (v.i 12 0) (v.i 16 0) (qzz (v.s 0 0) (v.i 12 0) K))
def qpc (K:Ex->Env->Mem->Option Bool):=(fun(_:Unit)=>K (.exit 0) (qk []) (qh []))
def qev (v0:LU)(v3:Int)(next:Int->Option Bool)(kx0:Unit->Option Bool):Option Bool:=
 (bif(decide (v3<(v0.length:Int)))then(oB (ixB v0 v3) fun c1=>(qmr v0 v3 (c1.toNat:Int) (fun v46q2=>(bif v46q2 then(some false)else(next (IntKind.i64.wrap (v3+1)))))))else(kx0 ()))
def qew (v0:LU)(kx0:Unit->Option Bool):Nat->Int->Option Bool
 |0=>(fun _=>none)
 |n+1=>(fun v3=>qev v0 v3 (qew v0 kx0 n) kx0)
def qtp:=hull (qew)
theorem qz1:qtp=qew:=qa _
def q1k:SubB Tryz.prog (TIof Tryz.prog) 47 0 (kret [.t 2] decB):=lpB tabOk follows Tryz.f136 151 (.s (.s .z (.s .z (.v [.sel [] []]))) (.s (.b (.s .z (.s (.sub [.sel [0,3,4] []] q1j []) .z))) (.v [.sel [0,3] []]))) S99_ (qew) (fun f v K n=>f (v.s 0 0) (qpc K) n) (fun v f K=>qev (v.s 0 0) (v.i 12 0) f (qpc K)) (fun f v=>f (v.i 12 0)) (fun k v=>(fun z0=>k (v.ui 12 0 z0)))
def qkm (v0:LU):Option Bool:=
 (bif(v0==([42]:List UInt8))then(some true)else(bif((decide ((v0.length:Int)<1))||(decide ((v0.length:Int)>63)))then(some false)else(qtp v0 (fun(_:Unit)=>(some true)) FU (0:Int))))
def qr7:=hull qkm
theorem q69:qr7=qkm:=qa _
def q8w {R:Type}:EntF Tryz.prog R:=entB (nt:=47) (dec:=decB) (enc:=AV.bool) tabOk follows Tryz.func136 [.t 2] hdeB (.s .z (.s .z (.s (.s (.r [(4,.g 3)] []) .z) (.s (.s .z (.b (.sub [.sel [0,3] []] q1k []))) .z)))) S69_ qkm (fun f v=>f (v.s 0 0))
def S104_:Shp:=⟨[(0,.one (.l .s)),(4,.one (.own 0)),(5,.one (.l (.i .i64))),(6,.one (.l (.i .i64))),(7,.one (.l .s))],[.arr true 1]⟩
def S105_:Shp:=⟨[(0,.one (.l .s)),(4,.one (.own 0)),(5,.one (.l (.i .i64))),(6,.one (.l (.i .i64)))],[.arr true 1]⟩
def qkn:AV->Option ((List AV)×Bool):=decN [(.one (.fr true 1)),(.one .b)] fun z=>(aL (gC (tpL z) 0),aB (gC (tpL z) 1))
def q2k (v0:LU)(K:Ex->Env->Mem->Option ((List AV)×Bool)):=(fun z_v25=>K .norm (qk [(0,(.str v0)),(25,(.bool z_v25))]) (qh []))
def qiz (v0:LU)(kn:Bool->Option ((List AV)×Bool)):Option ((List AV)×Bool):=
 (bif((decide ((v0.length:Int)<2))||(decide ((v0.length:Int)>254)))then(kn true)else(oB (ixB v0 (IntKind.i64.wrap ((v0.length:Int)-1))) fun c1=>(kn ((c1.toNat:Int) != (46:Int)))))
def qv4:=hull (qiz)
theorem q2l:qv4=qiz:=qa _
def q4g:SubB Tryz.prog (TIof Tryz.prog) 58 0 (kret [.t 2,.t 3] qkn):=jnB tabOk follows Tryz.f82 19 (.r [(4,.g 3)] [.sel [0,25] []]) S69_ (qiz) (fun f v K=>f (v.s 0 0) (q2k (v.s 0 0) K))
def q2m (v0:LU)(v6:Int)(v7:LU)(a0:LA)(K:Ex->Env->Mem->Option ((List AV)×Bool)):=(fun z_v50=>K .norm (qk [(0,(.str v0)),(4,(.own 0 a0.length)),(6,(.int .i64 v6)),(7,(.str v7)),(50,(.bool z_v50))]) (qh [(some (.arr true 1 a0))]))
def qi0 (v0:LU)(v5 v6:Int)(v7:LU)(a0:LA)(kn:Bool->Option ((List AV)×Bool)):Option ((List AV)×Bool):=
 (oB (qr7 v7) fun r1=>(bif(!r1)then(kn true)else(bif(v7==([42]:List UInt8))then(kn (decide (v5>0)))else(kn false))))
def qv5:=hull (qi0)
theorem q2n:qv5=qi0:=qa _
def q4h:SubB Tryz.prog (TIof Tryz.prog) 58 0 (kret [.t 2,.t 3] qkn):=jnB tabOk follows Tryz.f82 78431 (.r [(1,.c q8w.b)] [.sel [0,4,6,7,50] [0]]) S104_ (qi0) (fun f v K=>f (v.s 0 0) (v.i 20 0) (v.i 24 0) (v.s 28 0) (v.r 0) (q2m (v.s 0 0) (v.i 24 0) (v.s 28 0) (v.r 0) K))
def qq1 (K:Ex->Env->Mem->Option ((List AV)×Bool)):=(fun z_a0=>K (.exit 0) (qk [(4,(.own 0 z_a0.length))]) (qh [(some (.arr true 1 z_a0))]))
def qfv (v0:LU)(v5 v6:Int)(a0:LA)(next:Int->Int->(List AV)->Option ((List AV)×Bool))(kx0:(List AV)->Option ((List AV)×Bool)):Option ((List AV)×Bool):=
 (bif(decide (v6<(v0.length:Int)))then(oB (ixB v0 v6) fun c1=>(bif((c1.toNat:Int) != (46:Int))then(next v5 (IntKind.i64.wrap (v6+1)) a0)else(oB (cutI v0 (some v5) (some v6)) fun s2=>(bif(hd a0 (a0.length)&&true)then(qv5 v0 v5 v6 s2 a0 (fun v50q3=>(bif v50q3 then(bif hd ([]:List AV) (([]:List AV).length)then(some (([]:List AV),false))else none)else(bif hd a0 a0.length then(bif hd ([(.str s2)]:List AV) (([(.str s2)]:List AV).length)then(bif decide ((a0.length+([(.str s2)]:List AV).length)*16<=140737488355328)then(next (IntKind.i64.wrap (v6+1)) (IntKind.i64.wrap (v6+1)) (a0++([(.str s2)]:List AV)))else none)else none)else none))))else none))))else(kx0 a0))
def qfw (v0:LU)(kx0:(List AV)->Option ((List AV)×Bool)):Nat->Int->Int->(List AV)->Option ((List AV)×Bool)
 |0=>(fun _ _ _=>none)
 |n+1=>(fun v5 v6 a0=>qfv v0 v5 v6 a0 (qfw v0 kx0 n) kx0)
def qpd:=hull (qfw)
theorem q2o:qpd=qfw:=qa _
def q4i:SubB Tryz.prog (TIof Tryz.prog) 58 0 (kret [.t 2,.t 3] qkn):=lpB tabOk follows Tryz.f82 607 (.s (.s .z (.s .z (.v [.sel [4] [0]]))) (.s (.b (.s .z (.s .z (.s (.s (.sub [.sel [0,4,5,6,7] [0]] q4h []) (.s (.s .z (.v [.own 2 1])) .z)) .z)))) (.v [.sel [0,4,5,6] [0]]))) S105_ (qfw) (fun f v K n=>f (v.s 0 0) (qq1 K) n) (fun v f K=>qfv (v.s 0 0) (v.i 20 0) (v.i 24 0) (v.r 0) f (qq1 K)) (fun f v=>f (v.i 20 0) (v.i 24 0) (v.r 0)) (fun k v=>(fun z0 z1 z2=>k (((v.ui 20 0 z0).ui 24 0 z1).ur 0 z2)))
def qms (v0:LU):Option ((List AV)×Bool):=
 (bif(v0==([46]:List UInt8))then(bif hd ([]:List AV) (([]:List AV).length)then(some (([]:List AV),true))else none)else(qv4 v0 (fun v25q1=>(bif v25q1 then(bif hd ([]:List AV) (([]:List AV).length)then(some (([]:List AV),false))else none)else(bif(hd ([]:List AV) (([]:List AV).length)&&true)then(qpd v0 (fun a0q2=>(bif hd a0q2 a0q2.length then(some (a0q2,true))else none)) FU (0:Int) (0:Int) ([]:List AV))else none)))))
def qe6:=hull qms
theorem qbb1:qe6=qms:=qa _
def qg9 {R:Type}:EntF Tryz.prog R:=entB (nt:=58) (dec:=qkn) (enc:=(fun r=>.tup [.fr true 1 r.1,.bool r.2])) tabOk follows Tryz.func82 [.t 2,.t 3] (hdeN fun _=>rfl) (.s .z (.s (.s .z (.s (.s .z (.v [.own 2 1])) .z)) (.s (.s (.sub [.sel [0] []] q4g []) (.s (.s .z (.v [.own 2 1])) .z)) (.s .z (.s .z (.s (.s .z (.b (.sub [.own 4 1,.sel [0,4,5,6] [0]] q4i []))) .z)))))) S69_ qms (fun f v=>f (v.s 0 0))
def qmt (v0:LU):Option Bool:=
 (oB (qe6 v0) fun r1=>(some r1.2))
def qqa:=hull qmt
theorem qbb2:qqa=qmt:=qa _
def qyv {R:Type}:EntF Tryz.prog R:=entB (nt:=11) (dec:=decB) (enc:=AV.bool) tabOk follows Tryz.func30 [.t 2] hdeB (.s .z (.s (.r [(1,.k qg9.b)] []) .z)) S69_ qmt (fun f v=>f (v.s 0 0))
def qlk (v0:LU):Option (List AV):=
 (oB (qe6 v0) fun r1=>(some r1.1))
def qtq:=hull qlk
theorem q8x:qtq=qlk:=qa _
def qbb3 {R:Type}:EntF Tryz.prog R:=entB (nt:=11) (dec:=(decX (.one (.sl 1)) fun z=>aL z)) (enc:=(fun r=>.sl 1 r)) tabOk follows Tryz.func135 [.t 2] (hdeX fun _=>rfl) (.s .z (.s (.r [(1,.k qg9.b)] []) .z)) S69_ qlk (fun f v=>f (v.s 0 0))
def qko (v0:LU):Option Bool:=
 (oB (qtq v0) fun r1=>(bif(decide ((r1.length:Int)>0))then(oB (ixB r1 (0:Int)) fun y2=>(bif fitC [.s] y2.cells then(some ((gS y2.cells 0)==([42]:List UInt8)))else none))else(some false)))
def qr8:=hull qko
theorem q7a:qr8=qko:=qa _
def q8y {R:Type}:EntF Tryz.prog R:=entB (nt:=15) (dec:=decB) (enc:=AV.bool) tabOk follows Tryz.func79 [.t 2] hdeB (.s .z (.s (.r [(1,.k qbb3.b)] []) (.s (.r [(5,.p (.etac 11 [.s]))] []) .z))) S69_ qko (fun f v=>f (v.s 0 0))
def qor (v0 v1:LU):Option Int:=
 (bif(Op.bytesLess v0 v1)then(some (-1:Int))else(bif(!(Op.bytesLess v0 v1||v0==v1))then(some (1:Int))else(some (0:Int))))
def qrr:=hull qor
theorem qbdw:qrr=qor:=qa _
def q0h {R:Type}:EntF Tryz.prog R:=entB (nt:=11) (dec:=(decI .i64)) (enc:=(AV.int .i64)) tabOk follows Tryz.func83 [.t 4] hdeI (.z) S62_ qor (fun f v=>f (v.s 0 0) (v.s 4 0))
def S106_:Shp:=⟨[(0,.one (.l (.sl 1))),(1,.one (.l (.sl 1))),(5,.one (.l (.i .i64)))],[]⟩
def S107_:Shp:=⟨[(0,.one (.l (.sl 1))),(1,.one (.l (.sl 1)))],[]⟩
def q7b (v0 v1:LA)(v5:Int)(K:Ex->Env->Mem->Option Int):=(fun z_v34=>K .norm (qk [(0,(.sl 1 v0)),(1,(.sl 1 v1)),(5,(.int .i64 v5)),(34,(.bool z_v34))]) (qh []))
def qkp (v0 v1:LA)(v5:Int)(kn:Bool->Option Int):Option Int:=
 (bif(decide (v5<(v0.length:Int)))then(bif(decide (v5<(v1.length:Int)))then(oB (ixB v0 (IntKind.i64.wrap ((IntKind.i64.wrap ((v0.length:Int)-1))-v5))) fun y1=>(bif fitC [.s] y1.cells then(oB (ixB v1 (IntKind.i64.wrap ((IntKind.i64.wrap ((v1.length:Int)-1))-v5))) fun y2=>(bif fitC [.s] y2.cells then(kn ((gS y1.cells 0)==(gS y2.cells 0)))else none))else none))else(kn false))else(kn false))
def qyw:=hull (qkp)
theorem q7c:qyw=qkp:=qa _
def q8z:SubB Tryz.prog (TIof Tryz.prog) 38 0 (kret [.t 4] (decI .i64)):=jnB tabOk follows Tryz.f84 131 (.d [] [(17,.e 23 [.s]),(25,.e 31 [.s])] [] [.sel [0,1,5,34] []]) S106_ (qkp) (fun f v K=>f (v.l 0 0) (v.l 4 0) (v.i 20 0) (q7b (v.l 0 0) (v.l 4 0) (v.i 20 0) K))
def qtr (K:Ex->Env->Mem->Option Int):=(fun z_v5=>K (.exit 0) (qk [(5,(.int .i64 z_v5))]) (qh []))
def qkq (v0 v1:LA)(v5:Int)(next:Int->Option Int)(kx0:Int->Option Int):Option Int:=
 (qyw v0 v1 v5 (fun v34q1=>(bif v34q1 then(next (IntKind.i64.wrap (v5+1)))else(kx0 v5))))
def qe7 (v0 v1:LA)(kx0:Int->Option Int):Nat->Int->Option Int
 |0=>(fun _=>none)
 |n+1=>(fun v5=>qkq v0 v1 v5 (qe7 v0 v1 kx0 n) kx0)
def qyx:=hull (qe7)
theorem q7d:qyx=qe7:=qa _
def q80:SubB Tryz.prog (TIof Tryz.prog) 38 0 (kret [.t 4] (decI .i64)):=lpB tabOk follows Tryz.f84 35 (.s (.s (.sub [.sel [0,1,5] []] q8z []) (.s .z (.v [.sel [5] []]))) (.b (.v [.sel [0,1,5] []]))) S106_ (qe7) (fun f v K n=>f (v.l 0 0) (v.l 4 0) (qtr K) n) (fun v f K=>qkq (v.l 0 0) (v.l 4 0) (v.i 20 0) f (qtr K)) (fun f v=>f (v.i 20 0)) (fun k v=>(fun z0=>k (v.ui 20 0 z0)))
def qos (v0 v1:LA):Option Int:=
 (qyx v0 v1 (fun v5q1=>(some v5q1)) FU (0:Int))
def qnf:=hull qos
theorem qbdx:qnf=qos:=qa _
def q0i {R:Type}:EntF Tryz.prog R:=entB (nt:=38) (dec:=(decI .i64)) (enc:=(AV.int .i64)) tabOk follows Tryz.func84 [.t 4] hdeI (.s .z (.s .z (.s (.b (.sub [.sel [0,1,5] []] q80 [])) .z))) S107_ qos (fun f v=>f (v.l 0 0) (v.l 4 0))
def qkr (v0 v1:LU):Option Int:=
 (oB (qe6 v0) fun r1=>(oB (qe6 v1) fun r2=>(bif((!r1.2)||(!r2.2))then(bif r1.2 then(some (-1:Int))else(bif r2.2 then(some (1:Int))else(oB (qrr v0 v1) fun r3=>(some r3))))else(oB (qnf r1.1 r2.1) fun r4=>(bif((decide (r4<(r1.1.length:Int)))&&(decide (r4<(r2.1.length:Int))))then(oB (ixB r1.1 (IntKind.i64.wrap ((IntKind.i64.wrap ((r1.1.length:Int)-1))-r4))) fun y5=>(bif fitC [.s] y5.cells then(oB (ixB r2.1 (IntKind.i64.wrap ((IntKind.i64.wrap ((r2.1.length:Int)-1))-r4))) fun y6=>(bif fitC [.s] y6.cells then(oB (qrr (gS y5.cells 0) (gS y6.cells 0)) fun r7=>(some r7))else none))else none))else(bif(decide ((r1.1.length:Int)<(r2.1.length:Int)))then(some (-1:Int))else(bif(decide ((r1.1.length:Int)>(r2.1.length:Int)))then(some (1:Int))else(some (0:Int)))))))))
def qmu:=hull qkr
theorem q7e:qmu=qkr:=qa _
def qv6 {R:Type}:EntF Tryz.prog R:=entB (nt:=71) (dec:=(decI .i64)) (enc:=(AV.int .i64)) tabOk follows Tryz.func31 [.t 4] hdeI (.s .z (.s (.r [(1,.k qg9.b)] []) (.s (.r [(1,.k qg9.b)] []) (.s (.s (.r [(3,.g 2)] []) (.s (.s .z (.s .z (.s (.r [(2,.c q0h.b)] []) .z))) .z)) (.s (.r [(2,.c q0i.b)] []) (.s (.s (.r [(5,.g 4)] []) (.s (.s (.d [] [(6,.e 50 [.s]),(14,.e 58 [.s])] [(0,.c q0h.b)] []) .z) .z)) .z)))))) S62_ qkr (fun f v=>f (v.s 0 0) (v.s 4 0))
def qll (Aa:LU)(Ab:Bool)(Ac Bt Bu:Int)(B7:LU)(B8:Bool)(B9 Ca Cb:Int):Option Bool:=
 (oB (qmo Ab Ac Bt B8 B9 Ca) fun r1=>(bif(decide (r1<0))then(some true)else(bif(r1==0)then(oB (qmu Aa B7) fun r2=>(some (decide (r2<0))))else(some false))))
def qts:=hull qll
theorem q81:qts=qll:=qa _
def qbb4 {R:Type}:EntF Tryz.prog R:=entB (nt:=25) (dec:=decB) (enc:=AV.bool) tabOk follows Tryz.func81 [.t 4] hdeB (.s .z (.s (.r [(4,.c qv0.b)] []) (.s (.r [(10,.c qv6.b)] []) .z))) S75_ qll (fun f v=>f (v.s 1 0) (v.b 1 1) (v.i 1 2) (v.i 1 3) (v.i 1 4) (v.s 5 0) (v.b 5 1) (v.i 5 2) (v.i 5 3) (v.i 5 4))
def S108_:Shp:=⟨[(0,.one (.l (.sl 5))),(3,.one (.l (.i .i64))),(4,.one (.ptr 0 0))],[.box true (lk qj)]⟩
def S109_:Shp:=⟨[(0,.one (.l (.sl 5))),(3,.one (.l (.i .i64)))],[]⟩
def q2p (v0:LA)(v3:Int)(Av:LU)(Aw:Bool)(Ax Ay Az:Int)(K:Ex->Env->Mem->Option Int):=(fun z_v26=>K .norm (qk [(0,(.sl 5 v0)),(3,(.int .i64 v3)),(4,(.ptr 0 0)),(26,(.bool z_v26))]) (qh [(some (.box true (qj0 Av Aw Ax Ay Az)))]))
def qi1 (v0:LA)(v3:Int)(Av:LU)(Aw:Bool)(Ax Ay Az:Int)(kn:Bool->Option Int):Option Int:=
 (oB (qqa Av) fun r1=>(bif(!r1)then(kn true)else(oB (qr8 Av) fun r2=>(kn r2))))
def qpe:=hull (qi1)
theorem q2q:qpe=qi1:=qa _
def q4j:SubB Tryz.prog (TIof Tryz.prog) 74 0 (kret [.t 2] (decI .i64)):=jnB tabOk follows Tryz.f29 4683 (.r [(2,.c qyv.b),(7,.c q8y.b)] [.sel [0,3,4,26] [0]]) S108_ (qi1) (fun f v K=>f (v.l 0 0) (v.i 12 0) (v.s 3 0) (v.b 3 1) (v.i 3 2) (v.i 3 3) (v.i 3 4) (q2p (v.l 0 0) (v.i 12 0) (v.s 3 0) (v.b 3 1) (v.i 3 2) (v.i 3 3) (v.i 3 4) K))
def q2r (v0:LA)(v3:Int)(Av:LU)(Aw:Bool)(Ax Ay Az:Int)(K:Ex->Env->Mem->Option Int):=(fun z_v49=>K .norm (qk [(0,(.sl 5 v0)),(3,(.int .i64 v3)),(4,(.ptr 0 0)),(49,(.bool z_v49))]) (qh [(some (.box true (qj0 Av Aw Ax Ay Az)))]))
def qi2 (v0:LA)(v3:Int)(Av:LU)(Aw:Bool)(Ax Ay Az:Int)(kn:Bool->Option Int):Option Int:=
 (bif(decide (v3>0))then(oB (ixB v0 (IntKind.i64.wrap (v3-1))) fun y1=>(bif fitC qj y1.cells then(oB (qts Av Aw Ax Ay Az (gS y1.cells 0) (gB y1.cells 1) (gI y1.cells 2) (gI y1.cells 3) (gI y1.cells 4)) fun r2=>(kn r2))else none))else(kn false))
def qpf:=hull (qi2)
theorem q2s:qpf=qi2:=qa _
def q4k:SubB Tryz.prog (TIof Tryz.prog) 74 0 (kret [.t 2] (decI .i64)):=jnB tabOk follows Tryz.f29 40523 (.d [] [(7,.e 46 qj)] [(0,.c qbb4.b)] [.sel [0,3,4,49] [0]]) S108_ (qi2) (fun f v K=>f (v.l 0 0) (v.i 12 0) (v.s 3 0) (v.b 3 1) (v.i 3 2) (v.i 3 3) (v.i 3 4) (q2r (v.l 0 0) (v.i 12 0) (v.s 3 0) (v.b 3 1) (v.i 3 2) (v.i 3 3) (v.i 3 4) K))
def q2t (v0:LA)(v3:Int)(K:Ex->Env->Mem->Option Int):=(fun z_v73=>K .norm (qk [(0,(.sl 5 v0)),(3,(.int .i64 v3)),(73,(.bool z_v73))]) (qh []))
def qi3 (v0:LA)(v3:Int)(Av:LU)(Aw:Bool)(Ax Ay Az:Int)(kn:Bool->Option Int):Option Int:=
 (bif(decide (v3>0))then(oB (ixB v0 (IntKind.i64.wrap (v3-1))) fun y1=>(bif fitC qj y1.cells then(bif(Av==(gS y1.cells 0))then(oB (ixB v0 (IntKind.i64.wrap (v3-1))) fun y2=>(bif fitC qj y2.cells then(kn ((Aw==(gB y2.cells 1))&&((Ax==(gI y2.cells 2))&&((Ay==(gI y2.cells 3))&&true))))else none))else(kn false))else none))else(kn false))
def qpg:=hull (qi3)
theorem q2u:qpg=qi3:=qa _
def q4l:SubB Tryz.prog (TIof Tryz.prog) 74 0 (kret [.t 2] (decI .i64)):=jnB tabOk follows Tryz.f29 48715 (.d [] [(8,.e 58 qj),(19,.e 69 qj)] [] [.sel [0,3,73] []]) S108_ (qi3) (fun f v K=>f (v.l 0 0) (v.i 12 0) (v.s 3 0) (v.b 3 1) (v.i 3 2) (v.i 3 3) (v.i 3 4) (q2t (v.l 0 0) (v.i 12 0) K))
def qq2 (K:Ex->Env->Mem->Option Int):=(fun(_:Unit)=>K (.exit 0) (qk []) (qh []))
def qfx (v0:LA)(v3:Int)(next:Int->Option Int)(kx0:Unit->Option Int):Option Int:=
 (bif(decide (v3<(v0.length:Int)))then(oB (ixB v0 v3) fun y1=>(bif fitC qj y1.cells then(qpe v0 v3 (gS y1.cells 0) (gB y1.cells 1) (gI y1.cells 2) (gI y1.cells 3) (gI y1.cells 4) (fun v26q2=>(bif v26q2 then(some (2:Int))else(oB (qje (gB y1.cells 1) (gI y1.cells 2) (gI y1.cells 3)) fun r3=>(bif(!r3)then(some (3:Int))else(bif((decide ((gI y1.cells 4)<0))||(decide ((gI y1.cells 4)>2147483647)))then(some (1:Int))else(qpf v0 v3 (gS y1.cells 0) (gB y1.cells 1) (gI y1.cells 2) (gI y1.cells 3) (gI y1.cells 4) (fun v49q4=>(bif v49q4 then(some (7:Int))else(qpg v0 v3 (gS y1.cells 0) (gB y1.cells 1) (gI y1.cells 2) (gI y1.cells 3) (gI y1.cells 4) (fun v73q5=>(bif v73q5 then(some (12:Int))else(next (IntKind.i64.wrap (v3+1)))))))))))))))else none))else(kx0 ()))
def qfy (v0:LA)(kx0:Unit->Option Int):Nat->Int->Option Int
 |0=>(fun _=>none)
 |n+1=>(fun v3=>qfx v0 v3 (qfy v0 kx0 n) kx0)
def qv7:=hull (qfy)
theorem q2v:qv7=qfy:=qa _
def q4m:SubB Tryz.prog (TIof Tryz.prog) 74 0 (kret [.t 2] (decI .i64)):=lpB tabOk follows Tryz.f29 75 (.s (.s .z (.s .z (.v [.sel [] []]))) (.s (.b (.s (.r [(2,.p (.etac 16 qj))] []) (.s (.s (.sub [.sel [0,3,4] [0]] q4j []) .z) (.s (.s (.r [(2,.c qml.b)] []) .z) (.s (.s (.r [(4,.g 3)] []) .z) (.s (.s (.sub [.sel [0,3,4] [0]] q4k []) .z) (.s (.sub [.sel [0,3,4] [0]] q4l []) .z))))))) (.v [.sel [0,3] []]))) S109_ (qfy) (fun f v K n=>f (v.l 0 0) (qq2 K) n) (fun v f K=>qfx (v.l 0 0) (v.i 12 0) f (qq2 K)) (fun f v=>f (v.i 12 0)) (fun k v=>(fun z0=>k (v.ui 12 0 z0)))
def qmv (v0:LA):Option Int:=
 (bif(decide ((v0.length:Int)>256))then(some (9:Int))else(qv7 v0 (fun(_:Unit)=>(some (0:Int))) FU (0:Int)))
def qut:=hull qmv
theorem qbb5:qut=qmv:=qa _
def qbdy {R:Type}:EntF Tryz.prog R:=entB (nt:=74) (dec:=(decI .i64)) (enc:=(AV.int .i64)) tabOk follows Tryz.func29 [.t 2] hdeI (.s .z (.s .z (.s (.s .z (.b (.sub [.sel [0,3] []] q4m []))) .z))) S77_ qmv (fun f v=>f (v.l 0 0))
def S110_:Shp:=⟨[(0,.one (.l (.sl 8))),(3,.one (.ptr 0 0)),(4,.one (.ptr 1 0)),(6,.one (.l (.i .i64))),(7,.one (.l (.i .i64)))],[.box true (lk qee),.box true (lk qb)]⟩
def qn1:AV->Option (AV×Bool):=decN [(.st [.b,(.i .u64),(.i .u64),(.i .i64),(.i .i64),.s,.s,(.i .i64)]),(.one .b)] fun z=>((gC (tpL z) 0),aB (gC (tpL z) 1))
def q1l (v0:LA)(v6 v7:Int)(Av:Bool)(Aw Ax:Int)(Ad:Bool)(Ae Af Ag Ah:Int)(Ai Aj:LU)(Ak:Int)(K:Ex->Env->Mem->Option (AV×Bool)):=(fun z_v39=>K .norm (qk [(0,(.sl 8 v0)),(3,(.ptr 0 0)),(4,(.ptr 1 0)),(6,(.int .i64 v6)),(7,(.int .i64 v7)),(39,(.bool z_v39))]) (qh [(some (.box true (qge Av Aw Ax))),(some (.box true (qp Ad Ae Af Ag Ah Ai Aj Ak)))]))
def qic (v0:LA)(v6 v7:Int)(Av:Bool)(Aw Ax:Int)(Ad:Bool)(Ae Af Ag Ah:Int)(Ai Aj:LU)(Ak:Int)(kn:Bool->Option (AV×Bool)):Option (AV×Bool):=
 (oB (ixB v0 v7) fun y1=>(bif fitC qb y1.cells then(oB (qlh (gB y1.cells 0) (gI y1.cells 1) (gI y1.cells 2) (gI y1.cells 3) Av Aw Ax) fun r2=>(bif r2 then(bif(decide (v6<0))then(kn true)else(oB (ixB v0 v7) fun y3=>(bif fitC qb y3.cells then(oB (ixB v0 v6) fun y4=>(bif fitC qb y4.cells then(kn (decide ((gI y3.cells 3)>(gI y4.cells 3))))else none))else none)))else(kn false)))else none))
def qug:=hull (qic)
theorem q1m:qug=qic:=qa _
def q2w:SubB Tryz.prog (TIof Tryz.prog) 48 0 (kret [(.cell 4 true 8),.t 5] qn1):=jnB tabOk follows Tryz.f85 1099 (.d [] [(2,.e 16 qb),(6,.c quf.b),(13,.e 27 qb),(19,.e 33 qb)] [] [.sel [0,3,4,6,7,39] [0,1]]) S110_ (qic) (fun f v K=>f (v.l 0 0) (v.i 24 0) (v.i 28 0) (v.b 3 0) (v.i 3 1) (v.i 3 2) (v.b 7 0) (v.i 7 1) (v.i 7 2) (v.i 7 3) (v.i 7 4) (v.s 7 5) (v.s 7 6) (v.i 7 7) (q1l (v.l 0 0) (v.i 24 0) (v.i 28 0) (v.b 3 0) (v.i 3 1) (v.i 3 2) (v.b 7 0) (v.i 7 1) (v.i 7 2) (v.i 7 3) (v.i 7 4) (v.s 7 5) (v.s 7 6) (v.i 7 7) K))
def qq3 (v0:LA)(Ad:Bool)(Ae Af Ag Ah:Int)(Ai Aj:LU)(Ak:Int)(K:Ex->Env->Mem->Option (AV×Bool)):=(fun z_v6=>K (.exit 0) (qk [(0,(.sl 8 v0)),(4,(.ptr 0 0)),(6,(.int .i64 z_v6))]) (qh [(some (.box true (qp Ad Ae Af Ag Ah Ai Aj Ak)))]))
def qfz (v0:LA)(v6 v7:Int)(Av:Bool)(Aw Ax:Int)(Ad:Bool)(Ae Af Ag Ah:Int)(Ai Aj:LU)(Ak:Int)(next:Int->Int->Option (AV×Bool))(kx0:Int->Option (AV×Bool)):Option (AV×Bool):=
 (bif(decide (v7<(v0.length:Int)))then(qug v0 v6 v7 Av Aw Ax Ad Ae Af Ag Ah Ai Aj Ak (fun v39q1=>(bif v39q1 then(next v7 (IntKind.i64.wrap (v7+1)))else(next v6 (IntKind.i64.wrap (v7+1))))))else(kx0 v6))
def qeg (v0:LA)(Av:Bool)(Aw Ax:Int)(Ad:Bool)(Ae Af Ag Ah:Int)(Ai Aj:LU)(Ak:Int)(kx0:Int->Option (AV×Bool)):Nat->Int->Int->Option (AV×Bool)
 |0=>(fun _ _=>none)
 |n+1=>(fun v6 v7=>qfz v0 v6 v7 Av Aw Ax Ad Ae Af Ag Ah Ai Aj Ak (qeg v0 Av Aw Ax Ad Ae Af Ag Ah Ai Aj Ak kx0 n) kx0)
def qv8:=hull (qeg)
theorem q2x:qv8=qeg:=qa _
def q4n:SubB Tryz.prog (TIof Tryz.prog) 48 0 (kret [(.cell 4 true 8),.t 5] qn1):=lpB tabOk follows Tryz.f85 75 (.s (.s .z (.s .z (.v [.sel [0,4,6] [1]]))) (.s (.b (.s (.sub [.sel [0,3,4,6,7] [0,1]] q2w []) .z)) (.v [.sel [0,3,4,6,7] [0,1]]))) S110_ (qeg) (fun f v K n=>f (v.l 0 0) (v.b 3 0) (v.i 3 1) (v.i 3 2) (v.b 7 0) (v.i 7 1) (v.i 7 2) (v.i 7 3) (v.i 7 4) (v.s 7 5) (v.s 7 6) (v.i 7 7) (qq3 (v.l 0 0) (v.b 7 0) (v.i 7 1) (v.i 7 2) (v.i 7 3) (v.i 7 4) (v.s 7 5) (v.s 7 6) (v.i 7 7) K) n) (fun v f K=>qfz (v.l 0 0) (v.i 24 0) (v.i 28 0) (v.b 3 0) (v.i 3 1) (v.i 3 2) (v.b 7 0) (v.i 7 1) (v.i 7 2) (v.i 7 3) (v.i 7 4) (v.s 7 5) (v.s 7 6) (v.i 7 7) f (qq3 (v.l 0 0) (v.b 7 0) (v.i 7 1) (v.i 7 2) (v.i 7 3) (v.i 7 4) (v.s 7 5) (v.s 7 6) (v.i 7 7) K)) (fun f v=>f (v.i 24 0) (v.i 28 0)) (fun k v=>(fun z0 z1=>k ((v.ui 24 0 z0).ui 28 0 z1)))
def qlm (v0:LA)(B7:Bool)(B8 B9:Int):Option (AV×Bool):=
 (qv8 v0 B7 B8 B9 false (0:Int) (0:Int) (0:Int) (0:Int) ([]:List UInt8) ([]:List UInt8) (0:Int) (fun v6q1=>(bif(decide (v6q1<0))then(some ((.agg [(.bool false),(.int .u64 (0:Int)),(.int .u64 (0:Int)),(.int .i64 (0:Int)),(.int .i64 (0:Int)),(.str ([]:List UInt8)),(.str ([]:List UInt8)),(.int .i64 (0:Int))]),false))else(oB (ixB v0 v6q1) fun y2=>(bif fitC qb y2.cells then(some ((.agg [(.bool (gB y2.cells 0)),(.int .u64 (gI y2.cells 1)),(.int .u64 (gI y2.cells 2)),(.int .i64 (gI y2.cells 3)),(.int .i64 (gI y2.cells 4)),(.str (gS y2.cells 5)),(.str (gS y2.cells 6)),(.int .i64 (gI y2.cells 7))]),true))else none)))) FU (-1:Int) (0:Int))
def qtt:=hull qlm
theorem q82:qtt=qlm:=qa _
def qbb6 {R:Type}:EntF Tryz.prog R:=entB (nt:=48) (dec:=qn1) (enc:=(fun r=>.tup [qd4 (.st [.b,(.i .u64),(.i .u64),(.i .i64),(.i .i64),.s,.s,(.i .i64)]) r.1,.bool r.2])) tabOk follows Tryz.func85 [(.cell 4 true 8),.t 5] (hdeN fun _=>rfl) (.s .z (.s .z (.s (.s .z (.b (.sub [.sel [0,3,4,6,7] [0,1]] q4n []))) (.s .z (.s (.r [(2,.p (.etac 46 qb))] []) .z))))) S39_ qlm (fun f v=>f (v.l 0 0) (v.b 5 0) (v.i 5 1) (v.i 5 2))
def qks (v0:LA)(B7:Bool)(B8 B9:Int):Option Bool:=
 (oB (qtt v0 B7 B8 B9) fun r1=>(bif r1.2 then(bif((gI r1.1.cells 4)==2)then(some true)else(some ((gI r1.1.cells 4)==3)))else(some false)))
def qr9:=hull qks
theorem q7f:qr9=qks:=qa _
def q83 {R:Type}:EntF Tryz.prog R:=entB (nt:=24) (dec:=decB) (enc:=AV.bool) tabOk follows Tryz.func32 [.t 4] hdeB (.s .z (.s (.r [(2,.c qbb6.b)] []) .z)) S39_ qks (fun f v=>f (v.l 0 0) (v.b 5 0) (v.i 5 1) (v.i 5 2))
def qmw (v0 v1:LU):Option Bool:=
 (oB (qe6 v0) fun r1=>(oB (qe6 v1) fun r2=>(bif(r1.2&&r2.2)then(oB (qnf r1.1 r2.1) fun r3=>(some (r3==(r2.1.length:Int))))else(some false))))
def quu:=hull qmw
theorem qbb7:quu=qmw:=qa _
def qbdz {R:Type}:EntF Tryz.prog R:=entB (nt:=31) (dec:=decB) (enc:=AV.bool) tabOk follows Tryz.func86 [.t 4] hdeB (.s .z (.s (.r [(1,.k qg9.b)] []) (.s (.r [(1,.k qg9.b)] []) (.s (.r [(2,.g 1),(7,.c q0i.b)] []) .z)))) S62_ qmw (fun f v=>f (v.s 0 0) (v.s 4 0))
def S111_:Shp:=⟨[(0,.one (.l (.sl 1))),(1,.one (.l .s)),(5,.one (.l (.i .i64)))],[]⟩
def qsk (K:Ex->Env->Mem->Option Bool):=(fun(_:Unit)=>K (.exit 0) (qk []) (qh []))
def qgz (v0:LA)(v1:LU)(v5:Int)(next:Int->Option Bool)(kx0:Unit->Option Bool):Option Bool:=
 (bif(decide (v5<(v0.length:Int)))then(oB (ixB v0 v5) fun y1=>(bif fitC [.s] y1.cells then(oB (quu v1 (gS y1.cells 0)) fun r2=>(bif r2 then(some true)else(next (IntKind.i64.wrap (v5+1)))))else none))else(kx0 ()))
def qg0 (v0:LA)(v1:LU)(kx0:Unit->Option Bool):Nat->Int->Option Bool
 |0=>(fun _=>none)
 |n+1=>(fun v5=>qgz v0 v1 v5 (qg0 v0 v1 kx0 n) kx0)
def qxf:=hull (qg0)
theorem q4o:qxf=qg0:=qa _
def q7g:SubB Tryz.prog (TIof Tryz.prog) 18 0 (kret [.t 4] decB):=lpB tabOk follows Tryz.f33 37 (.s (.s .z (.s .z (.v [.sel [] []]))) (.s (.b (.s (.r [(3,.p (.etac 15 [.s])),(5,.c qbdz.b)] []) .z)) (.v [.sel [0,1,5] []]))) S111_ (qg0) (fun f v K n=>f (v.l 0 0) (v.s 4 0) (qsk K) n) (fun v f K=>qgz (v.l 0 0) (v.s 4 0) (v.i 20 0) f (qsk K)) (fun f v=>f (v.i 20 0)) (fun k v=>(fun z0=>k (v.ui 20 0 z0)))
def qmx (v0:LA)(v1:LU):Option Bool:=
 (qxf v0 v1 (fun(_:Unit)=>(some false)) FU (0:Int))
def quv:=hull qmx
theorem qbb8:quv=qmx:=qa _
def qbd0 {R:Type}:EntF Tryz.prog R:=entB (nt:=18) (dec:=decB) (enc:=AV.bool) tabOk follows Tryz.func33 [.t 4] hdeB (.s .z (.s (.s .z (.b (.sub [.sel [0,1,5] []] q7g []))) .z)) S84_ qmx (fun f v=>f (v.l 0 0) (v.s 4 0))
def S112_:Shp:=⟨[(1,.one (.ptr 0 0)),(5,.one (.l (.i .i64)))],[.box true (lk qdu)]⟩
def S113_:Shp:=⟨[(1,.one (.ptr 0 0)),(6,.one (.l (.i .i64)))],[.box true (lk qdu)]⟩
def q2y (v5:Int)(Av Aw Ax:LA)(K:Ex->Env->Mem->Option Int):=(fun z_v55=>K .norm (qk [(1,(.ptr 0 0)),(5,(.int .i64 v5)),(55,(.bool z_v55))]) (qh [(some (.box true (qdf Av Aw Ax)))]))
def qi4 (v5:Int)(Av Aw Ax:LA)(kn:Bool->Option Int):Option Int:=
 (oB (ixB Ax v5) fun y1=>(bif fitC [.s] y1.cells then(oB (qqa (gS y1.cells 0)) fun r2=>(bif(!r2)then(kn true)else(bif(decide (v5>0))then(oB (ixB Ax (IntKind.i64.wrap (v5-1))) fun y3=>(bif fitC [.s] y3.cells then(oB (ixB Ax v5) fun y4=>(bif fitC [.s] y4.cells then(oB (qmu (gS y3.cells 0) (gS y4.cells 0)) fun r5=>(kn (decide (r5>=0))))else none))else none))else(kn false))))else none))
def qph:=hull (qi4)
theorem q2z:qph=qi4:=qa _
def q4p:SubB Tryz.prog (TIof Tryz.prog) 83 0 (kret [.t 2] (decI .i64)):=jnB tabOk follows Tryz.f12 4399 (.d [] [(3,.e 33 [.s]),(5,.c qyv.b),(15,.e 45 [.s]),(20,.e 50 [.s])] [(0,.c qv6.b)] [.sel [1,5,55] [0]]) S112_ (qi4) (fun f v K=>f (v.i 20 0) (v.l 3 0) (v.l 3 1) (v.l 3 2) (q2y (v.i 20 0) (v.l 3 0) (v.l 3 1) (v.l 3 2) K))
def qq4 (Av Aw Ax:LA)(K:Ex->Env->Mem->Option Int):=(fun(_:Unit)=>K (.exit 0) (qk [(1,(.ptr 0 0))]) (qh [(some (.box true (qdf Av Aw Ax)))]))
def qf0 (v5:Int)(Av Aw Ax:LA)(next:Int->Option Int)(kx0:Unit->Option Int):Option Int:=
 (bif(decide (v5<(Ax.length:Int)))then(qph v5 Av Aw Ax (fun v55q1=>(bif v55q1 then(some (2:Int))else(next (IntKind.i64.wrap (v5+1))))))else(kx0 ()))
def qf1 (Av Aw Ax:LA)(kx0:Unit->Option Int):Nat->Int->Option Int
 |0=>(fun _=>none)
 |n+1=>(fun v5=>qf0 v5 Av Aw Ax (qf1 Av Aw Ax kx0 n) kx0)
def qv9:=hull (qf1)
theorem q20:qv9=qf1:=qa _
def q4q:SubB Tryz.prog (TIof Tryz.prog) 83 0 (kret [.t 2] (decI .i64)):=lpB tabOk follows Tryz.f12 303 (.s (.s .z (.s .z (.v [.sel [1] [0]]))) (.s (.b (.s (.sub [.sel [1,5] [0]] q4p []) .z)) (.v [.sel [1,5] [0]]))) S112_ (qf1) (fun f v K n=>f (v.l 3 0) (v.l 3 1) (v.l 3 2) (qq4 (v.l 3 0) (v.l 3 1) (v.l 3 2) K) n) (fun v f K=>qf0 (v.i 20 0) (v.l 3 0) (v.l 3 1) (v.l 3 2) f (qq4 (v.l 3 0) (v.l 3 1) (v.l 3 2) K)) (fun f v=>f (v.i 20 0)) (fun k v=>(fun z0=>k (v.ui 20 0 z0)))
def qq5 (K:Ex->Env->Mem->Option Int):=(fun(_:Unit)=>K (.exit 2) (qk []) (qh []))
def qf2 (v6:Int)(Av Aw Ax:LA)(next:Int->Option Int)(kx2:Unit->Option Int):Option Int:=
 (bif(decide (v6<(Aw.length:Int)))then(oB (ixB Aw v6) fun y1=>(bif fitC qj y1.cells then(oB (qr9 Av (gB y1.cells 1) (gI y1.cells 2) (gI y1.cells 3)) fun r2=>(bif(!r2)then(some (25:Int))else(oB (ixB Aw v6) fun y3=>(bif fitC qj y3.cells then(oB (quv Ax (gS y3.cells 0)) fun r4=>(bif(!r4)then(some (13:Int))else(next (IntKind.i64.wrap (v6+1)))))else none))))else none))else(kx2 ()))
def qf3 (Av Aw Ax:LA)(kx2:Unit->Option Int):Nat->Int->Option Int
 |0=>(fun _=>none)
 |n+1=>(fun v6=>qf2 v6 Av Aw Ax (qf3 Av Aw Ax kx2 n) kx2)
def qpi:=hull (qf3)
theorem q21:qpi=qf3:=qa _
def q4r:SubB Tryz.prog (TIof Tryz.prog) 83 0 (kret [.t 2] (decI .i64)):=lpB tabOk follows Tryz.f12 607 (.s (.s .z (.s .z (.v [.sel [] []]))) (.s (.b (.s (.s (.d [] [(5,.e 68 qj)] [(0,.c q83.b)] []) .z) (.s (.d [] [(5,.e 78 qj)] [(0,.c qbd0.b)] []) .z))) (.v [.sel [1,6] [0]]))) S113_ (qf3) (fun f v K n=>f (v.l 3 0) (v.l 3 1) (v.l 3 2) (qq5 K) n) (fun v f K=>qf2 (v.i 24 0) (v.l 3 0) (v.l 3 1) (v.l 3 2) f (qq5 K)) (fun f v=>f (v.i 24 0)) (fun k v=>(fun z0=>k (v.ui 24 0 z0)))
def qmy (Aa Ab Ac:LA):Option Int:=
 (oB (qus Aa) fun r1=>(bif(r1 != (0:Int))then(some r1)else(oB (qut Ab) fun r2=>(bif(r2 != (0:Int))then(some r2)else(bif(decide ((Ac.length:Int)>32))then(some (9:Int))else(qv9 Aa Ab Ac (fun(_:Unit)=>(qpi Aa Ab Ac (fun(_:Unit)=>(some (0:Int))) FU (0:Int))) FU (0:Int)))))))
def quw:=hull qmy
theorem qbb9:quw=qmy:=qa _
def qbd1 {R:Type}:EntF Tryz.prog R:=entB (nt:=83) (dec:=(decI .i64)) (enc:=(AV.int .i64)) tabOk follows Tryz.func12 [.t 2] hdeI (.s .z (.s (.s (.r [(2,.c qbdv.b)] []) .z) (.s (.s (.r [(2,.c qbdy.b)] []) .z) (.s .z (.s (.s .z (.b (.sub [.sel [1,5] [0]] q4q []))) (.s (.s .z (.b (.sub [.sel [1,6] [0]] q4r []))) .z)))))) S4_ qmy (fun f v=>f (v.l 1 0) (v.l 1 1) (v.l 1 2))
def qgt (Aa Ab Ac:LA):Option Bool:=
 (oB (qsx Aa Ab Ac ([]:List AV)) fun r1=>(bif r1 then(oB (qp6) fun r2=>(some r2))else(oB (qyr Aa Ab Ac) fun r3=>(oB (quw Aa Ab Ac) fun r4=>(bif(r3==r4)then(oB (qp6) fun r5=>(some r5))else(some false))))))
def qid:=hull qgt
theorem qyy:qid=qgt:=qa _
def qz2 {R:Type}:EntF Tryz.prog R:=entB (nt:=14) (dec:=decB) (enc:=AV.bool) tabOk follows Tryz.func7 [.t 2] hdeB (.s .z (.s (.s (.r [(1,.c qbas.b)] []) (.s (.s (.r [(0,.c qym.b)] []) .z) .z)) (.s (.d [] [(1,.c qbhp.b)] [(0,.c qbd1.b),(3,.c qym.b)] []) .z))) S4_ qgt (fun f v=>f (v.l 1 0) (v.l 1 1) (v.l 1 2))
end
end Go.Proofs.YtoaaphlopbabeaaGreatDoor.Dn
