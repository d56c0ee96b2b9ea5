import Derived.Test.YtoaaphlopbabeaaGreatDoorProg
import Derived.Test.YtoaaphlopbabeaaGreatDoorCULibD
import Derived.Test.YtoaaphlopbabeaaGreatDoorCUDn51x1
set_option linter.all false
namespace Go.Proofs.YtoaaphlopbabeaaGreatDoor.Dn
open Go Go.Pev
set_option maxRecDepth 100000
set_option maxHeartbeats 4000000
noncomputable section
def qlh:Option Bool:=
 (oB (qqv (8:Int)) fun r1=>(oB (qqv (8:Int)) fun r2=>(oB (qdv ([]:List AV) ([]:List AV) ([]:List AV) (1:Int) (gB r1.cells 0) (gI r1.cells 1) (gI r1.cells 2) (gI r1.cells 3) (1:Int) ([110,101,116]:List UInt8) ([]:List UInt8) (0:Int) (0:Int) (0:Int) ([]:List UInt8) false (0:Int) (0:Int) (0:Int) ([]:List UInt8)) fun r3=>(oB (qdv ([]:List AV) ([]:List AV) ([]:List AV) (2:Int) (gB r2.cells 0) (gI r2.cells 1) (gI r2.cells 2) (gI r2.cells 3) (0:Int) ([]:List UInt8) ([]:List UInt8) (0:Int) (0:Int) (0:Int) ([]:List UInt8) false (0:Int) (0:Int) (0:Int) ([]:List UInt8)) fun r4=>(oB (qir ([]:List AV) ([]:List AV) ([]:List AV) (1:Int) (gB r1.cells 0) (gI r1.cells 1) (gI r1.cells 2) (gI r1.cells 3) (1:Int) ([110,101,116]:List UInt8) ([]:List UInt8) (0:Int) (0:Int) (0:Int) ([]:List UInt8) false (0:Int) (0:Int) (0:Int) ([]:List UInt8)) fun r5=>(bif(r3.2==0)then(bif(((gL r3.1.cells 0).length:Int)==1)then(oB (ixB (gL r3.1.cells 0) (0:Int)) fun y6=>(bif fitC qc y6.cells then(bif(((gB y6.cells 0)==(gB r1.cells 0))&&(((gI y6.cells 1)==(gI r1.cells 1))&&(((gI y6.cells 2)==(gI r1.cells 2))&&(((gI y6.cells 3)==(gI r1.cells 3))&&(((gI y6.cells 4)==1)&&(((gS y6.cells 5)==([110,101,116]:List UInt8))&&(((gS y6.cells 6)==([]:List UInt8))&&(((gI y6.cells 7)==0)&&true))))))))then(bif(r4.2==11)then(bif(r5.2==0)then(some (((gI r5.1.cells 0)==2)&&(((gB r5.1.cells 1)==(gB r2.cells 0))&&(((gI r5.1.cells 2)==(gI r2.cells 1))&&(((gI r5.1.cells 3)==(gI r2.cells 2))&&(((gI r5.1.cells 4)==(gI r2.cells 3))&&(((gI r5.1.cells 5)==0)&&(((gS r5.1.cells 6)==([]:List UInt8))&&(((gS r5.1.cells 7)==([]:List UInt8))&&(((gI r5.1.cells 8)==0)&&(((gI r5.1.cells 9)==0)&&(((gI r5.1.cells 10)==0)&&(((gS r5.1.cells 11)==([]:List UInt8))&&(((gB r5.1.cells 12)==false)&&(((gI r5.1.cells 13)==0)&&(((gI r5.1.cells 14)==0)&&(((gI r5.1.cells 15)==0)&&(((gS r5.1.cells 16)==([]:List UInt8))&&true))))))))))))))))))else(some false))else(some false))else(some false))else none))else(some false))else(some false)))))))
def qks:=hull qlh
theorem q60:qks=qlh:=qa _
def qp2 {R:Type}:EntF Tryz.prog R:=entB (nt:=64) (dec:=decB) (enc:=AV.bool) tabOk follows Tryz.func13 [.t 0] hdeB (.s .z (.s .z (.s (.r [(0,.c qyp.b)] []) (.s (.r [(0,.c qyp.b)] []) (.s (.r [(2,.k qkr.b)] []) (.s (.r [(2,.k qkr.b)] []) (.s (.r [(2,.c qvx.b)] []) (.s (.d [] [(11,.e 45 qc)] [] []) .z)))))))) (⟨[],[]⟩:Shp) qlh (fun f v=>f)
def S91_:Shp:=⟨[(0,.one (.l (.sl 8))),(3,.one (.l (.i .i64))),(4,.one (.ptr 0 0)),(10,.one (.l (.sl 8))),(11,.one (.l (.i .i64))),(12,.one (.l (.i .i64)))],[.box true (lk qc)]⟩
def S92_:Shp:=⟨[(0,.one (.l (.sl 8))),(10,.one (.l (.sl 8))),(11,.one (.l (.i .i64))),(12,.one (.l (.i .i64)))],[]⟩
def S93_:Shp:=⟨[(0,.one (.l (.sl 8)))],[]⟩
def q2w (v0:LA)(v3:Int)(v10:LA)(v11 v12:Int)(Av:Bool)(Aw Ax Ay Az:Int)(A0 A1:LU)(A2:Int)(K:Ex->Env->Mem->Option Int):=(fun(_:Unit)=>K .norm (qo [(0,(.sl 8 v0)),(3,(.int .i64 v3)),(4,(.ptr 0 0)),(10,(.sl 8 v10)),(11,(.int .i64 v11)),(12,(.int .i64 v12))]) (qh [(some (.box true (qp Av Aw Ax Ay Az A0 A1 A2)))]))
def qjr (v0:LA)(v3:Int)(v10:LA)(v11 v12:Int)(Av:Bool)(Aw Ax Ay Az:Int)(A0 A1:LU)(A2:Int)(kn:Unit->Option Int):Option Int:=
 (bif(decide (v3>0))then(oB (ixB v0 (IntKind.i64.wrap (v3-1))) fun y1=>(bif fitC qc y1.cells then(oB (qn6 Av Aw Ax Ay (gB y1.cells 0) (gI y1.cells 1) (gI y1.cells 2) (gI y1.cells 3)) fun r2=>(bif(decide (r2<0))then(some (7:Int))else(bif(r2==0)then(some (12:Int))else(kn ()))))else none))else(kn ()))
def qvy:=hull (qjr)
theorem q2x:qvy=qjr:=qa _
def q4b:SubB Tryz.prog (TIof Tryz.prog) 43 0 (kret [.t 2] (decI .i64)):=jnB tabOk follows Tryz.f57 11467 (.s .z (.s (.s (.d [] [(5,.e 29 qc)] [(0,.c qvk.b)] []) (.s .z (.s .z (.s .z (.v [.sel [0,3,4,10,11,12] [0]]))))) (.v [.sel [0,3,4,10,11,12] [0]]))) S91_ (qjr) (fun f v K=>f (v.l 0 0) (v.i 12 0) (v.l 40 0) (v.i 44 0) (v.i 48 0) (v.b 3 0) (v.i 3 1) (v.i 3 2) (v.i 3 3) (v.i 3 4) (v.s 3 5) (v.s 3 6) (v.i 3 7) (q2w (v.l 0 0) (v.i 12 0) (v.l 40 0) (v.i 44 0) (v.i 48 0) (v.b 3 0) (v.i 3 1) (v.i 3 2) (v.i 3 3) (v.i 3 4) (v.s 3 5) (v.s 3 6) (v.i 3 7) K))
def qrf (K:Ex->Env->Mem->Option Int):=(fun(_:Unit)=>K (.exit 0) (qo []) (qh []))
def qhe (v0 v10:LA)(v11 v12:Int)(next:Int->Option Int)(kx0:Unit->Option Int):Option Int:=
 (bif(decide (v12<v11))then(oB (ixB v10 v12) fun y1=>(bif fitC qc y1.cells then(oB (qnh (gB y1.cells 0) (gI y1.cells 1) (gI y1.cells 2) (gI y1.cells 3) (gI y1.cells 4) (gS y1.cells 5) (gS y1.cells 6) (gI y1.cells 7)) fun r2=>(bif(r2 != (0:Int))then(some r2)else(qvy v0 v12 v10 v11 v12 (gB y1.cells 0) (gI y1.cells 1) (gI y1.cells 2) (gI y1.cells 3) (gI y1.cells 4) (gS y1.cells 5) (gS y1.cells 6) (gI y1.cells 7) (fun(_:Unit)=>(oB (cutI v0 none (some v12)) fun s3=>(oB (qiv s3 (gB y1.cells 0) (gI y1.cells 1) (gI y1.cells 2) (gI y1.cells 3) (gI y1.cells 4) (gS y1.cells 5) (gS y1.cells 6) (gI y1.cells 7)) fun r4=>(bif r4 then(some (24:Int))else(next (IntKind.i64.wrap (v12+1))))))))))else none))else(kx0 ()))
def qhf (v0 v10:LA)(v11:Int)(kx0:Unit->Option Int):Nat->Int->Option Int
 |0=>(fun _=>none)
 |n+1=>(fun v12=>qhe v0 v10 v11 v12 (qhf v0 v10 v11 kx0 n) kx0)
def qvz:=hull (qhf)
theorem q2y:qvz=qhf:=qa _
def q4c:SubB Tryz.prog (TIof Tryz.prog) 43 0 (kret [.t 2] (decI .i64)):=lpB tabOk follows Tryz.f57 75 (.s .z (.s (.s .z (.v [.sel [] []])) (.s (.b (.s (.r [(1,.p (.etac 15 qc))] []) (.s (.s (.r [(1,.c qyt.b)] []) .z) (.s (.sub [.sel [0,3,4,10,11,12] [0]] q4b []) (.s (.d [] [] [(0,.c qth.b)] []) .z))))) (.v [.sel [0,10,11,12] []])))) S92_ (qhf) (fun f v K n=>f (v.l 0 0) (v.l 40 0) (v.i 44 0) (qrf K) n) (fun v f K=>qhe (v.l 0 0) (v.l 40 0) (v.i 44 0) (v.i 48 0) f (qrf K)) (fun f v=>f (v.i 48 0)) (fun k v=>(fun z0=>k (v.ui 48 0 z0)))
def qoe (v0:LA):Option Int:=
 (bif(decide ((v0.length:Int)>512))then(some (9:Int))else(qvz v0 v0 (v0.length:Int) (fun(_:Unit)=>(some (0:Int))) FU (0:Int)))
def qv0:=hull qoe
theorem q9o:qv0=qoe:=qa _
def qbb6 {R:Type}:EntF Tryz.prog R:=entB (nt:=43) (dec:=(decI .i64)) (enc:=(AV.int .i64)) tabOk follows Tryz.func57 [.t 2] hdeI (.s .z (.s .z (.s (.s .z (.b (.sub [.sel [0,10,11,12] []] q4c []))) .z))) S93_ qoe (fun f v=>f (v.l 0 0))
def S94_:Shp:=⟨[(1,.one (.ptr 0 0)),(5,.one (.l (.i .i64))),(6,.one (.l .s)),(26,.one (.l (.sl 1))),(27,.one (.l (.i .i64))),(28,.one (.l (.i .i64)))],[.box true (lk qby)]⟩
def S95_:Shp:=⟨[(1,.one (.ptr 0 0)),(26,.one (.l (.sl 1))),(27,.one (.l (.i .i64))),(28,.one (.l (.i .i64)))],[.box true (lk qby)]⟩
def S96_:Shp:=⟨[(1,.one (.ptr 0 0)),(53,.one (.l (.sl 5))),(54,.one (.l (.i .i64))),(55,.one (.l (.i .i64)))],[.box true (lk qby)]⟩
def q2z (v26:LA)(v27 v28:Int)(Av Aw Ax:LA)(K:Ex->Env->Mem->Option Int):=(fun z_v50=>K .norm (qo [(1,(.ptr 0 0)),(26,(.sl 1 v26)),(27,(.int .i64 v27)),(28,(.int .i64 v28)),(50,(.bool z_v50))]) (qh [(some (.box true (qcg Av Aw Ax)))]))
def qjs (v5:Int)(v6:LU)(v26:LA)(v27 v28:Int)(Av Aw Ax:LA)(kn:Bool->Option Int):Option Int:=
 (oB (qeu v6) fun r1=>(bif(!r1)then(kn true)else(bif(decide (v5>0))then(oB (ixB Ax (IntKind.i64.wrap (v5-1))) fun y2=>(bif fitC [.s] y2.cells then(oB (qlz (gS y2.cells 0) v6) fun r3=>(kn (decide (r3>=0))))else none))else(kn false))))
def qp3:=hull (qjs)
theorem q20:qp3=qjs:=qa _
def q4d:SubB Tryz.prog (TIof Tryz.prog) 71 0 (kret [.t 2] (decI .i64)):=jnB tabOk follows Tryz.f23 21295 (.r [(1,.c qf1.b),(11,.p (.etac 44 [.s])),(14,.c qrd.b)] [.sel [1,26,27,28,50] [0]]) S94_ (qjs) (fun f v K=>f (v.i 20 0) (v.s 24 0) (v.l 104 0) (v.i 108 0) (v.i 112 0) (v.l 3 0) (v.l 3 1) (v.l 3 2) (q2z (v.l 104 0) (v.i 108 0) (v.i 112 0) (v.l 3 0) (v.l 3 1) (v.l 3 2) K))
def qrg (Av Aw Ax:LA)(K:Ex->Env->Mem->Option Int):=(fun(_:Unit)=>K (.exit 0) (qo [(1,(.ptr 0 0))]) (qh [(some (.box true (qcg Av Aw Ax)))]))
def qhg (v26:LA)(v27 v28:Int)(Av Aw Ax:LA)(next:Int->Option Int)(kx0:Unit->Option Int):Option Int:=
 (bif(decide (v28<v27))then(oB (ixB v26 v28) fun y1=>(bif fitC [.s] y1.cells then(qp3 v28 (gS y1.cells 0) v26 v27 v28 Av Aw Ax (fun v50q2=>(bif v50q2 then(some (2:Int))else(next (IntKind.i64.wrap (v28+1))))))else none))else(kx0 ()))
def qhh (v26:LA)(v27:Int)(Av Aw Ax:LA)(kx0:Unit->Option Int):Nat->Int->Option Int
 |0=>(fun _=>none)
 |n+1=>(fun v28=>qhg v26 v27 v28 Av Aw Ax (qhh v26 v27 Av Aw Ax kx0 n) kx0)
def qv1:=hull (qhh)
theorem q21:qv1=qhh:=qa _
def q4e:SubB Tryz.prog (TIof Tryz.prog) 71 0 (kret [.t 2] (decI .i64)):=lpB tabOk follows Tryz.f23 303 (.s .z (.s (.s .z (.v [.sel [1] [0]])) (.s (.b (.s (.r [(1,.p (.etac 31 [.s]))] []) (.s (.sub [.sel [1,5,6,26,27,28] [0]] q4d []) .z))) (.v [.sel [1,26,27,28] [0]])))) S95_ (qhh) (fun f v K n=>f (v.l 104 0) (v.i 108 0) (v.l 3 0) (v.l 3 1) (v.l 3 2) (qrg (v.l 3 0) (v.l 3 1) (v.l 3 2) K) n) (fun v f K=>qhg (v.l 104 0) (v.i 108 0) (v.i 112 0) (v.l 3 0) (v.l 3 1) (v.l 3 2) f (qrg (v.l 3 0) (v.l 3 1) (v.l 3 2) K)) (fun f v=>f (v.i 112 0)) (fun k v=>(fun z0=>k (v.ui 112 0 z0)))
def qrh (K:Ex->Env->Mem->Option Int):=(fun(_:Unit)=>K (.exit 2) (qo []) (qh []))
def qhi (v53:LA)(v54 v55:Int)(Av Aw Ax:LA)(next:Int->Option Int)(kx2:Unit->Option Int):Option Int:=
 (bif(decide (v55<v54))then(oB (ixB v53 v55) fun y1=>(bif fitC qm y1.cells then(oB (qjh Av (gS y1.cells 0) (gB y1.cells 1) (gI y1.cells 2) (gI y1.cells 3) (gI y1.cells 4)) fun r2=>(bif(!r2)then(some (25:Int))else(oB (qkq Ax (gS y1.cells 0)) fun r3=>(bif(!r3)then(some (13:Int))else(next (IntKind.i64.wrap (v55+1)))))))else none))else(kx2 ()))
def qhj (v53:LA)(v54:Int)(Av Aw Ax:LA)(kx2:Unit->Option Int):Nat->Int->Option Int
 |0=>(fun _=>none)
 |n+1=>(fun v55=>qhi v53 v54 v55 Av Aw Ax (qhj v53 v54 Av Aw Ax kx2 n) kx2)
def qp4:=hull (qhj)
theorem q23:qp4=qhj:=qa _
def q4f:SubB Tryz.prog (TIof Tryz.prog) 71 0 (kret [.t 2] (decI .i64)):=lpB tabOk follows Tryz.f23 607 (.s .z (.s (.s .z (.v [.sel [] []])) (.s (.b (.s (.r [(0,.p (.etac 57 qm))] []) (.s (.s (.r [(3,.c qov.b)] []) .z) (.s (.r [(4,.c qpz.b)] []) .z)))) (.v [.sel [1,53,54,55] [0]])))) S96_ (qhj) (fun f v K n=>f (v.l 212 0) (v.i 216 0) (v.l 3 0) (v.l 3 1) (v.l 3 2) (qrh K) n) (fun v f K=>qhi (v.l 212 0) (v.i 216 0) (v.i 220 0) (v.l 3 0) (v.l 3 1) (v.l 3 2) f (qrh K)) (fun f v=>f (v.i 220 0)) (fun k v=>(fun z0=>k (v.ui 220 0 z0)))
def qof (Aa Ab Ac:LA):Option Int:=
 (oB (qv0 Aa) fun r1=>(bif(r1 != (0:Int))then(some r1)else(oB (qpm Ab) fun r2=>(bif(r2 != (0:Int))then(some r2)else(bif(decide ((Ac.length:Int)>32))then(some (9:Int))else(qv1 Ac (Ac.length:Int) Aa Ab Ac (fun(_:Unit)=>(qp4 Ab (Ab.length:Int) Aa Ab Ac (fun(_:Unit)=>(some (0:Int))) FU (0:Int))) FU (0:Int)))))))
def qv2:=hull qof
theorem q9p:qv2=qof:=qa _
def qbb7 {R:Type}:EntF Tryz.prog R:=entB (nt:=71) (dec:=(decI .i64)) (enc:=(AV.int .i64)) tabOk follows Tryz.func23 [.t 2] hdeI (.s .z (.s (.s (.r [(2,.c qbb6.b)] []) .z) (.s (.s (.r [(2,.c qxj.b)] []) .z) (.s .z (.s (.s .z (.b (.sub [.sel [1,26,27,28] [0]] q4e []))) (.s (.s .z (.b (.sub [.sel [1,53,54,55] [0]] q4f []))) .z)))))) S4_ qof (fun f v=>f (v.l 1 0) (v.l 1 1) (v.l 1 2))
def S136_:Shp:=⟨[(2,.one (.ptr 0 0)),(3,.one (.ptr 1 0)),(35,.one (.l (.i .i64))),(36,.one (.l (.i .i64)))],[.box true (lk qby),.box true (lk qby)]⟩
def S137_:Shp:=⟨[(2,.one (.ptr 0 0)),(3,.one (.ptr 1 0)),(53,.one (.l (.i .i64))),(54,.one (.l (.i .i64)))],[.box true (lk qby),.box true (lk qby)]⟩
def S138_:Shp:=⟨[(2,.one (.ptr 0 0)),(3,.one (.ptr 1 0)),(71,.one (.l (.i .i64))),(72,.one (.l (.i .i64)))],[.box true (lk qby),.box true (lk qby)]⟩
def S139_:Shp:=⟨[(0,.st (lk qby)),(1,.st (lk qby))],[]⟩
def qqd (Av Aw Ax Ad Ae Af:LA)(K:Ex->Env->Mem->Option Bool):=(fun(_:Unit)=>K (.exit 0) (qo [(2,(.ptr 0 0)),(3,(.ptr 1 0))]) (qh [(some (.box true (qcg Av Aw Ax))),(some (.box true (qcg Ad Ae Af)))]))
def qgh (v35 v36:Int)(Av Aw Ax Ad Ae Af:LA)(next:Int->Option Bool)(kx0:Unit->Option Bool):Option Bool:=
 (bif(decide (v36<v35))then(oB (ixB Av v36) fun y1=>(bif fitC qc y1.cells then(oB (ixB Ad v36) fun y2=>(bif fitC qc y2.cells then(bif(!(((gB y1.cells 0)==(gB y2.cells 0))&&(((gI y1.cells 1)==(gI y2.cells 1))&&(((gI y1.cells 2)==(gI y2.cells 2))&&(((gI y1.cells 3)==(gI y2.cells 3))&&(((gI y1.cells 4)==(gI y2.cells 4))&&(((gS y1.cells 5)==(gS y2.cells 5))&&(((gS y1.cells 6)==(gS y2.cells 6))&&(((gI y1.cells 7)==(gI y2.cells 7))&&true)))))))))then(some false)else(next (IntKind.i64.wrap (v36+1))))else none))else none))else(kx0 ()))
def qgi (v35:Int)(Av Aw Ax Ad Ae Af:LA)(kx0:Unit->Option Bool):Nat->Int->Option Bool
 |0=>(fun _=>none)
 |n+1=>(fun v36=>qgh v35 v36 Av Aw Ax Ad Ae Af (qgi v35 Av Aw Ax Ad Ae Af kx0 n) kx0)
def qoy:=hull (qgi)
theorem q0i:qoy=qgi:=qa _
def q24:SubB Tryz.prog (TIof Tryz.prog) 87 0 (kret [.t 4] decB):=lpB tabOk follows Tryz.f16 75 (.s .z (.s (.s .z (.v [.sel [2,3] [0,1]])) (.s (.b (.s .z (.s (.d [] [(3,.e 42 qc),(8,.e 47 qc)] [] []) .z))) (.v [.sel [2,3,35,36] [0,1]])))) S136_ (qgi) (fun f v K n=>f (v.i 140 0) (v.l 3 0) (v.l 3 1) (v.l 3 2) (v.l 7 0) (v.l 7 1) (v.l 7 2) (qqd (v.l 3 0) (v.l 3 1) (v.l 3 2) (v.l 7 0) (v.l 7 1) (v.l 7 2) K) n) (fun v f K=>qgh (v.i 140 0) (v.i 144 0) (v.l 3 0) (v.l 3 1) (v.l 3 2) (v.l 7 0) (v.l 7 1) (v.l 7 2) f (qqd (v.l 3 0) (v.l 3 1) (v.l 3 2) (v.l 7 0) (v.l 7 1) (v.l 7 2) K)) (fun f v=>f (v.i 144 0)) (fun k v=>(fun z0=>k (v.ui 144 0 z0)))
def qqe (Av Aw Ax Ad Ae Af:LA)(K:Ex->Env->Mem->Option Bool):=(fun(_:Unit)=>K (.exit 2) (qo [(2,(.ptr 0 0)),(3,(.ptr 1 0))]) (qh [(some (.box true (qcg Av Aw Ax))),(some (.box true (qcg Ad Ae Af)))]))
def qgj (v53 v54:Int)(Av Aw Ax Ad Ae Af:LA)(next:Int->Option Bool)(kx2:Unit->Option Bool):Option Bool:=
 (bif(decide (v54<v53))then(oB (ixB Aw v54) fun y1=>(bif fitC qm y1.cells then(oB (ixB Ae v54) fun y2=>(bif fitC qm y2.cells then(bif(!(((gS y1.cells 0)==(gS y2.cells 0))&&(((gB y1.cells 1)==(gB y2.cells 1))&&(((gI y1.cells 2)==(gI y2.cells 2))&&(((gI y1.cells 3)==(gI y2.cells 3))&&(((gI y1.cells 4)==(gI y2.cells 4))&&true))))))then(some false)else(next (IntKind.i64.wrap (v54+1))))else none))else none))else(kx2 ()))
def qgk (v53:Int)(Av Aw Ax Ad Ae Af:LA)(kx2:Unit->Option Bool):Nat->Int->Option Bool
 |0=>(fun _=>none)
 |n+1=>(fun v54=>qgj v53 v54 Av Aw Ax Ad Ae Af (qgk v53 Av Aw Ax Ad Ae Af kx2 n) kx2)
def qoz:=hull (qgk)
theorem q0j:qoz=qgk:=qa _
def q25:SubB Tryz.prog (TIof Tryz.prog) 87 0 (kret [.t 4] decB):=lpB tabOk follows Tryz.f16 151 (.s .z (.s (.s .z (.v [.sel [2,3] [0,1]])) (.s (.b (.s .z (.s (.d [] [(3,.e 60 qm),(8,.e 65 qm)] [] []) .z))) (.v [.sel [2,3,53,54] [0,1]])))) S137_ (qgk) (fun f v K n=>f (v.i 212 0) (v.l 3 0) (v.l 3 1) (v.l 3 2) (v.l 7 0) (v.l 7 1) (v.l 7 2) (qqe (v.l 3 0) (v.l 3 1) (v.l 3 2) (v.l 7 0) (v.l 7 1) (v.l 7 2) K) n) (fun v f K=>qgj (v.i 212 0) (v.i 216 0) (v.l 3 0) (v.l 3 1) (v.l 3 2) (v.l 7 0) (v.l 7 1) (v.l 7 2) f (qqe (v.l 3 0) (v.l 3 1) (v.l 3 2) (v.l 7 0) (v.l 7 1) (v.l 7 2) K)) (fun f v=>f (v.i 216 0)) (fun k v=>(fun z0=>k (v.ui 216 0 z0)))
def qqf (K:Ex->Env->Mem->Option Bool):=(fun(_:Unit)=>K (.exit 4) (qo []) (qh []))
def qgl (v71 v72:Int)(Av Aw Ax Ad Ae Af:LA)(next:Int->Option Bool)(kx4:Unit->Option Bool):Option Bool:=
 (bif(decide (v72<v71))then(oB (ixB Ax v72) fun y1=>(bif fitC [.s] y1.cells then(oB (ixB Af v72) fun y2=>(bif fitC [.s] y2.cells then(bif(!((gS y1.cells 0)==(gS y2.cells 0)))then(some false)else(next (IntKind.i64.wrap (v72+1))))else none))else none))else(kx4 ()))
def qgm (v71:Int)(Av Aw Ax Ad Ae Af:LA)(kx4:Unit->Option Bool):Nat->Int->Option Bool
 |0=>(fun _=>none)
 |n+1=>(fun v72=>qgl v71 v72 Av Aw Ax Ad Ae Af (qgm v71 Av Aw Ax Ad Ae Af kx4 n) kx4)
def qo0:=hull (qgm)
theorem q0k:qo0=qgm:=qa _
def q26:SubB Tryz.prog (TIof Tryz.prog) 87 0 (kret [.t 4] decB):=lpB tabOk follows Tryz.f16 303 (.s .z (.s (.s .z (.v [.sel [] []])) (.s (.b (.s .z (.s (.d [] [(3,.e 78 [.s]),(8,.e 83 [.s])] [] []) .z))) (.v [.sel [2,3,71,72] [0,1]])))) S138_ (qgm) (fun f v K n=>f (v.i 284 0) (v.l 3 0) (v.l 3 1) (v.l 3 2) (v.l 7 0) (v.l 7 1) (v.l 7 2) (qqf K) n) (fun v f K=>qgl (v.i 284 0) (v.i 288 0) (v.l 3 0) (v.l 3 1) (v.l 3 2) (v.l 7 0) (v.l 7 1) (v.l 7 2) f (qqf K)) (fun f v=>f (v.i 288 0)) (fun k v=>(fun z0=>k (v.ui 288 0 z0)))
def qm6 (Aa Ab Ac B7 B8 B9:LA):Option Bool:=
 (bif((((Aa.length:Int) != (B7.length:Int))||((Ab.length:Int) != (B8.length:Int)))||((Ac.length:Int) != (B9.length:Int)))then(some false)else(qoy (Aa.length:Int) Aa Ab Ac B7 B8 B9 (fun(_:Unit)=>(qoz (Ab.length:Int) Aa Ab Ac B7 B8 B9 (fun(_:Unit)=>(qo0 (Ac.length:Int) Aa Ab Ac B7 B8 B9 (fun(_:Unit)=>(some true)) FU (0:Int))) FU (0:Int))) FU (0:Int)))
def qpp:=hull qm6
theorem q8d:qpp=qm6:=qa _
def q9q {R:Type}:EntF Tryz.prog R:=entB (nt:=87) (dec:=decB) (enc:=AV.bool) tabOk follows Tryz.func16 [.t 4] hdeB (.s .z (.s (.s (.r [(8,.g 7),(17,.g 7)] []) .z) (.s (.s .z (.b (.sub [.sel [2,3,35,36] [0,1]] q24 []))) (.s (.s .z (.b (.sub [.sel [2,3,53,54] [0,1]] q25 []))) (.s (.s .z (.b (.sub [.sel [2,3,71,72] [0,1]] q26 []))) .z))))) S139_ qm6 (fun f v=>f (v.l 1 0) (v.l 1 1) (v.l 1 2) (v.l 5 0) (v.l 5 1) (v.l 5 2))
def S140_:Shp:=⟨[(2,.one (.ptr 0 0)),(3,.one (.ptr 1 0))],[.box true (lk qby),.box true (lk qg5)]⟩
end
end Go.Proofs.YtoaaphlopbabeaaGreatDoor.Dn
