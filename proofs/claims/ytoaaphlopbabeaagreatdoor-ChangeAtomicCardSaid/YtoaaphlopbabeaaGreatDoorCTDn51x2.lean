import Derived.Test.YtoaaphlopbabeaaGreatDoorProg
import Derived.Test.YtoaaphlopbabeaaGreatDoorCTLibD
import Derived.Test.YtoaaphlopbabeaaGreatDoorCTDn51x1
set_option linter.all false
namespace Go.Proofs.YtoaaphlopbabeaaGreatDoor.Dn
open Go Go.Pev
set_option maxRecDepth 100000
set_option maxHeartbeats 4000000
noncomputable section
def qli:Option Bool:=
 (oB (qqw (8:Int)) fun r1=>(oB (qqw (8:Int)) fun r2=>(oB (qdl ([]:List AV) ([]:List AV) ([]:List AV) (1:Int) (gB r1.cells 0) (gI r1.cells 1) (gI r1.cells 2) (gI r1.cells 3) (1:Int) ([110,101,116]:List UInt8) ([]:List UInt8) (0:Int) (0:Int) (0:Int) ([]:List UInt8) false (0:Int) (0:Int) (0:Int) ([]:List UInt8)) fun r3=>(oB (qdl ([]:List AV) ([]:List AV) ([]:List AV) (2:Int) (gB r2.cells 0) (gI r2.cells 1) (gI r2.cells 2) (gI r2.cells 3) (0:Int) ([]:List UInt8) ([]:List UInt8) (0:Int) (0:Int) (0:Int) ([]:List UInt8) false (0:Int) (0:Int) (0:Int) ([]:List UInt8)) fun r4=>(oB (qoi ([]:List AV) ([]:List AV) ([]:List AV) (1:Int) (gB r1.cells 0) (gI r1.cells 1) (gI r1.cells 2) (gI r1.cells 3) (1:Int) ([110,101,116]:List UInt8) ([]:List UInt8) (0:Int) (0:Int) (0:Int) ([]:List UInt8) false (0:Int) (0:Int) (0:Int) ([]:List UInt8)) fun r5=>(bif(r3.2==0)then(bif(((gL r3.1.cells 0).length:Int)==1)then(oB (ixB (gL r3.1.cells 0) (0:Int)) fun y6=>(bif fitC qc y6.cells then(bif(((gB y6.cells 0)==(gB r1.cells 0))&&(((gI y6.cells 1)==(gI r1.cells 1))&&(((gI y6.cells 2)==(gI r1.cells 2))&&(((gI y6.cells 3)==(gI r1.cells 3))&&(((gI y6.cells 4)==1)&&(((gS y6.cells 5)==([110,101,116]:List UInt8))&&(((gS y6.cells 6)==([]:List UInt8))&&(((gI y6.cells 7)==0)&&true))))))))then(bif(r4.2==11)then(bif(r5.2==0)then(some (((gI r5.1.cells 0)==2)&&(((gB r5.1.cells 1)==(gB r2.cells 0))&&(((gI r5.1.cells 2)==(gI r2.cells 1))&&(((gI r5.1.cells 3)==(gI r2.cells 2))&&(((gI r5.1.cells 4)==(gI r2.cells 3))&&(((gI r5.1.cells 5)==0)&&(((gS r5.1.cells 6)==([]:List UInt8))&&(((gS r5.1.cells 7)==([]:List UInt8))&&(((gI r5.1.cells 8)==0)&&(((gI r5.1.cells 9)==0)&&(((gI r5.1.cells 10)==0)&&(((gS r5.1.cells 11)==([]:List UInt8))&&(((gB r5.1.cells 12)==false)&&(((gI r5.1.cells 13)==0)&&(((gI r5.1.cells 14)==0)&&(((gI r5.1.cells 15)==0)&&(((gS r5.1.cells 16)==([]:List UInt8))&&true))))))))))))))))))else(some false))else(some false))else(some false))else none))else(some false))else(some false)))))))
def qiq:=hull qli
theorem q66:qiq=qli:=qa _
def qlj {R:Type}:EntF Tryz.prog R:=entB (nt:=64) (dec:=decB) (enc:=AV.bool) tabOk follows Tryz.func13 [.t 0] hdeB (.s .z (.s .z (.s (.r [(0,.c qyu.b)] []) (.s (.r [(0,.c qyu.b)] []) (.s (.r [(2,.k qkt.b)] []) (.s (.r [(2,.k qkt.b)] []) (.s (.r [(2,.c q8l.b)] []) (.s (.d [] [(11,.e 45 qc)] [] []) .z)))))))) (⟨[],[]⟩:Shp) qli (fun f v=>f)
def S91_:Shp:=⟨[(0,.one (.l (.sl 8))),(3,.one (.l (.i .i64))),(4,.one (.ptr 0 0)),(10,.one (.l (.sl 8))),(11,.one (.l (.i .i64))),(12,.one (.l (.i .i64)))],[.box true (lk qc)]⟩
def S92_:Shp:=⟨[(0,.one (.l (.sl 8))),(10,.one (.l (.sl 8))),(11,.one (.l (.i .i64))),(12,.one (.l (.i .i64)))],[]⟩
def S93_:Shp:=⟨[(0,.one (.l (.sl 8)))],[]⟩
def q21 (v0:LA)(v3:Int)(v10:LA)(v11 v12:Int)(Av:Bool)(Aw Ax Ay Az:Int)(A0 A1:LU)(A2:Int)(K:Ex->Env->Mem->Option Int):=(fun(_:Unit)=>K .norm (qo [(0,(.sl 8 v0)),(3,(.int .i64 v3)),(4,(.ptr 0 0)),(10,(.sl 8 v10)),(11,(.int .i64 v11)),(12,(.int .i64 v12))]) (qh [(some (.box true (qp Av Aw Ax Ay Az A0 A1 A2)))]))
def qjs (v0:LA)(v3:Int)(v10:LA)(v11 v12:Int)(Av:Bool)(Aw Ax Ay Az:Int)(A0 A1:LU)(A2:Int)(kn:Unit->Option Int):Option Int:=
 (bif(decide (v3>0))then(oB (ixB v0 (IntKind.i64.wrap (v3-1))) fun y1=>(bif fitC qc y1.cells then(oB (qoa Av Aw Ax Ay (gB y1.cells 0) (gI y1.cells 1) (gI y1.cells 2) (gI y1.cells 3)) fun r2=>(bif(decide (r2<0))then(some (7:Int))else(bif(r2==0)then(some (12:Int))else(kn ()))))else none))else(kn ()))
def qv7:=hull (qjs)
theorem q23:qv7=qjs:=qa _
def q4g:SubB Tryz.prog (TIof Tryz.prog) 43 0 (kret [.t 2] (decI .i64)):=jnB tabOk follows Tryz.f57 11467 (.s .z (.s (.s (.d [] [(5,.e 29 qc)] [(0,.c qvu.b)] []) (.s .z (.s .z (.s .z (.v [.sel [0,3,4,10,11,12] [0]]))))) (.v [.sel [0,3,4,10,11,12] [0]]))) S91_ (qjs) (fun f v K=>f (v.l 0 0) (v.i 12 0) (v.l 40 0) (v.i 44 0) (v.i 48 0) (v.b 3 0) (v.i 3 1) (v.i 3 2) (v.i 3 3) (v.i 3 4) (v.s 3 5) (v.s 3 6) (v.i 3 7) (q21 (v.l 0 0) (v.i 12 0) (v.l 40 0) (v.i 44 0) (v.i 48 0) (v.b 3 0) (v.i 3 1) (v.i 3 2) (v.i 3 3) (v.i 3 4) (v.s 3 5) (v.s 3 6) (v.i 3 7) K))
def qrf (K:Ex->Env->Mem->Option Int):=(fun(_:Unit)=>K (.exit 0) (qo []) (qh []))
def qhe (v0 v10:LA)(v11 v12:Int)(next:Int->Option Int)(kx0:Unit->Option Int):Option Int:=
 (bif(decide (v12<v11))then(oB (ixB v10 v12) fun y1=>(bif fitC qc y1.cells then(oB (qnj (gB y1.cells 0) (gI y1.cells 1) (gI y1.cells 2) (gI y1.cells 3) (gI y1.cells 4) (gS y1.cells 5) (gS y1.cells 6) (gI y1.cells 7)) fun r2=>(bif(r2 != (0:Int))then(some r2)else(qv7 v0 v12 v10 v11 v12 (gB y1.cells 0) (gI y1.cells 1) (gI y1.cells 2) (gI y1.cells 3) (gI y1.cells 4) (gS y1.cells 5) (gS y1.cells 6) (gI y1.cells 7) (fun(_:Unit)=>(oB (cutI v0 none (some v12)) fun s3=>(oB (qit s3 (gB y1.cells 0) (gI y1.cells 1) (gI y1.cells 2) (gI y1.cells 3) (gI y1.cells 4) (gS y1.cells 5) (gS y1.cells 6) (gI y1.cells 7)) fun r4=>(bif r4 then(some (24:Int))else(next (IntKind.i64.wrap (v12+1))))))))))else none))else(kx0 ()))
def qhf (v0 v10:LA)(v11:Int)(kx0:Unit->Option Int):Nat->Int->Option Int
 |0=>(fun _=>none)
 |n+1=>(fun v12=>qhe v0 v10 v11 v12 (qhf v0 v10 v11 kx0 n) kx0)
def qv8:=hull (qhf)
theorem q24:qv8=qhf:=qa _
def q4h:SubB Tryz.prog (TIof Tryz.prog) 43 0 (kret [.t 2] (decI .i64)):=lpB tabOk follows Tryz.f57 75 (.s .z (.s (.s .z (.v [.sel [] []])) (.s (.b (.s (.r [(1,.p (.etac 15 qc))] []) (.s (.s (.r [(1,.c qyy.b)] []) .z) (.s (.sub [.sel [0,3,4,10,11,12] [0]] q4g []) (.s (.d [] [] [(0,.c qto.b)] []) .z))))) (.v [.sel [0,10,11,12] []])))) S92_ (qhf) (fun f v K n=>f (v.l 0 0) (v.l 40 0) (v.i 44 0) (qrf K) n) (fun v f K=>qhe (v.l 0 0) (v.l 40 0) (v.i 44 0) (v.i 48 0) f (qrf K)) (fun f v=>f (v.i 48 0)) (fun k v=>(fun z0=>k (v.ui 48 0 z0)))
def qoj (v0:LA):Option Int:=
 (bif(decide ((v0.length:Int)>512))then(some (9:Int))else(qv8 v0 v0 (v0.length:Int) (fun(_:Unit)=>(some (0:Int))) FU (0:Int)))
def qv9:=hull qoj
theorem q9x:qv9=qoj:=qa _
def qbce {R:Type}:EntF Tryz.prog R:=entB (nt:=43) (dec:=(decI .i64)) (enc:=(AV.int .i64)) tabOk follows Tryz.func57 [.t 2] hdeI (.s .z (.s .z (.s (.s .z (.b (.sub [.sel [0,10,11,12] []] q4h []))) .z))) S93_ qoj (fun f v=>f (v.l 0 0))
def S94_:Shp:=⟨[(1,.one (.ptr 0 0)),(5,.one (.l (.i .i64))),(6,.one (.l .s)),(26,.one (.l (.sl 1))),(27,.one (.l (.i .i64))),(28,.one (.l (.i .i64)))],[.box true (lk qbg)]⟩
def S95_:Shp:=⟨[(1,.one (.ptr 0 0)),(26,.one (.l (.sl 1))),(27,.one (.l (.i .i64))),(28,.one (.l (.i .i64)))],[.box true (lk qbg)]⟩
def S96_:Shp:=⟨[(1,.one (.ptr 0 0)),(53,.one (.l (.sl 5))),(54,.one (.l (.i .i64))),(55,.one (.l (.i .i64)))],[.box true (lk qbg)]⟩
def q25 (v26:LA)(v27 v28:Int)(Av Aw Ax:LA)(K:Ex->Env->Mem->Option Int):=(fun z_v50=>K .norm (qo [(1,(.ptr 0 0)),(26,(.sl 1 v26)),(27,(.int .i64 v27)),(28,(.int .i64 v28)),(50,(.bool z_v50))]) (qh [(some (.box true (qbv Av Aw Ax)))]))
def qjt (v5:Int)(v6:LU)(v26:LA)(v27 v28:Int)(Av Aw Ax:LA)(kn:Bool->Option Int):Option Int:=
 (oB (qev v6) fun r1=>(bif(!r1)then(kn true)else(bif(decide (v5>0))then(oB (ixB Ax (IntKind.i64.wrap (v5-1))) fun y2=>(bif fitC [.s] y2.cells then(oB (ql1 (gS y2.cells 0) v6) fun r3=>(kn (decide (r3>=0))))else none))else(kn false))))
def qp4:=hull (qjt)
theorem q26:qp4=qjt:=qa _
def q4i:SubB Tryz.prog (TIof Tryz.prog) 71 0 (kret [.t 2] (decI .i64)):=jnB tabOk follows Tryz.f23 21295 (.r [(1,.c qf3.b),(11,.p (.etac 44 [.s])),(14,.c qrd.b)] [.sel [1,26,27,28,50] [0]]) S94_ (qjt) (fun f v K=>f (v.i 20 0) (v.s 24 0) (v.l 104 0) (v.i 108 0) (v.i 112 0) (v.l 3 0) (v.l 3 1) (v.l 3 2) (q25 (v.l 104 0) (v.i 108 0) (v.i 112 0) (v.l 3 0) (v.l 3 1) (v.l 3 2) K))
def qrg (Av Aw Ax:LA)(K:Ex->Env->Mem->Option Int):=(fun(_:Unit)=>K (.exit 0) (qo [(1,(.ptr 0 0))]) (qh [(some (.box true (qbv Av Aw Ax)))]))
def qhg (v26:LA)(v27 v28:Int)(Av Aw Ax:LA)(next:Int->Option Int)(kx0:Unit->Option Int):Option Int:=
 (bif(decide (v28<v27))then(oB (ixB v26 v28) fun y1=>(bif fitC [.s] y1.cells then(qp4 v28 (gS y1.cells 0) v26 v27 v28 Av Aw Ax (fun v50q2=>(bif v50q2 then(some (2:Int))else(next (IntKind.i64.wrap (v28+1))))))else none))else(kx0 ()))
def qhh (v26:LA)(v27:Int)(Av Aw Ax:LA)(kx0:Unit->Option Int):Nat->Int->Option Int
 |0=>(fun _=>none)
 |n+1=>(fun v28=>qhg v26 v27 v28 Av Aw Ax (qhh v26 v27 Av Aw Ax kx0 n) kx0)
def qwa:=hull (qhh)
theorem q27:qwa=qhh:=qa _
def q4j:SubB Tryz.prog (TIof Tryz.prog) 71 0 (kret [.t 2] (decI .i64)):=lpB tabOk follows Tryz.f23 303 (.s .z (.s (.s .z (.v [.sel [1] [0]])) (.s (.b (.s (.r [(1,.p (.etac 31 [.s]))] []) (.s (.sub [.sel [1,5,6,26,27,28] [0]] q4i []) .z))) (.v [.sel [1,26,27,28] [0]])))) S95_ (qhh) (fun f v K n=>f (v.l 104 0) (v.i 108 0) (v.l 3 0) (v.l 3 1) (v.l 3 2) (qrg (v.l 3 0) (v.l 3 1) (v.l 3 2) K) n) (fun v f K=>qhg (v.l 104 0) (v.i 108 0) (v.i 112 0) (v.l 3 0) (v.l 3 1) (v.l 3 2) f (qrg (v.l 3 0) (v.l 3 1) (v.l 3 2) K)) (fun f v=>f (v.i 112 0)) (fun k v=>(fun z0=>k (v.ui 112 0 z0)))
def qrh (K:Ex->Env->Mem->Option Int):=(fun(_:Unit)=>K (.exit 2) (qo []) (qh []))
def qhi (v53:LA)(v54 v55:Int)(Av Aw Ax:LA)(next:Int->Option Int)(kx2:Unit->Option Int):Option Int:=
 (bif(decide (v55<v54))then(oB (ixB v53 v55) fun y1=>(bif fitC qm y1.cells then(oB (qjj Av (gS y1.cells 0) (gB y1.cells 1) (gI y1.cells 2) (gI y1.cells 3) (gI y1.cells 4)) fun r2=>(bif(!r2)then(some (25:Int))else(oB (qks Ax (gS y1.cells 0)) fun r3=>(bif(!r3)then(some (13:Int))else(next (IntKind.i64.wrap (v55+1)))))))else none))else(kx2 ()))
def qhj (v53:LA)(v54:Int)(Av Aw Ax:LA)(kx2:Unit->Option Int):Nat->Int->Option Int
 |0=>(fun _=>none)
 |n+1=>(fun v55=>qhi v53 v54 v55 Av Aw Ax (qhj v53 v54 Av Aw Ax kx2 n) kx2)
def qp5:=hull (qhj)
theorem q28:qp5=qhj:=qa _
def q4k:SubB Tryz.prog (TIof Tryz.prog) 71 0 (kret [.t 2] (decI .i64)):=lpB tabOk follows Tryz.f23 607 (.s .z (.s (.s .z (.v [.sel [] []])) (.s (.b (.s (.r [(0,.p (.etac 57 qm))] []) (.s (.s (.r [(3,.c qo0.b)] []) .z) (.s (.r [(4,.c qp2.b)] []) .z)))) (.v [.sel [1,53,54,55] [0]])))) S96_ (qhj) (fun f v K n=>f (v.l 212 0) (v.i 216 0) (v.l 3 0) (v.l 3 1) (v.l 3 2) (qrh K) n) (fun v f K=>qhi (v.l 212 0) (v.i 216 0) (v.i 220 0) (v.l 3 0) (v.l 3 1) (v.l 3 2) f (qrh K)) (fun f v=>f (v.i 220 0)) (fun k v=>(fun z0=>k (v.ui 220 0 z0)))
def qok (Aa Ab Ac:LA):Option Int:=
 (oB (qv9 Aa) fun r1=>(bif(r1 != (0:Int))then(some r1)else(oB (qpr Ab) fun r2=>(bif(r2 != (0:Int))then(some r2)else(bif(decide ((Ac.length:Int)>32))then(some (9:Int))else(qwa Ac (Ac.length:Int) Aa Ab Ac (fun(_:Unit)=>(qp5 Ab (Ab.length:Int) Aa Ab Ac (fun(_:Unit)=>(some (0:Int))) FU (0:Int))) FU (0:Int)))))))
def qiu:=hull qok
theorem q9y:qiu=qok:=qa _
def qzf {R:Type}:EntF Tryz.prog R:=entB (nt:=71) (dec:=(decI .i64)) (enc:=(AV.int .i64)) tabOk follows Tryz.func23 [.t 2] hdeI (.s .z (.s (.s (.r [(2,.c qbce.b)] []) .z) (.s (.s (.r [(2,.c qxp.b)] []) .z) (.s .z (.s (.s .z (.b (.sub [.sel [1,26,27,28] [0]] q4j []))) (.s (.s .z (.b (.sub [.sel [1,53,54,55] [0]] q4k []))) .z)))))) S4_ qok (fun f v=>f (v.l 1 0) (v.l 1 1) (v.l 1 2))
def S136_:Shp:=⟨[(2,.one (.ptr 0 0)),(3,.one (.ptr 1 0)),(35,.one (.l (.i .i64))),(36,.one (.l (.i .i64)))],[.box true (lk qbg),.box true (lk qbg)]⟩
def S137_:Shp:=⟨[(2,.one (.ptr 0 0)),(3,.one (.ptr 1 0)),(53,.one (.l (.i .i64))),(54,.one (.l (.i .i64)))],[.box true (lk qbg),.box true (lk qbg)]⟩
def S138_:Shp:=⟨[(2,.one (.ptr 0 0)),(3,.one (.ptr 1 0)),(71,.one (.l (.i .i64))),(72,.one (.l (.i .i64)))],[.box true (lk qbg),.box true (lk qbg)]⟩
def S139_:Shp:=⟨[(0,.st (lk qbg)),(1,.st (lk qbg))],[]⟩
def qqe (Av Aw Ax Ad Ae Af:LA)(K:Ex->Env->Mem->Option Bool):=(fun(_:Unit)=>K (.exit 0) (qo [(2,(.ptr 0 0)),(3,(.ptr 1 0))]) (qh [(some (.box true (qbv Av Aw Ax))),(some (.box true (qbv Ad Ae Af)))]))
def qgj (v35 v36:Int)(Av Aw Ax Ad Ae Af:LA)(next:Int->Option Bool)(kx0:Unit->Option Bool):Option Bool:=
 (bif(decide (v36<v35))then(oB (ixB Av v36) fun y1=>(bif fitC qc y1.cells then(oB (ixB Ad v36) fun y2=>(bif fitC qc y2.cells then(bif(!(((gB y1.cells 0)==(gB y2.cells 0))&&(((gI y1.cells 1)==(gI y2.cells 1))&&(((gI y1.cells 2)==(gI y2.cells 2))&&(((gI y1.cells 3)==(gI y2.cells 3))&&(((gI y1.cells 4)==(gI y2.cells 4))&&(((gS y1.cells 5)==(gS y2.cells 5))&&(((gS y1.cells 6)==(gS y2.cells 6))&&(((gI y1.cells 7)==(gI y2.cells 7))&&true)))))))))then(some false)else(next (IntKind.i64.wrap (v36+1))))else none))else none))else(kx0 ()))
def qgk (v35:Int)(Av Aw Ax Ad Ae Af:LA)(kx0:Unit->Option Bool):Nat->Int->Option Bool
 |0=>(fun _=>none)
 |n+1=>(fun v36=>qgj v35 v36 Av Aw Ax Ad Ae Af (qgk v35 Av Aw Ax Ad Ae Af kx0 n) kx0)
def qo3:=hull (qgk)
theorem q0p:qo3=qgk:=qa _
def q29:SubB Tryz.prog (TIof Tryz.prog) 87 0 (kret [.t 4] decB):=lpB tabOk follows Tryz.f16 75 (.s .z (.s (.s .z (.v [.sel [2,3] [0,1]])) (.s (.b (.s .z (.s (.d [] [(3,.e 42 qc),(8,.e 47 qc)] [] []) .z))) (.v [.sel [2,3,35,36] [0,1]])))) S136_ (qgk) (fun f v K n=>f (v.i 140 0) (v.l 3 0) (v.l 3 1) (v.l 3 2) (v.l 7 0) (v.l 7 1) (v.l 7 2) (qqe (v.l 3 0) (v.l 3 1) (v.l 3 2) (v.l 7 0) (v.l 7 1) (v.l 7 2) K) n) (fun v f K=>qgj (v.i 140 0) (v.i 144 0) (v.l 3 0) (v.l 3 1) (v.l 3 2) (v.l 7 0) (v.l 7 1) (v.l 7 2) f (qqe (v.l 3 0) (v.l 3 1) (v.l 3 2) (v.l 7 0) (v.l 7 1) (v.l 7 2) K)) (fun f v=>f (v.i 144 0)) (fun k v=>(fun z0=>k (v.ui 144 0 z0)))
def qqf (Av Aw Ax Ad Ae Af:LA)(K:Ex->Env->Mem->Option Bool):=(fun(_:Unit)=>K (.exit 2) (qo [(2,(.ptr 0 0)),(3,(.ptr 1 0))]) (qh [(some (.box true (qbv Av Aw Ax))),(some (.box true (qbv Ad Ae Af)))]))
def qgl (v53 v54:Int)(Av Aw Ax Ad Ae Af:LA)(next:Int->Option Bool)(kx2:Unit->Option Bool):Option Bool:=
 (bif(decide (v54<v53))then(oB (ixB Aw v54) fun y1=>(bif fitC qm y1.cells then(oB (ixB Ae v54) fun y2=>(bif fitC qm y2.cells then(bif(!(((gS y1.cells 0)==(gS y2.cells 0))&&(((gB y1.cells 1)==(gB y2.cells 1))&&(((gI y1.cells 2)==(gI y2.cells 2))&&(((gI y1.cells 3)==(gI y2.cells 3))&&(((gI y1.cells 4)==(gI y2.cells 4))&&true))))))then(some false)else(next (IntKind.i64.wrap (v54+1))))else none))else none))else(kx2 ()))
def qgm (v53:Int)(Av Aw Ax Ad Ae Af:LA)(kx2:Unit->Option Bool):Nat->Int->Option Bool
 |0=>(fun _=>none)
 |n+1=>(fun v54=>qgl v53 v54 Av Aw Ax Ad Ae Af (qgm v53 Av Aw Ax Ad Ae Af kx2 n) kx2)
def qo4:=hull (qgm)
theorem q0q:qo4=qgm:=qa _
def q3a:SubB Tryz.prog (TIof Tryz.prog) 87 0 (kret [.t 4] decB):=lpB tabOk follows Tryz.f16 151 (.s .z (.s (.s .z (.v [.sel [2,3] [0,1]])) (.s (.b (.s .z (.s (.d [] [(3,.e 60 qm),(8,.e 65 qm)] [] []) .z))) (.v [.sel [2,3,53,54] [0,1]])))) S137_ (qgm) (fun f v K n=>f (v.i 212 0) (v.l 3 0) (v.l 3 1) (v.l 3 2) (v.l 7 0) (v.l 7 1) (v.l 7 2) (qqf (v.l 3 0) (v.l 3 1) (v.l 3 2) (v.l 7 0) (v.l 7 1) (v.l 7 2) K) n) (fun v f K=>qgl (v.i 212 0) (v.i 216 0) (v.l 3 0) (v.l 3 1) (v.l 3 2) (v.l 7 0) (v.l 7 1) (v.l 7 2) f (qqf (v.l 3 0) (v.l 3 1) (v.l 3 2) (v.l 7 0) (v.l 7 1) (v.l 7 2) K)) (fun f v=>f (v.i 216 0)) (fun k v=>(fun z0=>k (v.ui 216 0 z0)))
def qqg (K:Ex->Env->Mem->Option Bool):=(fun(_:Unit)=>K (.exit 4) (qo []) (qh []))
def qgn (v71 v72:Int)(Av Aw Ax Ad Ae Af:LA)(next:Int->Option Bool)(kx4:Unit->Option Bool):Option Bool:=
 (bif(decide (v72<v71))then(oB (ixB Ax v72) fun y1=>(bif fitC [.s] y1.cells then(oB (ixB Af v72) fun y2=>(bif fitC [.s] y2.cells then(bif(!((gS y1.cells 0)==(gS y2.cells 0)))then(some false)else(next (IntKind.i64.wrap (v72+1))))else none))else none))else(kx4 ()))
def qgo (v71:Int)(Av Aw Ax Ad Ae Af:LA)(kx4:Unit->Option Bool):Nat->Int->Option Bool
 |0=>(fun _=>none)
 |n+1=>(fun v72=>qgn v71 v72 Av Aw Ax Ad Ae Af (qgo v71 Av Aw Ax Ad Ae Af kx4 n) kx4)
def qo5:=hull (qgo)
theorem q0r:qo5=qgo:=qa _
def q3b:SubB Tryz.prog (TIof Tryz.prog) 87 0 (kret [.t 4] decB):=lpB tabOk follows Tryz.f16 303 (.s .z (.s (.s .z (.v [.sel [] []])) (.s (.b (.s .z (.s (.d [] [(3,.e 78 [.s]),(8,.e 83 [.s])] [] []) .z))) (.v [.sel [2,3,71,72] [0,1]])))) S138_ (qgo) (fun f v K n=>f (v.i 284 0) (v.l 3 0) (v.l 3 1) (v.l 3 2) (v.l 7 0) (v.l 7 1) (v.l 7 2) (qqg K) n) (fun v f K=>qgn (v.i 284 0) (v.i 288 0) (v.l 3 0) (v.l 3 1) (v.l 3 2) (v.l 7 0) (v.l 7 1) (v.l 7 2) f (qqg K)) (fun f v=>f (v.i 288 0)) (fun k v=>(fun z0=>k (v.ui 288 0 z0)))
def qm7 (Aa Ab Ac B7 B8 B9:LA):Option Bool:=
 (bif((((Aa.length:Int) != (B7.length:Int))||((Ab.length:Int) != (B8.length:Int)))||((Ac.length:Int) != (B9.length:Int)))then(some false)else(qo3 (Aa.length:Int) Aa Ab Ac B7 B8 B9 (fun(_:Unit)=>(qo4 (Ab.length:Int) Aa Ab Ac B7 B8 B9 (fun(_:Unit)=>(qo5 (Ac.length:Int) Aa Ab Ac B7 B8 B9 (fun(_:Unit)=>(some true)) FU (0:Int))) FU (0:Int))) FU (0:Int)))
def qjd:=hull qm7
theorem q8m:qjd=qm7:=qa _
def q9z {R:Type}:EntF Tryz.prog R:=entB (nt:=87) (dec:=decB) (enc:=AV.bool) tabOk follows Tryz.func16 [.t 4] hdeB (.s .z (.s (.s (.r [(8,.g 7),(17,.g 7)] []) .z) (.s (.s .z (.b (.sub [.sel [2,3,35,36] [0,1]] q29 []))) (.s (.s .z (.b (.sub [.sel [2,3,53,54] [0,1]] q3a []))) (.s (.s .z (.b (.sub [.sel [2,3,71,72] [0,1]] q3b []))) .z))))) S139_ qm7 (fun f v=>f (v.l 1 0) (v.l 1 1) (v.l 1 2) (v.l 5 0) (v.l 5 1) (v.l 5 2))
def S141_:Shp:=⟨[(1,.one (.l (.sl 17))),(2,.one (.ptr 0 0)),(4,.one (.ptr 1 0)),(17,.one (.l (.sl 17))),(18,.one (.l (.i .i64))),(19,.one (.l (.i .i64)))],[.box true (lk qbg),.box true [(.l .nil),(.l .nil),(.l .nil)]]⟩
def qzg:AV->Option (AV×Int×Int):=decN [(.st [(.sl 8),(.sl 5),(.sl 1)]),(.one (.i .i64)),(.one (.i .i64))] fun z=>((gC (tpL z) 0),aI (gC (tpL z) 1),aI (gC (tpL z) 2))
def qtt (v1:LA)(K:Ex->Env->Mem->Option (AV×Int×Int)):=(fun z_b0_0 z_b0_1 z_b0_2=>K (.exit 0) (qo [(1,(.sl 17 v1)),(2,(.ptr 0 0)),(4,(.ptr 1 0))]) (qh [(some (.box true (qbv z_b0_0 z_b0_1 z_b0_2))),(some (.box true [.nils,.nils,.nils]))]))
def qiv (v1 v17:LA)(v18 v19:Int)(Av Aw Ax:LA)(next:Int->(List AV)->(List AV)->(List AV)->Option (AV×Int×Int))(kx0:(List AV)->(List AV)->(List AV)->Option (AV×Int×Int)):Option (AV×Int×Int):=
 (bif(decide (v19<v18))then(oB (ixB v17 v19) fun y1=>(bif fitC qd8 y1.cells then(oB (qdl Av Aw Ax (gI y1.cells 0) (gB y1.cells 1) (gI y1.cells 2) (gI y1.cells 3) (gI y1.cells 4) (gI y1.cells 5) (gS y1.cells 6) (gS y1.cells 7) (gI y1.cells 8) (gI y1.cells 9) (gI y1.cells 10) (gS y1.cells 11) (gB y1.cells 12) (gI y1.cells 13) (gI y1.cells 14) (gI y1.cells 15) (gS y1.cells 16)) fun r2=>(bif(r2.2 != (0:Int))then(some ((.agg [(.sl 8 ([]:List AV)),(.sl 5 ([]:List AV)),(.sl 1 ([]:List AV))]),v19,r2.2))else(next (IntKind.i64.wrap (v19+1)) (gL r2.1.cells 0) (gL r2.1.cells 1) (gL r2.1.cells 2))))else none))else(kx0 Av Aw Ax))
def qiw (v1 v17:LA)(v18:Int)(kx0:(List AV)->(List AV)->(List AV)->Option (AV×Int×Int)):Nat->Int->(List AV)->(List AV)->(List AV)->Option (AV×Int×Int)
 |0=>(fun _ _ _ _=>none)
 |n+1=>(fun v19 Av Aw Ax=>qiv v1 v17 v18 v19 Av Aw Ax (qiw v1 v17 v18 kx0 n) kx0)
def qzh:=hull (qiw)
theorem q67:qzh=qiw:=qa _
def q8n:SubB Tryz.prog (TIof Tryz.prog) 40 0 (kret [(.cell 4 true 3),.t 5,.t 6] qzg):=lpB tabOk follows Tryz.f19 151 (.s .z (.s (.s .z (.v [.sel [1,2,4] [0,1]])) (.s (.b (.s (.r [(1,.p (.etac 22 qd8))] []) (.s (.r [(2,.k qkt.b)] []) (.s (.s .z (.s (.s .z (.v [.nilc 1 0 8,.nilc 1 1 5,.nilc 1 2 1])) .z)) .z)))) (.v [.sel [1,2,4,17,18,19] [0,1]])))) S141_ (qiw) (fun f v K n=>f (v.l 4 0) (v.l 68 0) (v.i 72 0) (qtt (v.l 4 0) K) n) (fun v f K=>qiv (v.l 4 0) (v.l 68 0) (v.i 72 0) (v.i 76 0) (v.l 3 0) (v.l 3 1) (v.l 3 2) f (qtt (v.l 4 0) K)) (fun f v=>f (v.i 76 0) (v.l 3 0) (v.l 3 1) (v.l 3 2)) (fun k v=>(fun z0 z1 z2 z3=>k ((((v.ui 76 0 z0).ul 3 0 z1).ul 3 1 z2).ul 3 2 z3)))
def qri (Aa Ab Ac v1:LA):Option (AV×Int×Int):=
 (bif(decide ((v1.length:Int)>64))then(some ((.agg [(.sl 8 ([]:List AV)),(.sl 5 ([]:List AV)),(.sl 1 ([]:List AV))]),(0:Int),(9:Int)))else(oB (qn2 Aa Ab Ac) fun r1=>(qzh v1 v1 (v1.length:Int) (fun b0_0q2 b0_1q3 b0_2q4=>(some ((.agg [(.sl 8 b0_0q2),(.sl 5 b0_1q3),(.sl 1 b0_2q4)]),(v1.length:Int),(0:Int)))) FU (0:Int) (gL r1.cells 0) (gL r1.cells 1) (gL r1.cells 2))))
def q0s:=hull qri
theorem qbff:q0s=qri:=qa _
def qbf3 {R:Type}:EntF Tryz.prog R:=entB (nt:=40) (dec:=qzg) (enc:=(fun r=>.tup [qel (.st [(.sl 8),(.sl 5),(.sl 1)]) r.1,.int .i64 r.2.1,.int .i64 r.2.2])) tabOk follows Tryz.func19 [(.cell 4 true 3),.t 5,.t 6] (hdeN fun _=>rfl) (.s .z (.s (.s .z (.s (.s .z (.v [.nilc 1 0 8,.nilc 1 1 5,.nilc 1 2 1])) .z)) (.s (.r [(1,.k qqz.b)] []) (.s (.s .z (.b (.sub [.sel [1,2,4,17,18,19] [0,1]] q8n []))) .z)))) S0_ qri (fun f v=>f (v.l 1 0) (v.l 1 1) (v.l 1 2) (v.l 4 0))
def S143_:Shp:=⟨[(1,.one (.l (.sl 17))),(2,.one (.ptr 0 0))],[.box true (lk qbg)]⟩
end
end Go.Proofs.YtoaaphlopbabeaaGreatDoor.Dn
